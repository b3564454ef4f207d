import Derived.Test.YthephioccidfgaaGreatDoorVs12
import Derived.Test.YthephioccidfgaaGreatDoorVs16
set_option linter.unusedSimpArgs false
set_option linter.unusedVariables false
set_option linter.defProp false
set_option maxRecDepth 100000
namespace Go.Proofs.YthephioccidfgaaGreatDoor
open Go.Aw Go.Aw.D Go.Proofs Ty
namespace Rx
open Sq
open Go.Nu
def YR(x:Instance){s i:Nat}(A:i<=62):If x (s:Int) i=(!BH (s:Int) i||OJ x i):=by
 unfold If;rw[decide_eq_false (show ¬((i:Int)>62)by omega),Xbt,vV A,awB,CM (by omega) (by omega),Xao,Xcm]
 grind
theorem VN{x:Instance}(F:Acc x){i:Int}(h0:0<=i)(h1:i<(x.orders.length:Int)):eN x.orders i=xQ x i:=by
 obtain⟨o,E⟩:=aI (show i.toNat<x.orders.length by omega);have A:=F.order o (Xac E);have J:bS i x.orders.length=false:=by grind[bS]
 unfold eN xQ;rw[if_neg (by grind),E];exact Ha A.pick A.drop
theorem azO{x:Instance}(E:Acc x)(l:List Visit)(v:Visit):Xc x l v=EH x v.order l:=by
 unfold Xc EH;rw[List.not_any_eq_all_not];refine vG fun q F=>?_
 have A:=E.beforeB q F;have e:(decide (q.a<0)||decide (q.a>=(x.orders.length:Int)))=false:=by
  have:=A.a
  grind
 unfold apO;rw[e,Xbt,VN E A.a.1 A.a.2]
 grind[nM,tS]
theorem Sa{x:Instance}{i:Int}{v:Visit}(h:v∈xQ x i):v.order=i:=by grind[xQ,eK]
def Er(l:List Visit)(v:Visit):(!decide (cD l v>=0))=decide (cD l v<0):=by grind
def azT(l:List Visit)(v:Visit):tS l v=decide (cD l v>=0):=by simp[Er,tS]
def aAz(l:List Visit):∀V:List Visit,V.length<=2->V.Nodup->V.filter (fun v=>(!decide (cD l v>=0))&&Ce V l v)=ayA l V V.length
 | [],_,_=>rfl
 | [a],_,_=>by
  have A:Ce [a] l a=true:=by grind[Ce,List.takeWhile_cons,eqV]
  rw[List.filter_cons,A,Xbo,Er];show _=Nl l [a] 0++[]
  grind[Nl]
 | [a,b],_,hn=>by
  have F:a≠b:=by grind
  have T:∀u:Visit,eqV u u=true:=fun u=>by grind[eqV]
  have J:eqV a b=false:=by
   unfold eqV;obtain⟨o,d⟩:=a;obtain⟨O,U⟩:=b
   grind
  have A:Ce [a,b] l a=true:=by grind[Ce,List.takeWhile_cons]
  have E:Ce [a,b] l b=tS l a:=by unfold Ce;simp_all
  rw[List.filter_cons,List.filter_cons,A,E,Xbo,Er,Er,azT];show _=Nl l [a,b] 0++(Nl l [a,b] 1++[])
  grind[Nl]
 | _::_::_::_,h,_=>by grind
def TK(x:Instance)(i:Int):(xQ x i).Nodup:=by grind[xQ,eK]
def GB{x:Instance}(E:Acc x)(O:x.orders.length<=62)(s:Nat)(l:List Visit):Ot x (s:Int) l=oM x (s:Int) l:=by
 unfold Ot RL oM wN;rw[List.flatMap_def,List.flatMap_def]
 congr 1
 refine List.map_congr_left fun i A=>?_
 have A:=Xai.1 A;unfold T3 AW apK;rw[YR x (show i<=62 by omega)];cases h1:(!BH (s:Int) (i:Nat)||OJ x i)with
 | true=>rfl
 | false=>
  rw[Xbt,if_neg (by simp:¬false=true),VN E (by omega) (by omega)];have F:(xQ x (i:Nat)).filter (rC x l)=(xQ x (i:Nat)).filter fun v=>((!decide (cD l v>=0))&&Ce (xQ x (i:Nat)) l v)&&EH x (i:Nat) l:=
   List.filter_congr fun v T=>by grind[Sa,rC,azO,VN]
  rw[F];cases J:EH x (i:Nat) l<;>simp_all[aAz,afV,TK]
end Rx
namespace Rx
open Sq
open Go.Nu
structure Cx(x:Instance)(s:Nat):Prop where
 ck:kZ x=[]
 n8:x.orders.length<=8
 pos:0<s
 top:s<2^x.orders.length
section
variable{x:Instance}{s:Nat}{l:List Visit}
def LB(x:Instance)(s:Nat):List Visit:=(Sq.eY (s:Int)).flatMap fun i=>eN x.orders i
theorem Je:(LB x s).length=jK x (s:Int):=by unfold LB;rw[afG];rfl
theorem Cc{a:Int}:a∈Sq.eY (s:Int)↔∃i:Nat,a=(i:Nat)/\i<63/\s.testBit i=true:=by grind[Sq.eY,Sq.qP,jD,Xao]
theorem F5(h:Cx x s){i:Nat}(A:s.testBit i=true):i<x.orders.length:=by
 false_or_by_contra
 rename_i E;rw[Xce (Xbh h.top (Xas (by decide) (by omega)))]at A;cases A
theorem Cj{i:Nat}(A:i<x.orders.length){v:Visit}(E:v∈eN x.orders (i:Nat)):v.order=(i:Nat):=by grind[tD,fL]
theorem Eo(h:Cx x s){v:Visit}:v∈LB x s↔∃i:Nat,i<x.orders.length/\s.testBit i=true/\v∈eN x.orders (i:Nat):=by
 unfold LB;rw[Xbp];constructor
 ·rintro⟨a,F,E⟩;obtain⟨i,rfl,_,A⟩:=Cc.1 F;exact⟨i,F5 h A,A,E⟩
 ·rintro⟨i,J,A,E⟩;have:=h.n8
  grind[Cc]
def V5(h:Cx x s)(A:Sq.jT x (s:Int) l):∀v∈l,v∈LB x s:=fun v E=>by
 obtain⟨a,b,e⟩:=List.append_of_mem E;have:=h.n8;obtain⟨i,O,F,J⟩:=apA (by omega) (A a v b e)
 grind[jD,Xao,Eo]
theorem Ul(h:Cx x s)(A:Sq.jT x (s:Int) l):∀v∈l,∃i:Nat,v.order=(i:Nat)/\i<x.orders.length/\s.testBit i=true:=fun v E=>by
 obtain⟨i,O,F,J⟩:=(Eo h).1 (V5 h A v E)
 grind[Cj]
def aiU{p:List Visit}{v:Visit}(h:v∈oM x (s:Int) p):¬v∈p:=by
 unfold oM wN at h;obtain⟨i,A,h⟩:=Xbp.1 h;unfold AW at h;split at h
 ·cases h
 have h:=(Xbg.1 h).2;unfold rC at h;simp only[Xah,Xau,decide_eq_false_iff_not]at h
 grind[zD,K6]
def amB(A:Sq.jT x (s:Int) l):Dis l:=aAV fun j v F E=>by
 have e:l=l.take j++v::l.drop (j+1):=by grind[zS,List.take_append_drop]
 exact aiU (A _ _ _ e) E
def U8(h:Cx x s)(A:Sq.jT x (s:Int) l):l.length<=jK x (s:Int):=by rw[<-Je];exact Xz l _ (amB A) (V5 h A)
def Nd(h:Cx x s)(A:Sq.jT x (s:Int) l)(F:l.length=jK x (s:Int)):oM x (s:Int) l=[]:=by
 cases e:oM x (s:Int) l with
 | nil=>rfl
 | cons v r=>
  have E:=U8 h (A.snoc (v:=v) (by grind))
  grind
def aoC(h:Cx x s)(A:Sq.jT x (s:Int) l)(E:l.length=jK x (s:Int)):∀v∈LB x s,v∈l:=
 (Zn (fun _=>0) l _ (amB A) (V5 h A) (by rw[Je,E])).2
theorem uW{i:Int}:iE l i=true↔∃v∈l,v.order=i:=by grind[iE]
def Kp(h:Cx x s)(E:Sq.jT x (s:Int) l):(dM l).1=(s:Int)↔∀i:Nat,i<x.orders.length->iE l (i:Nat)=s.testBit i:=by
 have Y:=h.n8;have X:=Ul h E;have e:(dM l).1=((jF l:Nat):Int):=by
  rw[<-Lk];unfold iF;rw[if_pos]
  grind[okV]
 have A:∀i:Nat,(jF l).testBit i=iE l (i:Nat):=fun i=>by
  rw[rQ];unfold iE
  grind
 rw[e];constructor
 ·intro F i O;rw[<-A i,show jF l=s by exact_mod_cast F]
 ·intro F;have:jF l=s:=Nat.eq_of_testBit_eq fun i=>by
   by_cases O:i<x.orders.length
   ·grind
   ·have h1:s.testBit i=false:=by grind[F5]
    rw[h1,A];cases J:iE l (i:Nat)with
    | false=>rfl
    | true=>
     obtain⟨v,T,U⟩:=uW.1 J
     grind
  rw[this]
def Ho(h:Cx x s)(A:Sq.jT x (s:Int) l)(T:l.length=jK x (s:Int)):(dM l).1=(s:Int):=by
 refine(Kp h A).2 fun i E=>?_
 cases O:s.testBit i with
 | true=>
  have U:=Wd h.ck E;have F:∃v,v∈eN x.orders (i:Nat):=by rw[tD E];unfold fL;simp_all;grind
  obtain⟨v,J⟩:=F;exact uW.2 ⟨v,aoC h A T v ((Eo h).2 ⟨i,E,O,J⟩),Cj E J⟩
 | false=>grind[uW,Ul]
def Zh:∀{a b:List Visit},Dis a->Dis b->(∀v∈a,¬v∈b)->Dis (a++b)
 | [],b,_,hb,_=>hb
 | v::a,b,ha,hb,hd=>by
  refine⟨fun A=>?_,Zh ha.2 hb fun u E=>hd u (List.mem_cons_of_mem _ E)⟩;rcases Xat.1 A with A|A
  ·exact ha.1 A
  ·exact hd v List.mem_cons_self A
def atA{i:Nat}(A:i<x.orders.length):Dis (eN x.orders (i:Nat)):=by grind[tD,fL,Dis]
def Uv:∀M:List Nat,M.Nodup->(∀i∈M,i<x.orders.length)->Dis (M.flatMap fun i=>eN x.orders (i:Nat))
 | [],_,_=>trivial
 | i::M,hn,hM=>by
  obtain⟨h1,A⟩:=List.nodup_cons.1 hn;rw[List.flatMap_cons];refine Zh (atA (hM i (by simp))) (Uv M A fun k J=>hM k (by grind)) fun v F E=>?_
  obtain⟨k,J,O⟩:=Xbp.1 E;have T:=Cj (hM i (by simp)) F
  grind[Cj]
def amD(h:Cx x s):Dis (LB x s):=by
 have e:LB x s=((List.range 63).filter fun i=>cR (s:Int) (i:Nat)).flatMap fun i=>eN x.orders (i:Nat):=by grind[LB,Sq.eY,Sq.qP,List.flatMap_map]
 rw[e];refine Uv _ (List.nodup_range.filter _) fun i E=>?_
 obtain⟨h1,A⟩:=Xbg.1 E;have h1:=Xai.1 h1;rw[jD (by omega) (by omega),Xao]at A;exact F5 h A
def aaK(h:Cx x s)(J:Sq.jT x (s:Int) l)(Y:SeqB x l)(ho:(dM l).1=(s:Int)):l.length=jK x (s:Int):=by
 have h1:=U8 h J;have Z:=(Kp h J).1 ho;have h2:(LB x s).length<=l.length:=Xz _ l (amD h) fun v hv=>by
  obtain⟨i,T,U,E⟩:=(Eo h).1 hv;obtain⟨u,X,aa⟩:=uW.1 ((Z i T).trans U);obtain⟨a,d,F,ha,O,_⟩:=Y.vis u X;have e:a=i:=by grind
  subst e;rw[tD T]at E;by_cases A:Aa (cT x a)=true
  ·obtain⟨m1,m2,_⟩:=Y.pair a T A d (F▸X);rw[xP A]at E
   grind
  ·have A:Aa (cT x a)=false:=by grind
   have ab:v=u:=by rw[F];unfold Aa at A;unfold fL at E;unfold stR at O;cases d<;>grind
   grind
 grind[Je]
end
end Rx
namespace Rx
open Sq
open Go.Nu
abbrev rtQ(k:Nat)(l:List Visit):Route:=⟨(k:Nat),0,[],l⟩
def azE{x:Instance}(h:Acc x){k:Nat}{t:VType}(ht:x.types[k]?=some t){l:List Visit}(A:(gE x (rtQ k l)).2=0):
  bW x (rtQ k l)=true/\∃c m,c.length=l.length+1/\jL x t (rtQ k l) c 0 (eZ t (rtQ k l))=.ok m:=by
 unfold gE at A;by_cases Y:(!bW x (rtQ k l)||decide (((rtQ k l).rests.length:Int)>((rtQ k l).visits.length:Int)+1))=true
 ·grind
 rw[if_neg Y]at A;have F:x.types[(rtQ k l).type.toNat]?=some t:=by grind
 rw[F]at A;have T:bW x (rtQ k l)=true:=by grind
 refine⟨T,?_⟩;obtain⟨Z,_⟩:=h.route T F
 change (uM x t (rtQ k l)).2=0 at A
 have O:=akB x t (rtQ k l) (l.length+1) (Xae _);have e:uM x t (rtQ k l)=match dpP x t (rtQ k l) (fA x l) (l.length+1)with
  | []=>(Fq (Bu x t (fA x l) (dE (rtQ k l)) 0 (eZ t (rtQ k l))),GZ (Bu x t (fA x l) (dE (rtQ k l)) 0 (eZ t (rtQ k l))))
  | l0::ls=>((ls.foldl Sq.jX l0).sheet,0):=rfl
 change dpP x t (rtQ k l) (fA x l) (l.length+1)=_ at O
 rw[e,O]at A;cases E:dpL x t (rtQ k l) (l.length+1)with
 | nil=>
  exfalso;rw[E]at A
  change GZ (Bu x t (fA x l) (dE (rtQ k l)) 0 (eZ t (rtQ k l)))=0 at A
  have J:=jU (r:=rtQ k l) (by simp);have U:=NJ x t (rtQ k l) (dE (rtQ k l)) 0 (eZ t (rtQ k l)) (by omega)
  change Bu x t (fA x l) _ _ _=_ at U
  rw[U]at A;obtain⟨e,X⟩:=(XW Z).1 E (dE (rtQ k l)) J ((uU (by simp)).2 (by simp));rw[X]at A;exact B6 _ _ _ _ X A
 | cons l0 ls=>
  obtain⟨bs,h1,_,h3⟩:=zC (x:=x) (t:=t) (r:=rtQ k l) (l.length+1) l0 (by grind)
  grind
def RJ{x:Instance}{t:VType}{r:Route}:∀(a b:List Bool) (k:Nat) (l m:Lab),jL x t r (a++b) k l=.ok m->∃A,jL x t r a k l=.ok A
 | [],b,k,l,m,_=>⟨l,rfl⟩
 | c::a,b,k,l,m,h=>by
  rw[List.cons_append]at h;unfold jL at h |-;cases e:fP x t r k l c with
  | error e'=>rw[e]at h;cases h
  | ok l'=>rw[e]at h;exact RJ a b (k+1) l' m h
theorem akE{s u:Sta}(h:Fw s u=true):u=s:=by unfold Fw at h;obtain⟨a,b⟩:=s;simp_all
theorem GT{l:List Sta}{s u:Sta}(h:u∈l):u∈xL l s:=by grind[xL]
theorem adQ(l:List Sta)(s:Sta):s∈xL l s:=by grind[xL,akE]
theorem WW{t:VType}{l:List Sta}{d dr:Int}{u:Sta}(h:u∈l):u∈mW t l d dr:=GT (GT h)
def JM(t:VType)(l:List Sta)(m:Lab)(b:Bool):(⟨fI t m b,nY m b⟩:Sta)∈mW t l m.ready m.since:=by grind[mW,fI,nY,GT,adQ]
def amT{n:Network}{t:VType}{src:Int}{st:Stop}{out:List Sta}{a u:Sta}(h:u∈out):u∈Fg n t src st out a:=by grind[Fg,WW]
def Mi{n:Network}{t:VType}{src:Int}{st:Stop}{u:Sta}:∀(l out:List Sta),u∈out->u∈l.foldl (Fg n t src st) out
 | [],out,h=>h
 | a::l,out,h=>Mi l _ (amT h)
def MQ{n:Network}{t:VType}{src:Int}{st:Stop}{u a:Sta}(A:∀out,u∈Fg n t src st out a):∀(l out:List Sta),a∈l->u∈l.foldl (Fg n t src st) out
 | b::l,out,h=>by
  rcases Xba.1 h with rfl|h
  ·exact Mi l _ (A out)
  ·exact MQ A l _ h
def aiE(x:Instance)(t:VType)(a:Int×List Sta)(v:Visit):Int×List Sta:=((dX x v).1.place,yI x.net t a.1 (dX x v).1 a.2)
def stF(x:Instance)(t:VType)(l:List Visit):Int×List Sta:=l.foldl (aiE x t) (t.src,mW t [] t.start 0)
def Lm(x:Instance)(t:VType)(l:List Visit)(v:Visit):stF x t (l++[v])=aiE x t (stF x t l) v:=by grind[stF]
theorem J7{x:Instance}{v:Visit}(h:(bI x v).2=true):dX x v=((bI x v).1,0):=by simp_all[dX]
def alV{x:Instance}{t:VType}{k:Nat}{l:List Visit}(h:∀v∈l,(bI x v).2=true):∀j,j<=l.length->(stF x t (l.take j)).1=eT x t (rtQ k l) j
 | 0,_=>rfl
 | j+1,hj=>by
  obtain⟨v,A⟩:=aI (show j<l.length by omega);rw[aZ A,Lm];show(dX x v).1.place=_;rw[J7 (h v (Xac A))];show(bI x v).1.place=(match (rtQ k l).visits[j]? with|some v=>(bI x v).1.place|none=>0)
  grind
def apD{x:Instance}{t:VType}{k:Nat}{l:List Visit}{c:List Bool}(h0:0<=t.start)(T:∀v∈l,(bI x v).2=true)(hc:c.length=l.length+1):
  ∀j,j<=l.length->∀m,jL x t (rtQ k l) (c.take j) 0 (eZ t (rtQ k l))=.ok m->∀b,(⟨fI t m b,nY m b⟩:Sta)∈(stF x t (l.take j)).2
 | 0,_,m,A,b=>by
  have A:eZ t (rtQ k l)=m:=by
   have A:(Except.ok (eZ t (rtQ k l)):Except Int Lab)=.ok m:=A
   grind
  subst A;have e:eZ t (rtQ k l)=⟨t.start,0,aS⟩:=by simp_all[eZ,eF,if_neg]
  have:=JM t [] ⟨t.start,0,aS⟩ b;rw[e];exact this
 | j+1,hj,m,A,b=>by
  obtain⟨v,J⟩:=aI (show j<l.length by omega);obtain⟨q,Z⟩:=aI (show j<c.length by omega);rw[aZ Z]at A;have E:(c.take j).length=j:=by grind
  rw[mN,E]at A;cases X:jL x t (rtQ k l) (c.take j) 0 (eZ t (rtQ k l))with
  | error e=>grind
  | ok m'=>
   rw[X]at A;have A:fP x t (rtQ k l) (0+j) m' q=.ok m:=A;rw[Xcj]at A;unfold fP at A;rw[show(rtQ k l).visits[j]?=some v from J]at A;obtain⟨Y,g2,g3,rfl⟩:=FG (k:=0) A;have ih:=apD h0 T hc j (by omega) m' X q;have F:=J7 (T v (Xac J));have O:=alV (t:=t) (k:=k) T j (by omega);rw[aZ J,Lm];unfold aiE yI;rw[F,O];refine MQ (fun out=>?_) _ _ ih;have U:fB x.net t.profile (eT x t (rtQ k l) j) (bI x v).1.place (fI t m' q)=goL x t (eT x t (rtQ k l) j) (bI x v).1.place m' q:=rfl;unfold Fg;simp only[U];have c1:((goL x t (eT x t (rtQ k l) j) (bI x v).1.place m' q).2.2 != 0||decide (W (W (nY m' q+(goL x t (eT x t (rtQ k l) j) (bI x v).1.place m' q).1)-fI t m' q)>t.drive))=false:=by
    rw[Y];have:¬mL x t (eT x t (rtQ k l) j) (bI x v).1.place m' q>t.drive:=by omega
    grind[mL]
   have c2:Rx.nB (bI x v).1 (goL x t (eT x t (rtQ k l) j) (bI x v).1.place m' q).1=(W (eF (goL x t (eT x t (rtQ k l) j) (bI x v).1.place m' q).1 (bI x v).1.start+(bI x v).1.service),0):=by simp_all[Rx.nB]
   rw[if_neg (by grind),c2,if_neg (by simp)];exact JM t out ⟨W (eF (goL x t (eT x t (rtQ k l) j) (bI x v).1.place m' q).1 (bI x v).1.start+(bI x v).1.service),mL x t (eT x t (rtQ k l) j) (bI x v).1.place m' q,iV x t (eT x t (rtQ k l) j) (bI x v).1 j m' q⟩ b
def Zj{x:Instance}(h:Acc x){k:Nat}{t:VType}(E:x.types[k]?=some t){l:List Visit}(O:(gE x (rtQ k l)).2=0):(∀v∈l,(bI x v).2=true)/\∀j,j<=l.length->(stF x t (l.take j)).2≠[]:=by
 obtain⟨Y,c,m,U,F⟩:=azE h E O;have J:∀v∈l,(bI x v).2=true:=by simp_all[bW]
 refine⟨J,fun j X Z=>?_⟩;rw[<-List.take_append_drop j c]at F;obtain⟨T,A⟩:=RJ _ _ _ _ _ F;have h0:=(h.type t (Xac E)).start.1;have:=apD (k:=k) h0 J U j X T A false
 grind
end Rx
namespace Rx
open Sq
open Go.Nu
section
variable{x:Instance}{s:Nat}{l:List Visit}
structure SeqF(x:Instance)(l:List Visit):Prop where
 off:(l.any fun v=>uN x v.order)=false
 apart:(x.apart.any fun q=>iE l q.a&&iE l q.b)=false
 before:(x.before.any fun q=> !IH l q.a q.b)=false
def Zi(h:oF x l=0):SeqF x l:=by
 unfold oF at h;split at h
 ·cases h
 split at h
 ·cases h
 next E=>
 split at h
 ·cases h
 split at h
 ·cases h
 split at h
 ·cases h
 next F=>
 split at h
 ·cases h
 next A=>
 exact⟨by grind,by grind,by grind⟩
def IK(l:List Visit)(i:Nat):Nat:=l.findIdx fun v=>v.order == (i:Int)
def Zz{i:Nat}(h:iE l (i:Nat)=true):IK l i<l.length/\Sq.cT l (IK l i)=(i:Int):=by
 obtain⟨v,E,F⟩:=uW.1 h;have A:IK l i<l.length:=List.findIdx_lt_length_of_exists ⟨v,E,by grind⟩;refine⟨A,?_⟩;have h3:(l[IK l i]'(A)).order=(i:Int):=by have:=List.findIdx_getElem (xs:=l) (p:=fun v:Visit=>v.order == (i:Int)) (w:=A);exact Xay.1 this
 grind[Sq.cT]
theorem avY(x:Instance)(i:Int):Sh x i=uN x i:=by rfl
def Xr(Y:Acc x)(hf:SeqF x l){q:Pair}(E:q∈x.before){a b:Nat}(Z:q.a=(a:Nat))(O:q.b=(b:Nat))(F:iE l (b:Nat)=true):iE l (a:Nat)=true/\IK l a<IK l b:=by
 have A:=(Y.beforeB q E).ne;have h1:IH l q.a q.b=true:=by
  have:=Xap.1 hf.before q E
  grind
 rw[Ew A,Z,O,F]at h1;simp only[Xcl,Xbt,Xah,Xau]at h1;refine⟨h1.1,?_⟩;obtain⟨T,U⟩:=Zz h1.1;obtain⟨q1,X⟩:=Zz F
 false_or_by_contra
 rename_i hc;have J:IK l a≠IK l b:=fun e=>by grind
 have:Nt l (a:Nat) (b:Nat)=true:=GJ.2 ⟨IK l a,IK l b,by omega,T,U,X⟩
 grind
def ChI(s:Nat)(l:List Visit)(M:List Nat):Prop:=∀(i u:Nat),M[i]?=some u->∀j,u.testBit j=true->s.testBit i=true->s.testBit j=true/\IK l j<IK l i
def ajR(h:Cx x s)(hx:Acc x)(hf:SeqF x l)(hb:∀i:Nat,i<x.orders.length->iE l (i:Nat)=s.testBit i){M:List Nat}(U:ChI s l M){q:Pair}(hq:q∈x.before):ChI s l (BY M q):=by
 unfold BY;split
 ·exact U
 next hc=>
 have T:=hx.beforeB q hq;obtain⟨a,ha⟩:=Int.eq_ofNat_of_zero_le T.a.1;obtain⟨b,F⟩:=Int.eq_ofNat_of_zero_le T.b.1;have Z:a<x.orders.length:=by have:=T.a.2;omega
 have Y:b<x.orders.length:=by have:=T.b.2;omega
 simp only[Xax,decide_eq_true_eq,not_or]at hc;rw[ha,F]at hc |-;rw[Xao,Xao];obtain⟨ua,O⟩:=aI (l:=M) (k:=a) (by omega);obtain⟨ub,J⟩:=aI (l:=M) (k:=b) (by omega);rw[aqO O,aqO J];intro i u E j A hs;by_cases e:i=b
 ·subst e;rw[List.getElem?_set_self (by omega)]at E;have E:=Option.some.inj E;subst E;have hB:iE l (i:Nat)=true:=(hb i Y).trans hs;obtain⟨hA,aa⟩:=Xr hx hf hq ha F hB;have X:s.testBit a=true:=(hb a Z).symm.trans hA;rw[Nat.testBit_or,Nat.testBit_or,Xax,Xax]at A;rcases A with(A|A)|A
  ·exact U i ub J j A hs
  ·obtain⟨h1,h2⟩:=U a ua O j A X
   grind
  grind
 ·rw[List.getElem?_set_ne (by omega)]at E;exact U i u E j A hs
def S5(h:Cx x s)(E:Acc x)(F:SeqF x l)(A:∀i:Nat,i<x.orders.length->iE l (i:Nat)=s.testBit i):∀(L:List Pair) (M:List Nat),(∀q∈L,q∈x.before)->ChI s l M->ChI s l (L.foldl BY M)
 | [],M,_,hM=>hM
 | q::L,M,hL,hM=>S5 h E F A L _ (fun p J=>hL p (by grind)) (ajR h E F A hM (hL q (by simp)))
def Ym(h:Cx x s)(F:Acc x)(E:SeqF x l)(A:∀i:Nat,i<x.orders.length->iE l (i:Nat)=s.testBit i):∀(f:Nat) (M:List Nat),ChI s l M->ChI s l (Ux x.before f M)
 | 0,M,hM=>hM
 | f+1,M,hM=>by
  unfold Ux;split
  ·exact hM
  ·exact Ym h F E A f _ (S5 h F E A x.before M (fun q J=>J) hM)
def Vq(h:Cx x s)(E:Acc x)(F:SeqF x l)(A:∀i:Nat,i<x.orders.length->iE l (i:Nat)=s.testBit i):ChI s l (uZ x.orders.length x.before):=by
 unfold uZ;refine Ym h E F A _ _ fun i u J j O=>?_
 grind
def UU(h:Cx x s)(U:Acc x)(X:Sq.jT x (s:Int) l)(Y:oF x l=0)(ho:(dM l).1=(s:Int)):yU x (s:Int)=0:=by
 have O:=Zi Y;have Z:=(Kp h X).1 ho;have hn:=h.n8;have J:∀{a:Int},0<=a->a<(x.orders.length:Int)->cR (s:Int) a=iE l a:=fun {a} h0 h1=>by grind[Int.eq_ofNat_of_zero_le,jD,Xao]
 unfold yU;rw[if_neg (by omega)];rw[if_neg (by
  rw[B9 fun a T=>?_];simp
  grind[Cc,F5])]
 rw[if_neg (by
  rw[B9 fun a T=>?_];simp;obtain⟨i,rfl,_,A⟩:=Cc.1 T;have hi:=F5 h A;obtain⟨v,hv,ab⟩:=uW.1 ((Z i hi).trans A);have:=Xap.1 O.off v hv
  grind[avY])]
 rw[if_neg (by
  rw[B9 fun q F=>?_];simp;have E:=U.apartB q F;rw[J E.a.1 E.a.2,J E.b.1 E.b.2];have:=Xap.1 O.apart q F
  grind)]
 rw[if_neg (by
  rw[B9 fun q F=>?_];simp;have E:=U.beforeB q F;rw[J E.a.1 E.a.2,J E.b.1 E.b.2];have h1:=Xap.1 O.before q F
  grind[Ew])]
 rw[if_neg];rw[B9 fun a T=>?_]
 ·simp
 obtain⟨i,rfl,aa,A⟩:=Cc.1 T;have hi:=F5 h A;have hL:=Ii x.orders.length x.before;obtain⟨u,hu⟩:=aI (l:=uZ x.orders.length x.before) (k:=i) (by omega);rw[Xao,aqO hu,jD (by omega) (by omega),Xao];cases e:u.testBit i with
 | false=>rfl
 | true=>have:=(Vq h U O Z i u hu i e A).2;omega
end
end Rx
namespace Rx
open Sq
open Go.Nu
def EF(x:Instance)(r:Route):Int×Int:=if((oO x r).2.2 != 0)=true then(0,(oO x r).2.2)else fV (oO x r).2.1
def Le{x:Instance}(A:Acc x)(r:Route):EF x r=cY x r:=by unfold EF cY;rw[A.eval r]
def pO(x:Instance)(b:Column×Bool)(l:List Visit):Column×Bool:=
 if((dM l).1 != b.1.set||(oO x ⟨b.1.type,0,[],l⟩).2.2 != 0)=true then b
 else if((EF x ⟨b.1.type,0,[],l⟩).2 != 0||(b.2&& !tA ⟨b.1.type,b.1.set,(EF x ⟨b.1.type,0,[],l⟩).1,⟨b.1.type,0,[],l⟩⟩ b.1))=true then b
 else(⟨b.1.type,b.1.set,(EF x ⟨b.1.type,0,[],l⟩).1,⟨b.1.type,0,[],l⟩⟩,true)
def iZ(x:Instance):Nat->Column×Bool->List Visit->Column×Bool
 | 0,b,_=>b
 | f+1,b,l=>if((Ot x b.1.set l).length:Int)=0 then pO x b l else(Ot x b.1.set l).foldl (fun b v=>iZ x f b (l++[v])) b
def acS(x:Instance)(b:Column×Bool)(l:List Visit):(pO x b l).1.type=b.1.type/\(pO x b l).1.set=b.1.set:=by grind[pO]
def NF{α:Type}{g:Column×Bool->α->Column×Bool}(A:∀b v,(g b v).1.type=b.1.type/\(g b v).1.set=b.1.set):∀(vs:List α) (b:Column×Bool),(vs.foldl g b).1.type=b.1.type/\(vs.foldl g b).1.set=b.1.set
 | [],b=>⟨rfl,rfl⟩
 | v::vs,b=>by obtain⟨h1,E⟩:=NF A vs (g b v);obtain⟨h3,F⟩:=A b v;exact⟨h1.trans h3,E.trans F⟩
def BO(x:Instance):∀(f:Nat) (b:Column×Bool) (l:List Visit),(iZ x f b l).1.type=b.1.type/\(iZ x f b l).1.set=b.1.set
 | 0,b,l=>⟨rfl,rfl⟩
 | f+1,b,l=>by
  unfold iZ;split
  ·exact acS x b l
  ·exact NF (fun b v=>BO x f b _) _ b
def pP{x:Instance}{r:Route}(A:(cG x r).2.2=0):oF x r.visits=0/\(gE x r).2=0:=by
 unfold cG at A
 grind
section
variable{x:Instance}{s k:Nat}{t:VType}
def Gv(x:Instance)(s k:Nat)(l:List Visit):Prop:=∀L,l <+: L->Sq.jT x (s:Int) L->¬((dM L).1=(s:Int)/\(cG x (rtQ k L)).2.2=0)
def Gv.more{l:List Visit}(h:Gv x s k l)(v:Visit):Gv x s k (l++[v]):=fun L A E=>h L ((List.prefix_append l [v]).trans A) E
def YL(E:Acc x){b:Column×Bool}(A:b.1.type=(k:Int)/\b.1.set=(s:Int)){l:List Visit}(h:¬((dM l).1=(s:Int)/\(cG x (rtQ k l)).2.2=0)):pO x b l=b:=by
 unfold pO;rw[if_pos];rw[A.1,A.2,<-E.eval]
 grind
def Y9{α:Type}{g:Column×Bool->α->Column×Bool}{b:Column×Bool}:∀vs:List α,(∀v∈vs,g b v=b)->vs.foldl g b=b
 | [],_=>rfl
 | v::vs,h=>by rw[Xbd,h v (by simp)];exact Y9 vs fun u A=>h u (by simp[A])
theorem CT(A:Acc x)(E:x.orders.length<=62):∀(f:Nat) (b:Column×Bool) (l:List Visit),b.1.type=(k:Int)/\b.1.set=(s:Int)->Sq.jT x (s:Int) l->Gv x s k l->iZ x f b l=b
 | 0,_,_,_,_,_=>rfl
 | f+1,b,l,hb,hst,h=>by
  unfold iZ;rw[hb.2,GB A E];split
  ·exact YL A hb (h l (List.prefix_refl l) hst)
  ·exact Y9 _ fun v F=>CT A E f b _ hb (hst.snoc F) (h.more v)
theorem atZ(J:Acc x)(F:x.types[k]?=some t){l:List Visit}(h:(stF x t l).2=[]):Gv x s k l:=fun L E O A=>by
 obtain⟨r,rfl⟩:=E;have:=(Zj J F (pP A.2).2).2 l.length (by simp)
 grind
def aeE(J:Acc x)(F:x.types[k]?=some t){l:List Visit}{v:Visit}(O:v∈l)(h:(bI x v).2=false):Gv x s k l:=fun L E T A=>by
 have:=(Zj J F (pP A.2).2).1 v (E.subset O)
 grind
structure RelS(sr:Sr)(b:Column×Bool):Prop where
 f:b.2=sr.found
 best:b.2=true->sr.best=b.1
theorem aeQ(Z:Acc x)(h:Cx x s){sr:Sr}{b:Column×Bool}(J:RelS sr b)(h1:sr.x=x)(h2:sr.kind=k)(h3:sr.set=(s:Int))(Y:b.1.type=(k:Int)/\b.1.set=(s:Int)){l:List Visit}(T:Sq.jT x (s:Int) l)(hl:l.length=jK x (s:Int)):
   RelS (Lq sr l) (pO x b l):=by
 have ho:=Ho h T hl;have eP:cY sr.x (mB sr l)=cY x ⟨(k:Int),0,[],l⟩:=by grind[mB]
 have eC:∀p,KT sr l p=⟨(k:Int),(s:Int),p,⟨(k:Int),0,[],l⟩⟩:=fun p=>by grind[KT,mB]
 have e0:((s:Int) != (s:Int))=false:=by simp
 have eL : pO x b l = if ((cG x ⟨(k : Int), 0, [], l⟩).2.2 != 0) = true then b
     else if((cY x ⟨(k:Int),0,[],l⟩).2 != 0||(b.2&& !tA ⟨(k:Int),(s:Int),(cY x ⟨(k:Int),0,[],l⟩).1,⟨(k:Int),0,[],l⟩⟩ b.1))=true then b
     else(⟨(k:Int),(s:Int),(cY x ⟨(k:Int),0,[],l⟩).1,⟨(k:Int),0,[],l⟩⟩,true):=by
   unfold pO;rw[Y.1,Y.2,ho,Le Z,<-Z.eval,e0,Xbt]
 have X:(cG x ⟨(k:Int),0,[],l⟩).2.2≠0->(cY x ⟨(k:Int),0,[],l⟩).2≠0:=fun U=>by
   unfold cY
   grind
 rw[eL];unfold Lq;rw[eP,eC];generalize (cG x ⟨(k:Int),0,[],l⟩).2.2=E at *;generalize cY x ⟨(k:Int),0,[],l⟩=P at *;by_cases hp:P.2=0
 . have U:E=0:=Decidable.byContradiction fun U=>X U hp
   have e1:(P.2 != 0)=false:=by grind
   rw[if_pos (show(P.2 == 0)=true by grind),if_neg (show ¬(E != 0)=true by grind),e1,Xbt];cases A:b.2 with
   | false=>
     have F:sr.found=false:=J.f.symm.trans A;rw[Bool.false_and,if_neg (show ¬false=true by simp)];refine⟨rfl,fun _=>?_⟩
     grind[yK]
   | true=>
     have F:sr.found=true:=J.f.symm.trans A;have O:=J.best A;rw[Xbc];cases aa:tA ⟨(k:Int),(s:Int),P.1,⟨(k:Int),0,[],l⟩⟩ b.1 with
     | true=>
       rw[if_neg (show ¬(!true)=true by simp)];refine⟨rfl,fun _=>?_⟩
       grind[yK]
     | false=>
       rw[if_pos (show(!false)=true by simp)];refine⟨A,fun _=>?_⟩
       grind[yK]
 grind
def Ng(Z:Acc x)(h:Cx x s)(ht:x.types[k]?=some t):∀(f g:Nat) (sr:Sr) (b:Column×Bool) (l:List Visit),RelS sr b->sr.x=x->sr.kind=k->sr.set=(s:Int)->sr.total=jK x (s:Int)->b.1.type=(k:Int)/\b.1.set=(s:Int) ->
   Sq.jT x (s:Int) l->jK x (s:Int)-l.length<f->jK x (s:Int)-l.length<g->RelS (nN t f sr l (stF x t l).1 (stF x t l).2) (iZ x g b l)
 | 0,g,sr,b,l,X,h1,T,h3,O,A,hst,hf,hg=>by omega
 | f+1,0,sr,b,l,X,h1,T,h3,O,A,hst,hf,hg=>by omega
 | f+1,g+1,sr,b,l,X,h1,T,h3,O,A,hst,hf,hg=>by
   have hn:=h.n8;have ac:=U8 h hst;unfold nN iZ;rw[A.2,GB Z (by omega),O];by_cases hl:l.length=jK x (s:Int)
   . rw[if_pos (by grind),Nd h hst hl,if_pos (show(([]:List Visit).length:Int)=0 from rfl)]
     grind[aeQ]
   rw[if_neg (by grind),h1,h3];by_cases hN:((oM x (s:Int) l).length:Int)=0
   . rw[if_pos hN];have hN:oM x (s:Int) l=[]:=List.length_eq_zero_iff.1 (by omega);rw[hN];have:pO x b l=b:=YL Z A fun hc=>hl (aaK h hst (Gq (pP hc.2).1) hc.1)
     grind
   rw[if_neg hN];have af : ∀ (vs : List Visit) (sr : Sr) (b : Column × Bool), (∀ v ∈ vs, v ∈ oM x (s : Int) l) -> RelS sr b -> sr.x = x -> sr.kind = k -> sr.set = (s : Int) -> sr.total = jK x (s : Int) -> b.1.type = (k : Int) /\ b.1.set = (s : Int) ->
       RelS (vs.foldl (wS t (nN t f) l (stF x t l).1 (stF x t l).2) sr) (vs.foldl (fun b v=>iZ x g b (l++[v])) b):=by
     intro vs;induction vs with
     | nil=>grind
     | cons v vs ih=>
       intro sr b hv X h1 T h3 O A;have ab:=hv v (by simp);have E:=hst.snoc ab;have ae:(l++[v]).length=l.length+1:=by simp
       rw[Xbd,Xbd];have hk:=BO x g b (l++[v]);have F:RelS (wS t (nN t f) l (stF x t l).1 (stF x t l).2 sr v) (iZ x g b (l++[v])):=by
         unfold wS;rw[h1];have U:=Lm x t l v;by_cases Y:((dX x v).2 != 0)=true
         . rw[if_pos Y];have aa:(bI x v).2=false:=by grind[J7]
           rw[CT Z (by omega) g b _ A E (aeE Z ht (v:=v) (by simp) aa)];exact X
         rw[if_neg Y];by_cases J:(yI x.net t (stF x t l).1 (dX x v).1 (stF x t l).2).length=0
         . rw[if_pos J];have hd:(stF x t (l++[v])).2=[]:=by rw[U];exact List.length_eq_zero_iff.1 J
           grind[CT,atZ]
         rw[if_neg J];have:=Ng Z h ht f g sr b (l++[v]) X h1 T h3 O A E (by omega) (by omega);rw[U]at this;exact this
       have hB:SameB sr (wS t (nN t f) l (stF x t l).1 (stF x t l).2 sr v):=by
         unfold wS;split
         . exact .refl sr
         . split
           . exact .refl sr
           grind[sX]
       exact ih _ _ (fun u hu=>hv u (by grind)) F (hB.x.trans h1) (hB.kind.trans T) (hB.set.trans h3) (hB.total.trans O) ⟨hk.1.trans A.1,hk.2.trans A.2⟩
   grind
def VX(x:Instance)(k s:Nat):Column×Int:=
 if(iZ x 17 (⟨(k:Int),(s:Int),0,⟨0,0,[],[]⟩⟩,false) []).2=true then((iZ x 17 (⟨(k:Int),(s:Int),0,⟨0,0,[],[]⟩⟩,false) []).1,0)else(eD,24)
def aaU(F:Acc x)(h:Cx x s)(X:k<x.types.length):VX x k s=qV x (k:Nat) (s:Nat):=by
 obtain⟨t,J⟩:=aI X;have U:=h.n8;have hT:=Gg (x:=x) (set:=(s:Int)) (n:=x.orders.length) (by omega) (by exact_mod_cast h.top) (by omega);have T:Lt x (k:Nat) (s:Nat)=false:=by
  unfold Lt;have e1:shV .shr .i64 (s:Int) (x.orders.length:Nat)=0:=by rw[QG U,Nat.div_eq_of_lt h.top];rfl
  have hp:=h.pos
  grind
 unfold VX qV;rw[if_neg (show ¬Lt x (k:Nat) (s:Nat)=true by grind)];by_cases Z:yU x (s:Int)=0
 ·rw[if_neg (show ¬(yU x (s:Int) != 0)=true by grind),Xao,J];show _=(if(EP x k (s:Int) t).found=true then((EP x k (s:Int) t).best,0)else(eD,24):Column×Int);have E:=Ng F h J 17 17 ⟨x,k,(s:Int),jK x (s:Int),eD,false⟩ (⟨(k:Int),(s:Int),0,⟨0,0,[],[]⟩⟩,false) [] ⟨rfl,fun h=>by cases h⟩ rfl rfl rfl rfl ⟨rfl,rfl⟩ Sq.jT.nil (by omega) (by omega)
  change RelS (EP x k (s:Int) t) _ at E
  have hf:=E.f;have A:=E.best
  grind
 ·rw[if_pos (show(yU x (s:Int) != 0)=true by grind)];rw[CT F (by omega) 17 _ [] ⟨rfl,rfl⟩ Sq.jT.nil (fun L _ Y O=>Z (UU h F Y (pP O.2).1 O.1))];rfl
end
end Rx
namespace Rx
open Sq
open Go.Nu
section
variable{x:Instance}{s k:Nat}
def tV(b b':Column×Bool):Prop:=b.2=true->b'.2=true/\b'.1.price<=b.1.price
theorem tV.refl(b:Column×Bool):tV b b:=fun h=>⟨h,Xaz _⟩
def tV.trans{a b c:Column×Bool}(h:tV a b)(F:tV b c):tV a c:=fun e=>by obtain⟨h1,A⟩:=h e;obtain⟨h3,E⟩:=F h1;exact⟨h3,Int.le_trans E A⟩
def aeG{a b:Column}(h:tA a b=true):a.price<=b.price:=by
 unfold tA at h;split at h
 ·have:=of_decide_eq_true h;omega
 ·next A=>
  have:a.price=b.price:=by simpa using A
  omega
def Vb{a b:Column}(h:tA a b=false):b.price<=a.price:=by
 unfold tA at h;split at h
 ·have:=of_decide_eq_false h;omega
 ·next A=>
  have:a.price=b.price:=by simpa using A
  omega
def abS(x:Instance)(b:Column×Bool)(l:List Visit):tV b (pO x b l):=by
 unfold pO;split
 ·exact .refl b
 ·split
  ·exact .refl b
  ·next h=>
   intro e;simp only[Xax,not_or,Xbu,Bool.and_eq_false_iff,Xbj]at h;refine⟨rfl,aeG ?_⟩;rcases h.2 with h|h
   ·rw[e]at h;cases h
   ·exact h
def F2{α:Type}{g:Column×Bool->α->Column×Bool}(A:∀b v,tV b (g b v)):∀(vs:List α) (b:Column×Bool),tV b (vs.foldl g b)
 | [],b=>.refl b
 | v::vs,b=>(A b v).trans (F2 A vs (g b v))
def Ih(x:Instance):∀(f:Nat) (b:Column×Bool) (l:List Visit),tV b (iZ x f b l)
 | 0,b,l=>.refl b
 | f+1,b,l=>by
  unfold iZ;split
  ·exact abS x b l
  ·exact F2 (fun b v=>Ih x f b _) _ b
def Has(p:Int)(b:Column×Bool):Prop:=b.2=true/\b.1.price<=p
def Has.less{p:Int}{b E:Column×Bool}(h:Has p b)(A:tV b E):Has p E:=⟨(A h.1).1,Int.le_trans (A h.1).2 h.2⟩
def akS(J:Acc x){b:Column×Bool}(F:b.1.type=(k:Int)/\b.1.set=(s:Int)){l:List Visit}(O:(dM l).1=(s:Int))(E:(cG x (rtQ k l)).2.2=0)(A:(cY x (rtQ k l)).2=0):Has (cY x (rtQ k l)).1 (pO x b l):=by
 have E:(cG x ⟨(k:Int),0,[],l⟩).2.2=0:=E;have A:(cY x ⟨(k:Int),0,[],l⟩).2=0:=A;show Has (cY x ⟨(k:Int),0,[],l⟩).1 (pO x b l);unfold pO;rw[F.1,F.2,<-J.eval,O,E,Le J,A];rw[if_neg (by simp)];split
 ·next h=>
  simp only[bne_self_eq_false,Xbt,Xah,Xau]at h;exact⟨h.1,Vb h.2⟩
 ·exact⟨rfl,Xaz _⟩
def RB{α:Type}{p:Int}{v:α}{g:Column×Bool->α->Column×Bool}{I:Column×Bool->Prop}(E:∀b v,tV b (g b v))(J:∀b v,I b->I (g b v))(F:∀b,I b->Has p (g b v)):∀(vs:List α) (b:Column×Bool),v∈vs->I b->Has p (vs.foldl g b)
 | u::vs,b,A,hi=>by
  rw[Xbd];rcases Xba.1 A with rfl|A
  ·exact(F b hi).less (F2 E vs _)
  ·exact RB E J F vs _ A (J b u hi)
def K9(O:Acc x)(h:Cx x s){L:List Visit}(A:Sq.jT x (s:Int) L)(F:L.length=jK x (s:Int))(X:(cG x (rtQ k L)).2.2=0)(T:(cY x (rtQ k L)).2=0):∀(f:Nat) (b:Column×Bool) (l q:List Visit),L=l++q->q.length<f->b.1.type=(k:Int)/\b.1.set=(s:Int)->Has (cY x (rtQ k L)).1 (iZ x f b l)
 | 0,_,_,q,_,hf,_=>by omega
 | f+1,b,l,q,e,hf,hb=>by
  have Y:=h.n8;unfold iZ;rw[hb.2,GB O (by omega)];cases q with
  | nil=>rw[Xbl]at e;subst e;rw[Nd h A F,if_pos (show(([]:List Visit).length:Int)=0 from rfl)];exact akS O hb (Ho h A F) X T
  | cons v q=>
   have U:=A l v q e;have J:¬((oM x (s:Int) l).length:Int)=0:=by have:=List.length_pos_of_mem U;omega
   rw[if_neg J];refine RB (I:=fun b=>b.1.type=(k:Int)/\b.1.set=(s:Int)) (v:=v) (fun b v=>Ih x f b _) (fun b v E=>?_) (fun b E=>?_) _ b U hb
   ·have:=BO x f b (l++[v]);exact⟨this.1.trans E.1,this.2.trans E.2⟩
   ·exact K9 O h A F X T f b (l++[v]) q (by rw[e];simp) (by simp at hf;omega) E
def abW(A:Acc x)(h:Cx x s)(X:k<x.types.length){L:List Visit}(O:Sq.jT x (s:Int) L)(J:L.length=jK x (s:Int))(U:L.length<=16)(T:(cG x (rtQ k L)).2.2=0)(F:(cY x (rtQ k L)).2=0):(qV x (k:Nat) (s:Nat)).2=0/\(qV x (k:Nat) (s:Nat)).1.price<=(cY x (rtQ k L)).1:=by rw[<-aaU A h X];obtain⟨h1,E⟩:=K9 A h O J T F 17 (⟨(k:Int),(s:Int),0,⟨0,0,[],[]⟩⟩,false) [] L (by simp) (by omega) ⟨rfl,rfl⟩;unfold VX;rw[if_pos h1];exact⟨rfl,E⟩
end
end Rx
namespace Rx
open Sq
open Go.Nu
section
variable{x:Instance}{s k:Nat}{l:List Visit}
def YN{w:Visit}(h:w∈l):tS l w=true:=by obtain⟨j,h1,A⟩:=zD h;unfold tS;rw[K6 h1 A];simp
def aAH{a:Nat}{d:Bool}(F:a<x.orders.length)(A:(stR (cT x a) d).place>=0):(⟨(a:Nat),d⟩:Visit)∈eN x.orders (a:Nat):=by
 rw[tD F];unfold fL;unfold stR at A;cases d with
 | false=>
  have E:(cT x a).pick.place>=0:=by simpa using A
  rw[if_pos (by simpa using E)];simp
 | true=>
  have E:(cT x a).drop.place>=0:=by simpa using A
  rw[if_pos (show decide ((cT x a).drop.place>=0)=true by simpa using E)];simp
def OX{a:Nat}{d:Bool}(T:a<x.orders.length)(E:(stR (cT x a) d).place>=0)(A:Aa (cT x a)=false){v:Visit}(F:v∈eN x.orders (a:Nat)):v=⟨(a:Nat),d⟩:=by
 rw[tD T]at F;unfold Aa at A;unfold fL at F;unfold stR at E;cases d with
 | false=>
  have J:(cT x a).pick.place>=0:=by simpa using E
  have O:decide ((cT x a).drop.place>=0)=false:=by rw[decide_eq_true J,Xbc]at A;exact A
  rw[O,decide_eq_true J]at F;simpa using F
 | true=>
  have J:(cT x a).drop.place>=0:=by simpa using E
  have O:decide ((cT x a).pick.place>=0)=false:=by rw[decide_eq_true J,Xbo]at A;exact A
  rw[O,decide_eq_true J]at F;simpa using F
def aAi(U:SeqB x l){i:Nat}(T:i<x.orders.length)(X:iE l (i:Nat)=true):∀v∈eN x.orders (i:Nat),v∈l:=fun v F=>by
 obtain⟨u,J,Z⟩:=uW.1 X;obtain⟨a,d,A,ha,O,_⟩:=U.vis u J;have e:a=i:=by have:=congrArg Visit.order A;simp only at this;omega
 subst e;by_cases E:Aa (cT x a)=true
 ·obtain⟨Y,m2,_⟩:=U.pair a T E d (A▸J);rw[tD T,xP E]at F;rcases Xba.1 F with rfl|F
  ·exact Y
  ·rw[Xbs.1 F];exact m2
 ·rw[OX T O (by simpa using E) F,<-A];exact J
def aqA(h:Cx x s)(hx:Acc x)(hq:oF x l=0)(hb:∀i:Nat,i<x.orders.length->iE l (i:Nat)=s.testBit i):Sq.jT x (s:Int) l:=by
 have hs:=Gq hq;have hf:=Zi hq;have hn:=h.n8;intro p v r e;have hv:v∈l:=by rw[e];simp
 have T:l[p.length]?=some v:=by rw[e];simp
 have ae:¬v∈p:=fun hc=>hs.twice p.length v T (by rw[e];simpa using hc)
 have U:∀(j:Nat) (w:Visit),l[j]?=some w->j<p.length->w∈p:=fun j w O hj=>by rw[e,List.getElem?_append_left hj]at O;exact Xac O
 obtain⟨a,d,A,X,Z,_⟩:=hs.vis v hv;have F:v.order=(a:Nat):=by rw[A]
 have ah:s.testBit a=true:=by rw[<-hb a X];exact uW.2 ⟨v,hv,F⟩
 have ai:OJ x a=false:=by have:=Xap.1 hf.off v hv;obtain⟨o,ho⟩:=aI X;rw[F]at this;unfold uN at this;rw[Xao,ho]at this;unfold OJ;rw[ho];simpa using this
 unfold oM wN;refine Xbp.2 ⟨a,Xai.2 X,?_⟩;unfold AW;rw[if_neg (by rw[YR x (by omega),ai,CM (by omega) (by omega),Xao,ah];simp)];have aj:v∈eN x.orders (a:Nat):=by rw[A];exact aAH X Z
 refine Xbg.2 ⟨aj,?_⟩;unfold rC;simp only[Xah];refine⟨⟨?_,?_⟩,?_⟩
 ·rw[Z9 ae];rfl
 ·unfold Ce;rw[F];by_cases E:Aa (cT x a)=true
  ·rw[tD X,xP E];cases d with
   | false=>rw[A];simp[eqV]
   | true=>
    obtain⟨m1,m2,m3⟩:=hs.pair a X E true (A▸hv);have af:¬v∈l.take p.length:=by rw[e];simpa using ae
    obtain⟨j,h1,h2⟩:=zD m1;rw[K6 h1 h2,<-A,K6 T af]at m3;have hm:=U j _ h1 (by omega);rw[A];simp[eqV,YN hm]
  ·have E:Aa (cT x a)=false:=by simpa using E
   rw[Xaj];intro w O;have ak:=(List.takeWhile_sublist _).subset O;have am:w=v:=by rw[A];exact OX X Z E ak
   cases hP:eN x.orders (a:Nat)with
   | nil=>rw[hP]at O;cases O
   | cons u M=>
    have hu:u=v:=by rw[A];exact OX X Z E (by rw[hP];simp)
    rw[hP,hu]at O;simp[eqV]at O
 ·unfold Xc;rw[Xaj];intro q ag;by_cases Y:q.b=v.order
  ·have B:=hx.beforeB q ag;have al:=B.a;obtain⟨c,hc⟩:=Int.eq_ofNat_of_zero_le al.1;have aa:c<x.orders.length:=by omega
   have h1:IH l q.a q.b=true:=by have:=Xap.1 hf.before q ag;simpa using this
   rw[Ew B.ne,show iE l q.b=true from uW.2 ⟨v,hv,Y.symm⟩]at h1;simp only[Xcl,Xbt,Xah,Xau]at h1;have ac:=aAi hs aa (by rw[<-hc];exact h1.1);rw[Xax];right;rw[Xaj,hc];intro w O;refine YN ?_;obtain⟨j,J,_⟩:=zD (ac w O);have ab:=Cj aa O;refine U j w J ?_
   false_or_by_contra
   rename_i an;have ao:j≠p.length:=fun ej=>by rw[ej,T]at J;have:v=w:=Option.some.inj J;rw[<-this]at ab;exact B.ne (by omega)
   have:Nt l q.a q.b=true:=GJ.2 ⟨j,p.length,by omega,(List.getElem?_eq_some_iff.1 J).1,by rw[Sq.jQ J,ab,hc],by rw[Sq.jQ T,Y]⟩;rw[this]at h1;cases h1.2
  ·rw[Xax];left;simpa using Y
end
end Rx
namespace Vy
open Dec (fE kF)
open Sq (dK cG sO G7 uL Bl A9 lZ eJ pN oH W qU Fb oR oO onA onU onR Ea ES OS Jy uN aBx)
def Jf:∀l:List Int,sO l=oR l
 | []=>rfl
 | e::r=>by unfold sO oR;rw[Jf r]
def WO{α:Type}{p q:α->Bool}{l:List α}(h:∀a∈l,p a=q a):l.any p=l.any q:=by rw[Xar,Xak,Xak];exact⟨fun⟨a,A,e⟩=>⟨a,A,by rw[<-h a A];exact e⟩,fun⟨a,A,e⟩=>⟨a,A,by rw[h a A];exact e⟩⟩
def En(i:Nat):∀{l:List Route},(∀r∈l,kF r)->pN l i=(Ea (onR (i:Nat)) l:Int)
 | [],_=>rfl
 | r::l,h=>by have ih:pN l i=(Ea (onR (i:Nat)) l:Int):=En i (fun s A=>h s (List.mem_cons_of_mem _ A));have e:onR (i:Nat) r=fE r (i:Nat):=rfl;unfold pN at *;rw[Xaq,List.sum_cons,ih,AH (h r (by simp)),<-e];unfold Ea;rw[List.countP_cons];split <;> omega
def YY{x:Instance}(A:Acc x)(l:List Route):(l.map fun r=>(cG x r).2.2)=l.map fun r=>(oO x r).2.2:=List.map_congr_left fun r _=>A.ev r
def VT{x:Instance}(hx:Acc x){p:Plan}(hl:p.routes.length<=1048576)(hu:p.unserved.length<=1048576)(hn:x.orders.length<=62):Fb x p=dK x p:=by
 unfold Fb dK;rw[YY hx,<-Jf];by_cases h1:(sO (p.routes.map fun r=>(oO x r).2.2) != 0)=true
 ·rw[if_pos h1,if_pos h1]
 rw[if_neg h1,if_neg h1];have h1:sO (p.routes.map fun r=>(cG x r).2.2)=0:=by rw[YY hx];simpa using h1
 have X:∀r∈p.routes,(cG x r).2.2=0:=fun r U=>CZ h1 _ (Xan.2 ⟨r,U,rfl⟩)
 have Y:∀r∈p.routes,kF r:=fun r U v hv=>by have:=(Bo (X r U)).2 v hv;omega
 by_cases E:(p.unserved.any fun u=>bS u x.orders.length)=true
 ·rw[if_pos E,if_pos E]
 rw[if_neg E,if_neg E];have E:∀u∈p.unserved,0<=u/\u<(x.orders.length:Int):=fun u F=>by have:=(Xap.1 (by simpa using E)) u F;simp[bS]at this;omega
 have hA:∀i:Nat,onA p i<=1048576:=fun i=>Xal Sq.OY hl
 have hU:∀i:Nat,onU p i<=1048576:=fun i=>Xal Sq.OY hu
 have er:∀i:Nat,i<x.orders.length->(lZ x.orders.length p.routes).getD i 0=(onA p i:Int):=fun i A=>by unfold lZ;simp only[List.getD,List.getElem?_map,List.getElem?_range A];exact En i Y
 have O:∀i:Nat,i<x.orders.length->(eJ x.orders.length p.unserved).getD i 0=(onU p i:Int):=fun i A=>by unfold eJ;simp only[List.getD,List.getElem?_map,List.getElem?_range A];rfl
 have ew:∀i:Nat,W ((onA p i:Int)+(onU p i:Int))=((onA p i+onU p i:Nat):Int):=fun i=>by have a:=hA i;have b:=hU i;rw[show W ((onA p i:Int)+(onU p i:Int))=(onA p i:Int)+(onU p i:Int)from bD (by omega)];omega
 have e3:A9 x (G7 (lZ x.orders.length p.routes) (eJ x.orders.length p.unserved))=(List.range x.orders.length).any (ES p):=WO fun i A=>by have A:=Xai.1 A;rw[List.getElem?_eq_getElem A];show G7 (lZ x.orders.length p.routes) (eJ x.orders.length p.unserved) i x.orders[i]=_;unfold G7 ES;rw[er i A,O i A,ew]
 have e4:qU x p=(List.range x.types.length).any (OS x p):=WO fun i A=>by have A:=Xai.1 A;unfold OS;rw[List.getElem?_eq_getElem A];rfl
 have e5:A9 x (uL (eJ x.orders.length p.unserved))=p.unserved.any fun u=>uN x u:=by
  rw[Xar];unfold A9;rw[Xak,Xak];constructor
  ·rintro⟨i,A,h⟩;have A:=Xai.1 A;rw[List.getElem?_eq_getElem A]at h;have h:uL (eJ x.orders.length p.unserved) i x.orders[i]=true:=h;unfold uL at h;rw[O i A,Xah,decide_eq_true_eq]at h;have h3:0<p.unserved.countP (fun u=>u == (i:Int)):=by have:=h.2;unfold onU Ea at this;omega
   obtain⟨u,F,he⟩:=List.countP_pos_iff.1 h3;have he:u=(i:Int):=by simpa using he
   refine⟨u,F,?_⟩;unfold uN;rw[he,Xao,List.getElem?_eq_getElem A];exact h.1
  ·rintro⟨u,F,h⟩;obtain⟨h6,h7⟩:=E u F;obtain⟨i,rfl⟩:=Int.eq_ofNat_of_zero_le h6;have A:i<x.orders.length:=by omega
   refine⟨i,Xai.2 A,?_⟩;unfold uN at h;rw[Xao,List.getElem?_eq_getElem A]at h;rw[List.getElem?_eq_getElem A];show uL (eJ x.orders.length p.unserved) i x.orders[i]=true;unfold uL;rw[O i A,Xah,decide_eq_true_eq];have h3:0<p.unserved.countP (fun u=>u == (i:Int)):=List.countP_pos_iff.2 ⟨_,F,by simp⟩;exact⟨h,by unfold onU Ea;omega⟩
 rw[e3,e4,e5];split
 ·rfl
 split
 ·rfl
 by_cases Z:(p.unserved.any fun u=>uN x u)=true
 ·rw[if_pos Z,if_pos Z]
 have e6:A9 x (Bl (lZ x.orders.length p.routes) (eJ x.orders.length p.unserved))=(List.range x.orders.length).any (Jy x p):=WO fun i A=>by
  have A:=Xai.1 A;have T:A9 x (uL (eJ x.orders.length p.unserved))=false:=by rw[e5];simpa using Z
  have J:=Bp T (List.getElem?_eq_getElem A);unfold uL at J;rw[O i A]at J;unfold Jy;rw[List.getElem?_eq_getElem A];show Bl (lZ x.orders.length p.routes) (eJ x.orders.length p.unserved) i x.orders[i]=_;unfold Bl;dsimp only;rw[er i A,O i A,ew];generalize x.orders[i].off=f at J |-;generalize decide ((onU p i:Int)>0)=g at J |-;generalize (((onA p i+onU p i:Nat):Int) == 0)=a;generalize (x.orders[i].penalty == -1)=b
  revert J
  cases f <;> cases g <;> cases a <;> cases b <;> decide
 rw[e6]
end Vy
namespace Pb
open Sq
open Vy (PlanA Bp En)
def awV{p q:Point}{t:Int}(X:0<=p.t/\p.t<=4096/\p.t<=p.a/\p.a<=p.t+4096)(hq:0<=q.t/\q.t<=4096/\q.t<=q.a/\q.a<=q.t+4096)(ha:p.a<=q.a)(h1:p.t<=t)(U:t<q.t):t<=ID p q t:=by
 unfold ID;have A:0<=t-p.t/\t-p.t<=4096:=by omega
 have E:0<=q.a-p.a/\q.a-p.a<=8192:=by omega
 have J:0<=(t-p.t)*(q.a-p.a):=Int.mul_nonneg A.1 E.1;have F:(t-p.t)*(q.a-p.a)<=4096*8192:=Int.mul_le_mul A.2 E.2 E.1 (by omega);have T:(t-p.t)*((q.t-p.t)-(p.a-p.t))<=(t-p.t)*(q.a-p.a):=Int.mul_le_mul_of_nonneg_left (by omega) A.1;have k2:(p.a-p.t)*(t-p.t)<=(p.a-p.t)*(q.t-p.t):=Int.mul_le_mul_of_nonneg_left (by omega) (by omega);have Y:(t-p.t)*((q.t-p.t)-(p.a-p.t))=(t-p.t)*(q.t-p.t)-(p.a-p.t)*(t-p.t):=by rw[Int.mul_sub,Int.mul_comm (t-p.t) (p.a-p.t)]
 have k4:((t-p.t)-(p.a-p.t))*(q.t-p.t)=(t-p.t)*(q.t-p.t)-(p.a-p.t)*(q.t-p.t):=Int.sub_mul _ _ _;rw[dQ (n:=t-p.t) (by omega),dQ (n:=q.a-p.a) (by omega),dQ (n:=(t-p.t)*(q.a-p.a)) (by omega),dQ (n:=q.t-p.t) (by omega)];have O:(t-p.t)-(p.a-p.t)<=((t-p.t)*(q.a-p.a)+q.t-p.t-1)/(q.t-p.t):=by rw[Int.le_ediv_iff_mul_le (by omega)];omega
 generalize (t-p.t)*(q.a-p.a)=m at *;rw[dQ (n:=m+q.t) (by omega),dQ (n:=m+q.t-p.t) (by omega),dQ (n:=m+q.t-p.t-1) (by omega),Xcf (by omega)];have d0:0<=(m+q.t-p.t-1)/(q.t-p.t):=Int.ediv_nonneg (by omega) (by omega);have Z:(m+q.t-p.t-1)/(q.t-p.t)<=m+q.t-p.t-1:=Int.ediv_le_self _ (by omega);have e:IntKind.i64.wrap ((m+q.t-p.t-1)/(q.t-p.t))=(m+q.t-p.t-1)/(q.t-p.t):=dQ (by omega);rw[e,dQ (by omega)];omega
def Zu{p:Point}{t:Int}(E:0<=p.t/\p.t<=4096/\p.t<=p.a/\p.a<=p.t+4096)(A:0<=t/\t<=12288):t<=AY p t:=by unfold AY;rw[dQ (n:=t+p.a) (by omega),dQ (by omega)];omega
def azK{l:List Point}{t:Int}(h:jY l=[])(F:0<=t/\t<=12288):t<=kU l t:=by
 have A:=Qi h;have T:=A.len;unfold kU;rw[if_neg (by unfold DH;rw[h];simp;omega)];split
 ·rename_i k J;have E:=List.find?_some J;have O:=Xai.1 (List.mem_of_find?_eq_some J);simp only[rW,Xah,decide_eq_true_eq]at E;have:=A.mono k (by omega);exact awV (A.pt _ (tN (by omega))) (A.pt _ (tN (by omega))) this.2 E.1 E.2
 ·split
  ·exact Zu (A.pt _ (tN (by omega))) F
  ·exact Zu (A.pt _ (tN (by omega))) F
def ZL{t:Int}:∀(l:List Point) (s B:Int),(∀p∈l,0<=p.a/\p.a<=4096)->0<=s/\s<=B->B+4096*l.length<=1000000000000->s<=l.foldl (rA t) s
 | [],s,B,_,hs,_=>Xaz _
 | p::l,s,B,hp,hs,hB=>by
  have h1:=hp p (by simp);simp only[Xag,Xbd]at hB |-;have e:s<=rA t s p/\rA t s p<=B+4096:=by
   unfold rA;split
   ·rw[dQ (by omega)];omega
   ·omega
  have:=ZL (t:=t) l (rA t s p) (B+4096) (fun q A=>hp q (by simp[A])) (by omega) (by omega);omega
def agM{a:Arc}{t:Int}(h:ArcOk a)(A:0<=t/\t<=12288):t<=tL a t:=by have h1:=aaE h.travel A;have F:=h.slow;have h3:=azK h.travel A;have:=ZL (t:=t) a.slow _ 100000000 (fun p E=>(h.pt p E).2) h1 (by omega);unfold tL;omega
def aBy{n:Network}(J:∀a∈n.arcs,ArcOk a){p f g t:Int}(F:0<=t/\t<=12288)(h:(fB n p f g t).2.2=0):t<=(fB n p f g t).1:=by
 unfold fB at h |-;split
 ·rename_i h1;rw[if_pos h1]at h;cases h
 ·rename_i h1;rw[if_neg h1]at h;split
  ·exact Xaz _
  ·rename_i A;rw[if_neg A]at h;cases e:sS n p f g with
   | none=>rw[e]at h;cases h
   | some a=>
    have E:a∈n.arcs:=by unfold sS at e;exact List.mem_of_find?_eq_some e
    exact agM (J a E) F
def alP{x:Instance}(h:kZ x=[]):∀t∈x.types,(0<=t.fixed/\t.fixed<=100000)/\(0<=t.perMile/\t.perMile<=100)/\0<=t.perTick/\t.perTick<=100:=by unfold kZ at h;simp only[Xbe,Xbx]at h;obtain⟨⟨⟨_,F⟩,_⟩,_⟩:=h;unfold vR at F;rw[Xbe]at F;intro t E;obtain⟨i,J,rfl⟩:=List.getElem_of_mem E;have h:=Xcd.1 F.2 i (Xai.2 J);unfold iU at h;rw[Xbx,KV (List.getElem?_eq_getElem J)]at h;unfold nT at h;simp only[Xbn,Xbe]at h;obtain⟨_,O⟩:=h;have A:=fU O;simp only[Xam]at A;have a1:=iM.1 (pY A.1.1.2);have a2:=iM.1 (pY A.1.2);have a3:=iM.1 (pY A.2);exact⟨a1,a2,a3⟩
def anW{x:Instance}(h:kZ x=[]):∀c∈x.net.arcs,0<=c.miles/\c.miles<=10000:=by unfold kZ at h;simp only[Xbe,Xbx]at h;obtain⟨⟨⟨E,_⟩,_⟩,_⟩:=h;unfold Ks at E;simp only[Xbe]at E;intro c J;obtain⟨i,F,rfl⟩:=List.getElem_of_mem J;have A:=Xcd.1 E.2 i (Xai.2 F);unfold IJ at A;rw[yZ (List.getElem?_eq_getElem F)]at A;simp only[Xbn,Xbe]at A;have h3:=fU A.1.1.1.1.2;unfold D7 at h3;simp only[Xam,decide_eq_false_iff_not]at h3;omega
def ajG{x:Instance}(A:∀c∈x.net.arcs,0<=c.miles/\c.miles<=10000){p f g t:Int}:0<=(fB x.net p f g t).2.1/\(fB x.net p f g t).2.1<=10000:=by
 unfold fB;split
 ·exact⟨Xaz 0,by show(0:Int)<=10000;decide⟩
 ·split
  ·exact⟨Xaz 0,by show(0:Int)<=10000;decide⟩
  ·cases e:sS x.net p f g with
   | none=>exact⟨Xaz 0,by show(0:Int)<=10000;decide⟩
   | some a=>unfold sS at e;exact A a (List.mem_of_find?_eq_some e)
def alT{x:Instance}(O:Acc x){t:VType}(E:GoB x t){l:Lab}{k:Nat}(A:LabB l k){p q:Int}{b:Bool}(h:(goL x t p q l b).2.2=0):l.ready<=(goL x t p q l b).1:=by
 have J:=FP E.rest A b;have h1:=aBy O.arc (p:=t.profile) (f:=p) (g:=q) J h;have F:l.ready<=fI t l b:=by
  have h3:=A.ready;have T:=E.rest;unfold fI;split
  ·rw[dQ (by omega)];omega
  ·exact Xaz _
 exact Int.le_trans F h1
def arB{x:Instance}(T:Acc x)(U:∀c∈x.net.arcs,0<=c.miles/\c.miles<=10000){t:VType}{r:Route}(F:RouteB x t r):∀(k:Nat) (bs:List Bool) (l:Lab),bs.length=k->k<=r.visits.length->jL x t r bs 0 (eZ t r)=.ok l->t.start<=l.ready/\0<=l.sheet.miles/\l.sheet.miles<=10000*(k:Int)
 | 0,bs,l,hl,_,h=>by have:=Xcn hl;subst this;injection h with h;subst h;exact⟨(IZ t.start r.start).1,Xaz 0,by show(0:Int)<=10000*((0:Nat):Int);decide⟩
 | k+1,bs,l,hl,hk,h=>by
  obtain⟨m,b,rfl,A⟩:=Es hl;rw[mN]at h;cases J:jL x t r m 0 (eZ t r)with
  | error e=>rw[J]at h;cases h
  | ok l'=>
   rw[J]at h;have h:fP x t r (0+m.length) l' b=.ok l:=h;rw[A,Xcj]at h;have O:=GW F k m l' A (by omega) J;have ih:=arB T U F k m l' A (by omega) J;have hs:=F.short;obtain⟨v,Y,e⟩:=aaC (x:=x) (t:=t) (r:=r) (k:=k) (by omega) l' b;rw[e]at h;obtain⟨h0,h1,Z,rfl⟩:=FG (k:=k) h;have g1:=alT T F.go O h0;have E:=F.stop v Y;have hi:=IZ (goL x t (eT x t r k) (bI x v).1.place l' b).1 (bI x v).1.start;have hc:=E.close;have h3:=E.start;have h4:=E.service;have g2:=ajG U (p:=t.profile) (f:=eT x t r k) (g:=(bI x v).1.place) (t:=fI t l' b);have X:=O.ready;refine⟨?_,?_⟩
   ·show t.start<=W _;rw[dQ (by omega)];omega
   ·show 0<=W (l'.sheet.miles+(fB x.net t.profile (eT x t r k) (bI x v).1.place (fI t l' b)).2.1)/\W (l'.sheet.miles+(fB x.net t.profile (eT x t r k) (bI x v).1.place (fI t l' b)).2.1)<=_;rw[dQ (by omega)];push_cast;omega
def auO{x:Instance}(J:Acc x)(O:∀c∈x.net.arcs,0<=c.miles/\c.miles<=10000){t:VType}{r:Route}(F:RouteB x t r){bs:List Bool}{l:Lab}(U:bs.length=r.visits.length+1)(h:jL x t r bs 0 (eZ t r)=.ok l):(t.start<=l.sheet.end_/\l.sheet.end_<=t.close)/\0<=l.sheet.miles/\l.sheet.miles<=10000*(r.visits.length+1:Int):=by
 obtain⟨m,b,rfl,A⟩:=Es U;rw[mN]at h;cases E:jL x t r m 0 (eZ t r)with
 | error e=>rw[E]at h;cases h
 | ok l'=>
  rw[E]at h;have h:fP x t r (0+m.length) l' b=.ok l:=h;unfold fP at h;rw[List.getElem?_eq_none (by omega)]at h;have T:=GW F _ m l' A (Xae _) E;have ih:=arB J O F _ m l' A (Xae _) E;have Z:=F.short;obtain⟨h0,h1,X,rfl⟩:=J6 h;have Y:=alT J F.go T h0;have g2:=ajG O (p:=t.profile) (f:=eT x t r (0+m.length)) (g:=t.dst) (t:=fI t l' b);refine⟨⟨?_,h1⟩,?_⟩
  ·show t.start<=(goL x t _ t.dst l' b).1;omega
  ·show 0<=W (l'.sheet.miles+(fB x.net t.profile (eT x t r (0+m.length)) t.dst (fI t l' b)).2.1)/\W (l'.sheet.miles+(fB x.net t.profile (eT x t r (0+m.length)) t.dst (fI t l' b)).2.1)<=_;rw[dQ (by omega)];omega
def TL:∀(A:List Lab) (b:Lab),A.foldl jX b∈b::A
 | [],b=>by simp
 | m::A,b=>by
  have ih:=TL A (jX b m);rw[Xbd];have e:jX b m=b\/jX b m=m:=by unfold jX;split <;> simp
  rcases Xba.1 ih with h|h
  ·rw[h];rcases e with e|e <;> rw[e] <;> simp
  ·exact List.mem_cons_of_mem _ (List.mem_cons_of_mem _ h)
def avZ{x:Instance}(hx:Acc x)(hm:∀c∈x.net.arcs,0<=c.miles/\c.miles<=10000){r:Route}(h:(gE x r).2=0):∃t,x.types[r.type.toNat]?=some t/\(t.start<=(gE x r).1.end_/\(gE x r).1.end_<=t.close)/\0<=(gE x r).1.miles/\(gE x r).1.miles<=210000:=by
 unfold gE at h |-;split at h
 ·cases h
 next hb=>
 rw[if_neg hb];have T:bW x r=true/\(r.rests.length:Int)<=(r.visits.length:Int)+1:=by simpa using hb
 obtain⟨E,F⟩:=T;have Z:∃t,x.types[r.type.toNat]?=some t:=by have:=tH E;exact aI (by omega)
 obtain⟨t,O⟩:=Z;obtain⟨hB,hs⟩:=hx.route E O;have F:r.rests.length<=r.visits.length+1:=by omega
 have aa:r.visits.length<=20:=by unfold bW at E;simp only[Xah,Xau,Xam,decide_eq_false_iff_not]at E;omega
 refine⟨t,O,?_⟩;rw[O]at h |-;have h:(uM x t r).2=0:=h;show(t.start<=(uM x t r).1.end_/\(uM x t r).1.end_<=t.close)/\0<=(uM x t r).1.miles/\(uM x t r).1.miles<=210000;have Y:∃bs l,bs.length=r.visits.length+1/\jL x t r bs 0 (eZ t r)=.ok l/\(uM x t r).1=l.sheet:=by
  unfold uM at h |-;rw[akB x t r _ (Xae _)]at h |-;cases A:dpL x t r (r.visits.length+1)with
  | nil=>
   rw[A]at h;have h:GZ (Bu x t (fA x r.visits) (dE r) 0 (eZ t r))=0:=h;rw[NJ x t r _ 0 _ (by rw[jU F];omega)]at h;show ∃(bs:List Bool) (l:Lab),bs.length=r.visits.length+1/\jL x t r bs 0 (eZ t r)=.ok l/\Fq (Bu x t (fA x r.visits) (dE r) 0 (eZ t r))=l.sheet;rw[NJ x t r _ 0 _ (by rw[jU F];omega)];cases J:jL x t r (dE r) 0 (eZ t r)with
   | error e=>rw[J]at h;exact absurd h (B6 _ _ _ _ J)
   | ok l=>exact⟨dE r,l,jU F,J,rfl⟩
  | cons l ls=>obtain⟨bs,X,_,U⟩:=zC (r.visits.length+1) (ls.foldl jX l) (by rw[A];exact TL ls l);exact⟨bs,_,X,U,rfl⟩
 obtain⟨bs,l,X,e2,U⟩:=Y;rw[U];have:=auO hx hm hB X e2;refine⟨this.1,this.2.1,by omega⟩
structure InS(s:Sq.Score)(c m w:Int):Prop where
 cost:0<=s.cost/\s.cost<=c
 moved:0<=s.moved/\s.moved<=m
 other:0<=s.other/\s.other<=m
 work:0<=s.work/\s.work<=w
def Eb{a b:Sq.Score}{c m w c' A w':Int}(h:InS a c m w)(E:InS b c' A w')(J:c+c'<=1000000000000)(U:m+A<=1000000)(X:w+w'<=1000000000):InS (kN a b) (c+c') (m+A) (w+w'):=by obtain⟨a1,a2,a3,O⟩:=h;obtain⟨T,F,Z,Y⟩:=E;unfold kN;refine⟨?_,?_,?_,?_⟩ <;> (dsimp only;rw[dQ (by omega)];omega)
def Yz{l:List Sq.Score}(F:l.length<=3){a:Sq.Score}{J E w0 c m w:Int}(h0:InS a J E w0)(A:∀s∈l,InS s c m w)(hn:0<=c/\0<=m/\0<=w)(X:J+3*c<=1000000000000)(Y:E+3*m<=1000000)(Z:w0+3*w<=1000000000):InS (l.foldl kN a) (J+3*c) (E+3*m) (w0+3*w):=by
 have mono:∀{s:Sq.Score} {p q u p' q' u':Int},InS s p q u->p<=p'->q<=q'->u<=u'->InS s p' q' u':=fun h U O T=>⟨⟨h.cost.1,Int.le_trans h.cost.2 U⟩,⟨h.moved.1,Int.le_trans h.moved.2 O⟩,⟨h.other.1,Int.le_trans h.other.2 O⟩,⟨h.work.1,Int.le_trans h.work.2 T⟩⟩
 match l,F,A with
 | [],_,_=>exact mono h0 (by omega) (by omega) (by omega)
 | [s],_,A=>exact mono (Eb h0 (A s (by simp)) (by omega) (by omega) (by omega)) (by omega) (by omega) (by omega)
 | [s,t],_,A=>exact mono (Eb (Eb h0 (A s (by simp)) (by omega) (by omega) (by omega)) (A t (by simp)) (by omega) (by omega) (by omega)) (by omega) (by omega) (by omega)
 | [s,t,u],_,A=>exact mono (Eb (Eb (Eb h0 (A s (by simp)) (by omega) (by omega) (by omega)) (A t (by simp)) (by omega) (by omega) (by omega)) (A u (by simp)) (by omega) (by omega) (by omega)) (by omega) (by omega) (by omega)
 | _::_::_::_::_,F,_=>simp at F
def pig{α:Type}(A:α->Int):∀(n:Nat) (l:List α),(∀a∈l,0<=A a/\A a<(n:Int))->(∀k:Nat,k<n->l.countP (fun a=>A a == (k:Int))<=1)->l.length<=n
 | 0,l,h,_=>by
  cases l with
  | nil=>simp
  | cons a l=>have:=h a (by simp);omega
 | n+1,l,h,hc=>by
  have ih:=pig A n (l.filter fun a=> !(A a == (n:Int))) (fun a F=>by
   obtain⟨h1,E⟩:=Xbg.1 F;have:=h a h1;have:A a≠(n:Int):=by simpa using E
   omega) (fun k J=>Xal (List.filter_sublist.countP_le) (hc k (by omega)))
  have h1:=hc n (by omega);have E:=List.length_eq_countP_add_countP (fun a=>A a == (n:Int)) (l:=l);rw[<-List.countP_eq_length_filter]at ih;have h3:l.countP (fun a=> !(A a == (n:Int)))=l.countP (fun a=>decide ¬(A a == (n:Int))=true):=List.countP_congr fun a _=>by simp
  omega
def Jh(l:List Visit)(k:Int):∀m:Nat,((List.range m).filter (gY l)).countP (fun i=>cT l i == k)<=1
 | 0=>by simp
 | m+1=>by
  have ih:=Jh l k m;rw[Xbv,List.filter_append,List.countP_append];by_cases E:gY l m=true/\cT l m=k
  ·have e : ((List.range m).filter (gY l)).countP (fun i => cT l i == k) = 0 := List.countP_eq_zero.2 fun i A => by have A:=(Xbg.1 A).1;have:=Xaj.1 E.1 i A;rw[<-E.2];simpa using this
   rw[e];have:=List.countP_le_length (p:=fun i=>cT l i == k) (l:=[m].filter (gY l));have:([m].filter (gY l)).length<=1:=List.length_filter_le _ _;omega
  ·have e : ([m].filter (gY l)).countP (fun i => cT l i == k) = 0 := List.countP_eq_zero.2 fun i A => by
    obtain⟨h1,F⟩:=Xbg.1 A;have h1:i=m:=by simpa using h1
    subst h1;exact fun h=>E ⟨F,by simpa using h⟩
   omega
def Ob{x:Instance}{r:Route}:∀(l:List Nat) (a:Sq.Score),(0<=a.moved/\a.moved+l.length<=1000000)->(0<=a.other/\a.other+l.length<=1000000) ->
  (l.foldl (dO x r) a).cost=a.cost/\(l.foldl (dO x r) a).work=a.work/\(0<=(l.foldl (dO x r) a).moved/\(l.foldl (dO x r) a).moved<=a.moved+l.countP (gY r.visits))/\0<=(l.foldl (dO x r) a).other/\(l.foldl (dO x r) a).other<=a.other+l.countP (gY r.visits)
 | [],a,h1,h2=>by simp;omega
 | i::l,a,h1,h2=>by
  simp only[Xag]at h1 h2;rw[Xbd,List.countP_cons];have e:(dO x r a i).cost=a.cost/\(dO x r a i).work=a.work/\(a.moved<=(dO x r a i).moved/\(dO x r a i).moved<=a.moved+(if gY r.visits i=true then 1 else 0))/\a.other<=(dO x r a i).other/\(dO x r a i).other<=a.other+(if gY r.visits i=true then 1 else 0):=by
   unfold dO;split
   ·refine⟨rfl,rfl,?_,?_⟩ <;> split <;> omega
   next A=>
   have A:gY r.visits i=true:=by simp only[Xax,not_or,Xbu,Xbj]at A;exact A.2
   rw[if_pos A];split
   ·next o _=>
    unfold FX Ib;have w1:W (a.moved+1)=a.moved+1:=dQ (by omega);have E:W (a.other+1)=a.other+1:=dQ (by omega);split <;> split <;> simp only[w1,E] <;> refine⟨trivial,trivial,⟨?_,?_⟩,?_,?_⟩ <;> omega
   ·refine⟨rfl,rfl,?_,?_⟩ <;> omega
  have ih:=Ob (x:=x) (r:=r) l (dO x r a i) (by split at e <;> omega) (by split at e <;> omega);split at e <;> split <;> omega
end Pb
end Go.Proofs.YthephioccidfgaaGreatDoor
section
set_option linter.unusedSectionVars false
namespace Go.Proofs.YthephioccidfgaaGreatDoor.Pb
open Go.Aw Go.Aw.D Go.Proofs Ty
open Sq
open Vy (PlanA Bp En)
theorem KD{x:Instance}{r:Route}(h:(cG x r).2.2=0):r.visits.length≠0/\(gE x r).2=0/\(cG x r).2.1=rL x r (gE x r).1:=by
 unfold cG at h |-;split at h
 ·cases h
 next h1=>
 split at h
 ·next A=>rw[show oF x r.visits=0 from h]at A;simp at A
 next A=>
 split at h
 ·next h3=>rw[show Dr x r=0 from h]at h3;simp at h3
 next h3=>
 split at h
 ·next F=>rw[show Bj x r=0 from h]at F;simp at F
 next F=>
 split at h
 ·next E=>rw[show(gE x r).2=0 from h]at E;simp at E
 next E=>
 rw[if_neg h1,if_neg A,if_neg h3,if_neg F,if_neg E];refine⟨fun e=>?_,by simpa using E,rfl⟩;have A:oF x r.visits=0:=by simpa using A
 unfold oF at A;rw[if_pos (by rw[e];simp)]at A;cases A
theorem aiX{N:Int}{l:List Visit}(h:∀v∈l,0<=v.order/\v.order<N){i:Nat}(A:i<l.length):0<=cT l i/\cT l i<N:=by
 have e:cT l i=l[i].order:=by unfold cT;simp[List.getD,A]
 rw[e];exact h _ (List.getElem_mem A)
theorem agN{t:VType}{s:Sq.Sheet}(hf:0<=t.fixed/\t.fixed<=100000)(F:0<=t.perMile/\t.perMile<=100)(E:0<=t.perTick/\t.perTick<=100)(h0:0<=t.start)(h1:t.start<=s.end_)(T:s.end_<=4096)(h3:0<=s.miles/\s.miles<=210000):InS (A5 t s) 30000000 0 4096:=by
 have J:W (s.end_-t.start)=s.end_-t.start:=dQ (by omega);have U:0<=t.perMile*s.miles:=Int.mul_nonneg F.1 h3.1;have Z:t.perMile*s.miles<=100*210000:=Int.mul_le_mul F.2 h3.2 h3.1 (by omega);have t0:0<=t.perTick*(s.end_-t.start):=Int.mul_nonneg E.1 (by omega);have Y:t.perTick*(s.end_-t.start)<=100*4096:=Int.mul_le_mul E.2 (by omega) (by omega) (by omega);have q:Int.tdiv (s.end_-t.start) 64=(s.end_-t.start)/64:=Xcf (by omega);have A:0<=(s.end_-t.start)/64/\(s.end_-t.start)/64<=64:=by omega
 have s0:0<=(s.end_-t.start)/64*((s.end_-t.start)/64):=Int.mul_nonneg A.1 A.1;have X:(s.end_-t.start)/64*((s.end_-t.start)/64)<=64*64:=Int.mul_le_mul A.2 A.2 A.1 (by omega);unfold A5;rw[J,q];generalize t.perMile*s.miles=m at *;generalize t.perTick*(s.end_-t.start)=tt at *;have O:W ((s.end_-t.start)/64)=(s.end_-t.start)/64:=dQ (by omega);rw[O];generalize (s.end_-t.start)/64*((s.end_-t.start)/64)=qq at *;rw[dQ (n:=m) (by omega),dQ (n:=tt) (by omega),dQ (n:=t.fixed+m) (by omega),dQ (n:=t.fixed+m+tt) (by omega),dQ (n:=qq) (by omega)];exact⟨by dsimp only;omega,by dsimp only;omega,by dsimp only;omega,by dsimp only;omega⟩
section
variable{x:Instance}(hck:kZ x=[])(h3:x.orders.length<=3)
include hck h3
theorem Ev{r:Route}(h:(cG x r).2.2=0):InS (cG x r).2.1 30000000 3 4096:=by
 obtain⟨ac,F,he⟩:=KD h;have Y:=GY hck;obtain⟨ae,O⟩:=Vy.Bo h;obtain⟨t,Z,h5,h6,h7⟩:=avZ Y (anW hck) F;have A:=Xac Z;have U:=Y.type t A;have T:=U.start;have aa:=U.close;obtain⟨m1,m2,m3,m4⟩:=alP hck t A;rw[he];unfold rL;have E:¬bS r.type x.types.length=true:=by simp[bS];omega
 rw[if_neg E,Z];show InS (Qb x r (gE x r).1 t) 30000000 3 4096;have h0:=agN (s:=(gE x r).1) m1 m2 ⟨m3,m4⟩ T.1 h5.1 (by omega) ⟨h6,h7⟩;have ab:r.visits.length<=20:=by
  have J:bW x r=true:=by
   unfold gE at F;split at F
   ·cases F
   ·next X=>simp only[Xax,not_or,Xbu,Xbj]at X;exact X.1
  unfold bW at J;simp only[Xah,Xau,Xam,decide_eq_false_iff_not]at J;omega
 have J:=pig (cT r.visits) x.orders.length ((List.range r.visits.length).filter (gY r.visits)) (fun i hi=>aiX O (Xai.1 (Xbg.1 hi).1)) (fun k _=>Jh r.visits k _);rw[<-List.countP_eq_length_filter]at J;obtain⟨z1,z2,z3,z4⟩:=h0;have hf:=Ob (x:=x) (r:=r) (List.range r.visits.length) (A5 t (gE x r).1) (by rw[Xck];omega) (by rw[Xck];omega);obtain⟨f1,f2,f3,f4⟩:=hf;unfold Qb;refine⟨by rw[f1];exact z1,by omega,by omega,by rw[f2];exact z4⟩
theorem Wq{u:Int}(h:(bH x u).2=0):InS (bH x u).1 1000000 1 0:=by
 have J:=GY hck;unfold bH at h |-;split
 ·next E=>rw[if_pos E]at h;cases h
 next E=>
 rw[if_neg E]at h;cases F:x.orders[u.toNat]? with
 | none=>rw[F]at h;cases h
 | some o=>
  rw[F]at h;have h:(cX o).2=0:=h;have O:=(J.order o (Xac F)).penalty;show InS (cX o).1 1000000 1 0;unfold cX at h |-;split
  ·next h1=>rw[if_pos h1]at h;cases h
  next h1=>
  rw[if_neg h1]at h;split
  ·next A=>rw[if_pos A]at h;cases h
  next A=>
  have A:o.penalty≠ -1:=by simpa using A
  refine⟨by dsimp only;omega,?_,by dsimp only;omega,by dsimp only;omega⟩;dsimp only;split <;> omega
theorem Rf{p:Plan}(h:PlanA x p)(hl:p.routes.length<=1048576)(hu:p.unserved.length<=1048576):p.routes.length<=3/\p.unserved.length<=3:=by
 have U:∀r∈p.routes,Dec.kF r:=fun r F v A=>by have:=(Vy.Bo (h.ev r F)).2 v A;omega
 have E:∀k:Nat,k<x.orders.length->Ea (onR (k:Nat)) p.routes+p.unserved.countP (fun u=>u == (k:Int))<=1:=fun k J=>by
  obtain⟨od,T⟩:=aI J;have O:=Bp h.two T;have Y:(lZ x.orders.length p.routes).getD k 0=(Ea (onR (k:Nat)) p.routes:Int):=by unfold lZ;simp only[List.getD,List.getElem?_map,List.getElem?_range J];exact En k U
  have X:(eJ x.orders.length p.unserved).getD k 0=(p.unserved.countP (fun u=>u == (k:Int)):Int):=by unfold eJ;simp only[List.getD,List.getElem?_map,List.getElem?_range J];rfl
  have c1:Ea (onR (k:Nat)) p.routes<=p.routes.length:=OY;have c2:=List.countP_le_length (p:=fun u=>u == (k:Int)) (l:=p.unserved);unfold G7 at O;rw[Y,X]at O;simp only[decide_eq_false_iff_not]at O;rw[dQ (by omega)]at O;omega
 have A:∀r∈p.routes,∃v∈r.visits,cT r.visits 0=v.order:=fun r F=>by have Z:=(KD (h.ev r F)).1;obtain⟨v,A⟩:=aI (show 0<r.visits.length by omega);exact⟨v,Xac A,by unfold cT;simp[List.getD,A]⟩
 have p1:=pig (fun r:Route=>cT r.visits 0) x.orders.length p.routes (fun r F=>by
  obtain⟨v,A,e⟩:=A r F;have:=(Vy.Bo (h.ev r F)).2 v A;rw[e];exact this) (fun k J=>by
  have:=E k J;have aa:p.routes.countP (fun r=>cT r.visits 0 == (k:Int))<=p.routes.countP (onR (k:Nat)):=List.countP_mono_left fun r F e=>by
   obtain⟨v,A,X⟩:=A r F;have e:cT r.visits 0=(k:Int):=by simpa using e
   exact Xak.2 ⟨v,A,by rw[<-X,e];simp⟩
  unfold Ea at this;omega)
 have p2:=pig (fun u:Int=>u) x.orders.length p.unserved (fun u hm=>by have:=h.un u hm;simp[bS]at this;omega) (fun k J=>by have:=E k J;omega);omega
theorem ayY{p:Plan}(h:dK x p=0)(T:p.routes.length<=1048576)(J:p.unserved.length<=1048576):InS (Dg x (nH x p.routes) p.unserved) 93000000 12 12288:=by have E:=Vy.nJ h;obtain⟨h1,F⟩:=Rf hck h3 E T J;have z:InS aX 0 0 0:=⟨by decide,by decide,by decide,by decide⟩;have a:InS (nH x p.routes) (0+3*30000000) (0+3*3) (0+3*4096):=Yz (by simpa using h1) z (fun s A=>by obtain⟨r,U,rfl⟩:=Xan.1 A;exact Ev hck h3 (E.ev r U)) (by omega) (by omega) (by omega) (by omega);have b:=Yz (l:=p.unserved.map fun u=>(bH x u).1) (by simpa using F) a (fun s A=>by obtain⟨u,O,rfl⟩:=Xan.1 A;exact Wq hck h3 (E.unserved u O)) (by omega) (by omega) (by omega) (by omega);have b:InS (Dg x (nH x p.routes) p.unserved) _ _ _:=b;exact⟨⟨b.cost.1,by have:=b.cost.2;omega⟩,⟨b.moved.1,by have:=b.moved.2;omega⟩,⟨b.other.1,by have:=b.other.2;omega⟩,⟨b.work.1,by have:=b.work.2;omega⟩⟩
end
theorem WI(x:Instance)(p:Plan):0<=(Nu.gN x p).1/\(Nu.gN x p).1<=100000000000000000:=by
 unfold Nu.gN fV;generalize Dg x (nH x p.routes) p.unserved=s;split
 ·decide
 next h1=>
 split
 ·decide
 next A=>
 simp only[Xax,not_or,decide_eq_true_eq]at h1 A;unfold agO;have w:∀{n:Int},-9223372036854775808<=n/\n<=9223372036854775807->IntKind.i64.wrap n=n:=fun h=>bD h
 rw[w (n:=s.cost*16) (by omega),w (n:=s.cost*16+s.moved) (by omega),w (n:=(s.cost*16+s.moved)*16) (by omega),w (n:=(s.cost*16+s.moved)*16+s.other) (by omega),w (n:=((s.cost*16+s.moved)*16+s.other)*65536) (by omega),w (by omega)];dsimp only;omega
end Go.Proofs.YthephioccidfgaaGreatDoor.Pb
end
namespace Go.Proofs.YthephioccidfgaaGreatDoor
open Go.Aw Go.Aw.D Go.Proofs Ty
namespace Rx
open Sq
open Go.Nu
def atF{x:Instance}{k s:Nat}(A:k<x.types.length)(h0:0<s)(h1:s<2^x.orders.length)(h:(qV x (k:Nat) (s:Nat)).2=0):(qV x (k:Nat) (s:Nat)).1∈kC x:=by unfold kC FO;refine Xbp.2 ⟨k,Xai.2 A,?_⟩;unfold xB;refine Xbp.2 ⟨s-1,Xai.2 (by omega),?_⟩;rw[show s-1+1=s by omega];unfold HI;rw[if_pos (by rw[h];rfl)];simp
def auS{n:Nat}{l:List Visit}(h:∀v∈l,0<=v.order/\v.order<(n:Int))(i:Nat):iE l (i:Nat)=(jF l).testBit i:=by
 rw[rQ];unfold iE;rw[Xar,Xak,Xak];constructor
 ·rintro⟨v,A,e⟩;have:=h v A;have e:v.order=(i:Int):=by simpa using e
  exact⟨v,A,by simp;omega⟩
 ·rintro⟨v,A,e⟩;have:=h v A;have e:v.order.toNat=i:=by simpa using e
  exact⟨v,A,by simp;omega⟩
def yF(r:Route):Prop:=r.start=0/\r.rests=[]
def CF(x:Instance)(r:Route):Column:=(qV x r.type ((jF r.visits:Nat):Int)).1
def F3{x:Instance}(hck:kZ x=[])(h3:x.orders.length<=3){r:Route}(hf:yF r)(J:(cG x r).2.2=0):
  CF x r∈kC x/\(CF x r).type=r.type/\(CF x r).set=((jF r.visits:Nat):Int)/\(CF x r).price<=(cY x r).1/\(cY x r).2=0:=by
 have Z:=GY hck;obtain⟨aa,E⟩:=Vy.Bo J;obtain⟨k,Y⟩:=Int.eq_ofNat_of_zero_le aa.1;have T:k<x.types.length:=by omega
 have X:r=rtQ k r.visits:=by obtain⟨a,b,c,d⟩:=r;obtain⟨e1,e2⟩:=hf;simp only at e1 e2 Y;subst e1 e2 Y;rfl
 obtain⟨ae,_,_⟩:=Pb.KD J;have hq:=(pP J).1;have hs:=Gq hq;have hp:(cY x r).2=0:=by have U:=Pb.Ev hck h3 J;unfold cY;rw[if_neg (by rw[J];simp)];obtain⟨a,b,c,d⟩:=U;unfold fV;rw[if_neg (by simp;omega),if_neg (by simp;omega)]
 obtain⟨v,hv⟩:=aI (show 0<r.visits.length by omega);have ab:=Xac hv;have O:=auS (l:=r.visits) E;have F:Cx x (jF r.visits):=⟨hck,by omega,by
  have A:(jF r.visits).testBit v.order.toNat=true:=by rw[rQ];exact Xak.2 ⟨v,ab,by simp⟩
  refine Nat.pos_of_ne_zero fun e=>?_
  rw[e]at A;simp at A,EK _ fun u hu=>by have:=E u hu;omega⟩
 have hS:Sq.jT x ((jF r.visits:Nat):Int) r.visits:=aqA F Z hq fun i _=>O i
 have ho:(dM r.visits).1=((jF r.visits:Nat):Int):=by rw[(Ad Z.loadB E).1]
 have hL:=aaK F hS hs ho;have ac:r.visits.length<=16:=by have:=Gg (x:=x) (set:=((jF r.visits:Nat):Int)) (n:=x.orders.length) (by omega) (by exact_mod_cast F.top) (by omega);omega
 have A:=abW (k:=k) Z F T hS hL ac (by rw[<-X];exact J) (by rw[<-X];exact hp);rw[<-X]at A;have hm:=atF T F.pos F.top A.1;obtain⟨L,e,_,_,_⟩:=(Rv (x:=x) (k:=k) (set:=((jF r.visits:Nat):Int)) (by omega) A.1).is;unfold CF;rw[Y];refine⟨hm,?_,?_,A.2,hp⟩
 ·rw[e]
 ·rw[e]
end Rx
namespace Nu
open Go.Nu
def V1{m n:Int}:((zed m).toList == (zed n).toList)=decide (m=n):=by
 by_cases h:m=n
 ·subst h;simp
 ·rw[decide_eq_false h];by_cases A:((zed m).toList == (zed n).toList)=true
  ·exfalso;have h3:(zed m).toList=(zed n).toList:=by simpa using A
   have F:zed m=zed n:=by refine oU ?_;rw[<-amU,<-amU,h3]
   have E:nI (zed m)=nI (zed n):=by rw[F]
   rw[dT,dT]at E;exact h E
  ·simpa using A
def ahK{x:Rat}(E:Cz x):Af (rE x)=(zed x.ceil,0)/\x.ceil.natAbs<dA:=by
 have X:cO (rE x)=true:=pX E;obtain⟨y,e0,_,e1,e2⟩:=iJ X;have T:x=y:=aoT.1 e0;subst T;have hd:=x.den_pos;have aa:=E.2;have Z:=E.1;have hb:1000000<dA:=Gh (k:=7) (by decide) (by decide);have e3:dec x.den=zed (x.den:Int):=(gH x.den).symm;have A:qZ (zed x.num) (zed (x.den:Int))=(zed (x.num/(x.den:Int)),zed (x.num%(x.den:Int)),0):=by rw[FF Z (by omega) (by omega),Int.fdiv_eq_ediv_of_nonneg _ (by omega),Int.fmod_eq_emod_of_nonneg _ (by omega)]
 have F:(⟨#[48]⟩:ByteArray)=zed 0:=by decide +kernel
 have O:(⟨#[49]⟩:ByteArray)=zed 1:=by decide +kernel
 unfold Af dU;rw[if_pos X,e1,e2,e3];simp only[A];rw[F,O,V1];unfold Rat.ceil;by_cases h1:x.den=1
 ·rw[if_pos h1,h1];simp;exact Z
 ·rw[if_neg h1];have hm:¬x.num%(x.den:Int)=0:=fun h=>by
   have J:x.den∣x.num.natAbs:=by have:=Int.natAbs_dvd_natAbs.2 (Int.dvd_of_emod_eq_zero h);simpa using this
   have:=Nat.Coprime.eq_one_of_dvd x.reduced.symm J;exact h1 this
  have Y:(x.num/(x.den:Int)+1).natAbs<dA:=by
   have h2:(2:Int)<=(x.den:Int):=by omega
   have h3:=Int.mul_ediv_add_emod x.num (x.den:Int);have h4:=Int.emod_nonneg x.num (show(x.den:Int)≠0 by omega);have h5:=Int.emod_lt_of_pos x.num (show(0:Int)<x.den by omega);generalize x.num/(x.den:Int)=q at *;generalize x.num%(x.den:Int)=r at *;have h6:0<=q->2*q<=(x.den:Int)*q:=fun h=>Int.mul_le_mul_of_nonneg_right h2 h
   have h7:q+1<=0->(x.den:Int)*q+x.den<=q+1:=fun h=>by have:=Int.mul_le_mul_of_nonpos_right (show(1:Int)<=x.den by omega) h;rw[Int.mul_add,Int.mul_one,Int.one_mul]at this;exact this
   omega
  have U:(x.num/(x.den:Int)).natAbs<dA:=by have:=Int.natAbs_ediv_le_natAbs x.num (x.den:Int);omega
  refine⟨?_,Y⟩;simp[hm];unfold JI;rw[if_pos (yW U (by show(1:Int).natAbs<dA;omega)),dT,dT];unfold szZ;rw[if_pos Y]
def aiV{s:ByteArray}(h:cO s=true){n:Int}(h0:n.natAbs<dA)(h1:(n-1).natAbs<dA):J2 s n=(DW s (zed (n-1)) == 1):=by
 obtain⟨x,rfl,J,_,_⟩:=iJ h;obtain⟨T,F⟩:=ahK J;unfold J2;rw[T,asV F h0];unfold DW;rw[pX J,vM h1,Bool.and_self,if_pos rfl,iP,AB];have A:n<=x.ceil↔((n-1:Int):Rat)<x:=by rw[<-Rat.lt_ceil_iff];omega
 unfold lB VP;by_cases O:n<=x.ceil
 ·have E:=A.1 O;rw[if_neg (Rat.not_lt.2 (Rat.le_of_lt E)),if_pos E];by_cases h3:n<x.ceil
  ·rw[if_neg (by omega),if_pos h3];rfl
  ·rw[if_neg (by omega),if_neg h3];rfl
 ·have E:¬((n-1:Int):Rat)<x:=fun h=>O (A.2 h)
  rw[if_pos (by omega),if_neg E];split <;> rfl
end Nu
namespace Snd
open Go.Nu
open Go.Proofs.YthephioccidfgaaGreatDoor.Nu (lvW EL QE cU kK tQ J2 lG)
open Dec (iS)
open Sq (kC)
open Go.Proofs.YthephioccidfgaaGreatDoor.Ve (fN)
def O4:∀{l:List TNode} {D:List (List Decision)} {d:List Decision},d∈fN l D->∃(i:Nat) (n:TNode),l[i]?=some n/\D[i]?=some d/\n.leaf=true
 | [],_,_,h=>by cases h
 | _::_,[],_,h=>by cases h
 | a::l,e::D,d,h=>by
  unfold fN at h;split at h
  ·next E=>
   rcases Xba.1 h with rfl|h
   ·exact⟨0,a,rfl,rfl,E⟩
   ·obtain⟨i,n,h1,A,h3⟩:=O4 h;exact⟨i+1,n,by simpa using h1,by simpa using A,h3⟩
  ·obtain⟨i,n,h1,A,h3⟩:=O4 h;exact⟨i+1,n,by simpa using h1,by simpa using A,h3⟩
def O9{x:Instance}{d:Nat}{no:Bool}{price:Int}:∀{l:List TNode} {D:List (List Decision)},lvW x d no price l D=0->∀(i:Nat) (n:TNode) (ds:List Decision),l[i]?=some n->D[i]?=some ds->n.leaf=true->(no&&n.kind == 1)=false/\EL x d ds n price=0
 | [],_,_,i,n,ds,h1,_,_=>by simp at h1
 | _::_,[],_,i,n,ds,_,A,_=>by simp at A
 | a::l,e::D,h,i,n,ds,h1,A,h3=>by
  unfold lvW at h;cases i with
  | zero=>
   have h1:a=n:=by simpa using h1
   have A:e=ds:=by simpa using A
   subst h1 A;rw[if_neg (by rw[h3];decide)]at h;split at h
   ·cases h
   next F=>
   split at h
   ·next E=>rw[h]at E;simp at E
   next E=>exact⟨by simpa using F,by simpa using E⟩
  | succ i=>
   have h1:l[i]?=some n:=by simpa using h1
   have A:D[i]?=some ds:=by simpa using A
   split at h
   ·exact O9 h i n ds h1 A h3
   ·split at h
    ·cases h
    ·split at h
     ·next E=>rw[h]at E;simp at E
     ·exact O9 h i n ds h1 A h3
structure LeafA(x:Instance)(d:Nat)(ds:List Decision)(n:TNode)(price:Int):Prop where
 chk:iS x ds=0
 cuts:n.cuts.length<=24
 right:∀k∈n.cuts,lG x d k=0
 built:(cU x d (kC x) n.cuts ds).2=0
 bound:(n.kind=2/\tQ (cU x d (kC x) n.cuts ds).1 n.dual=true)\/(n.kind=1/\(kK (cU x d (kC x) n.cuts ds).1 n.dual).2=true/\J2 (kK (cU x d (kC x) n.cuts ds).1 n.dual).1 price=true)
def anO{x:Instance}{d:Nat}{ds:List Decision}{n:TNode}{price:Int}(h:EL x d ds n price=0):LeafA x d ds n price:=by
 unfold EL at h;split at h
 ·cases h
 next h1=>
 split at h
 ·next F=>rw[h]at F;simp at F
 next F=>
 split at h
 ·cases h
 next h3=>
 split at h
 ·cases h
 next T=>
 split at h
 ·next J=>rw[h]at J;simp at J
 next J=>
 refine⟨by simpa using F,by omega,fun k A=>by simpa using(Xap.1 (Xbz.2 T)) k A,by simpa using J,?_⟩;unfold QE at h;split at h
 ·next A=>
  split at h
  ·cases h
  ·next E=>exact .inl ⟨by simpa using A,by simpa using E⟩
 ·next A=>
  split at h
  ·cases h
  ·next E=>
   simp only[Xax,not_or,Xbu,Xbj,Xah,bne_iff_ne,ne_eq,not_and,Decidable.not_not]at h1 E;have A:¬n.kind=2:=by simpa using A
   exact .inr ⟨Decidable.byContradiction fun O=>A (h1.2 O),E.1,E.2⟩
def asB{s:ByteArray}(F:cO s=true){p n:Int}(O:p.natAbs<dA)(A:(p-1).natAbs<dA)(h:J2 s p=true)(T:kQ s<=(n:Rat)):p<=n:=by
 rw[Nu.aiV F O A]at h;have h:DW s (zed (p-1))=1:=by simpa using h
 unfold DW at h;rw[F,Nu.vM A,Bool.and_self,if_pos rfl,Nu.AB]at h;refine Int.not_lt.1 fun U=>?_
 have J:(n:Rat)<=((p-1:Int):Rat):=Rat.intCast_le_intCast.2 (by omega);unfold VP at h;split at h
 ·cases h
 ·split at h
  ·next E=>exact absurd E (Rat.not_lt.2 (Rat.le_trans T J))
  ·cases h
end Snd
namespace Snd
open Go.Nu
open Go.Proofs.YthephioccidfgaaGreatDoor.Nu (Ga Ba FB D1 mH kK tQ AB vM Bw)
def avA{a b:ByteArray}(h:(Bt a b).2=0):kQ (Bt a b).1=kQ a+kQ b:=by
 unfold Bt at h |-;split at h
 ·next A=>
  rw[if_pos A];unfold nH at h |-;split at h
  ·cases h
  ·next h1=>rw[if_neg h1];exact iP _
 ·cases h
def asM{a b:ByteArray}(h:(zO a b).2=0):kQ (zO a b).1=kQ a*kQ b:=by
 unfold zO at h |-;split at h
 ·next A=>
  rw[if_pos A];unfold Mk at h |-;split at h
  ·cases h
  ·next h1=>rw[if_neg h1];exact iP _
 ·cases h
def rJ:List Int->List ByteArray->Rat
 | n::ns,s::v=>(n:Rat)*kQ s+rJ ns v
 | _,_=>0
def KP:∀(ns:List Int) (v:List ByteArray) (t:ByteArray),cO t=true->(mV (ns.zip v) t).2=0->kQ (mV (ns.zip v) t).1=kQ t+rJ ns v/\cO (mV (ns.zip v) t).1=true
 | [],v,t,ht,h=>by simp[mV,rJ];exact⟨by grind,ht⟩
 | n::ns,[],t,ht,h=>by simp[mV,rJ];exact⟨by grind,ht⟩
 | n::ns,s::v,t,ht,h=>by
  rw[List.zip_cons_cons]at h |-;unfold mV at h |-;split at h
  ·next h1=>exact absurd h h1
  next h1=>
  split at h
  ·next A=>exact absurd h A
  next A=>
  rw[if_neg h1,if_neg A];have h1:(zO (zed n) s).2=0:=Decidable.not_not.1 h1;have A:(Bt t (zO (zed n) s).1).2=0:=Decidable.not_not.1 A;obtain⟨F,E⟩:=KP ns v _ (D0 A) h;refine⟨?_,E⟩;rw[F,avA A,asM h1,AB];show kQ t+(n:Rat)*kQ s+rJ ns v=kQ t+((n:Rat)*kQ s+rJ ns v)
  grind
def FQ{ns:List Int}{v:List ByteArray}(h:(gW ns v).2=0):kQ (gW ns v).1=rJ ns v/\cO (gW ns v).1=true:=by
 unfold gW at h |-;split at h
 ·cases h
 next h1=>
 split at h
 ·cases h
 next F=>
 rw[if_neg h1,if_neg F];obtain⟨E,A⟩:=KP ns v (dec 0) Jo h;have e:dec 0=rE 0:=(gH 0).symm.trans (if_pos (show(0:Rat).den=1 from rfl)).symm;rw[e,iP]at E;rw[e]at A |-;exact⟨by rw[E];grind,A⟩
def oW(k:Int)(t r:Int):Prop:=if k=1 then t<=r else if k=3 then r<=t else t=r
def Zt{a b:Int}(h:a<=b):(a:Rat)<=(b:Rat):=Rat.intCast_le_intCast.2 h
def amO(x:Rat):x.num<=0↔x<=0:=by
 have h:=Rat.num_nonneg (q:= -x);rw[Rat.neg_num]at h;constructor
 ·intro e;have:=h.1 (by omega);grind
 ·intro e;have:=h.2 (by grind);omega
def akZ{x:Rat}(h:0<x):0<x.num:=Int.not_le.1 fun e=>absurd h (Rat.not_lt.2 ((amO x).1 e))
def anV{x:Rat}(h:x<0):x.num<0:=Int.not_le.1 fun e=>absurd h (Rat.not_lt.2 (Rat.num_nonneg.1 e))
def aAg{k:Int}{s:ByteArray}(h:Ga k s=false):(k=1->kQ s<=0)/\(k=3->0<=kQ s):=by
 unfold Ga at h;simp only[Xam,Xbj,Bool.and_eq_false_iff,beq_eq_false_iff_ne,decide_eq_false_iff_not]at h;obtain⟨⟨h1,A⟩,h3⟩:=h;unfold DD at A h3;rw[if_pos h1]at A h3;refine⟨fun e=>?_,fun e=>?_⟩
 ·have:¬(kQ s).num.sign>0:=by rcases A with A|A;exact absurd e A;exact A
  refine Rat.not_lt.1 fun E=>this ?_
  have:=akZ E;rw[Int.sign_eq_one_of_pos this];decide
 ·have:¬(kQ s).num.sign<0:=by rcases h3 with h3|h3;exact absurd e h3;exact h3
  refine Rat.not_lt.1 fun E=>this ?_
  have:=anV E;rw[Int.sign_eq_neg_one_of_neg this];decide
def aAb{k t r:Int}{s:ByteArray}(h:Ga k s=false)(A:oW k t r):(r:Rat)*kQ s<=(t:Rat)*kQ s:=by
 obtain⟨h1,h3⟩:=aAg h;unfold oW at A;split at A
 ·next e=>
  have:=h1 e;have c:=Zt A;have:=Rat.mul_nonneg ((Rat.le_iff_sub_nonneg _ _).1 c) (show 0<= -kQ s by grind)
  grind
 split at A
 ·next e=>
  have:=h3 e;have c:=Zt A;have:=Rat.mul_nonneg ((Rat.le_iff_sub_nonneg _ _).1 c) this
  grind
 ·rw[A];exact Rat.le_refl
def PJ:∀(R:List PRow) (v:List ByteArray) (T:List Int),T.length=R.length->R.length=v.length->(∀q∈R.zip v,Ga q.1.kind q.2=false)->(∀q∈R.zip T,oW q.1.kind q.2 q.1.right)->rJ (R.map (·.right)) v<=rJ T v
 | [],_,[],_,_,_,_=>Rat.le_refl
 | r::R,[],_,_,h,_,_=>by simp at h
 | [],_,_::_,h,_,_,_=>by simp at h
 | r::R,_::_,[],h,_,_,_=>by simp at h
 | r::R,s::v,t::T,h1,h2,hs,hk=>by
  have ih:=PJ R v T (by simpa using h1) (by simpa using h2) (fun q A=>hs q (by simp[A])) fun q A=>hk q (by simp[A])
  have h0:=aAb (hs (r,s) (by simp)) (hk (r,t) (by simp));show(r.right:Rat)*kQ s+rJ (R.map (·.right)) v<=(t:Rat)*kQ s+rJ T v
  grind
def Do(a b:List Int):List Int:=a.zipWith (·+·) b
def Bs(m:Nat):List (Int×List Int)->List Int
 | []=>List.replicate m 0
 | c::l=>Do c.2 (Bs m l)
def Bz{m:Nat}:∀{L:List (Int×List Int)},(∀c∈L,c.2.length=m)->(Bs m L).length=m
 | [],_=>by simp[Bs]
 | c::L,h=>by
  have ih:=Bz fun d A=>h d (List.mem_cons_of_mem _ A)
  have:=h c (by simp);unfold Bs Do;rw[List.length_zipWith];omega
def Zm{m:Nat}{j:Nat}:∀{L:List (Int×List Int)},(∀c∈L,c.2.length=m)->(Bs m L).getD j 0=(L.map fun c=>c.2.getD j 0).sum
 | [],_=>by unfold Bs;rw[List.getD,List.getElem?_replicate];split <;> rfl
 | c::L,h=>by
  have A:∀d∈L,d.2.length=m:=fun d E=>h d (List.mem_cons_of_mem _ E)
  have ih:=Zm (j:=j) A;have O:=Bz A;have F:=h c (by simp);rw[Xaq,List.sum_cons,<-ih];show(Do c.2 (Bs m L)).getD j 0=_;generalize Bs m L=t at *;unfold Do;simp only[List.getD,List.getElem?_zipWith];by_cases J:j<m
  ·rw[List.getElem?_eq_getElem (by omega),List.getElem?_eq_getElem (by omega)];rfl
  ·rw[List.getElem?_eq_none (by omega),List.getElem?_eq_none (by omega)];rfl
def MX:∀(a b:List Int) (v:List ByteArray),a.length=b.length->a.length=v.length->rJ (Do a b) v=rJ a v+rJ b v
 | [],[],v,_,_=>by simp[Do,rJ];grind
 | _::_,[],_,h,_=>by simp at h
 | [],_::_,_,h,_=>by simp at h
 | _::_,_::_,[],_,h=>by simp at h
 | a::l,b::m,s::v,h,h2=>by
  have ih:=MX l m v (by simpa using h) (by simpa using h2);show((a+b:Int):Rat)*kQ s+rJ (Do l m) v=((a:Rat)*kQ s+rJ l v)+((b:Rat)*kQ s+rJ m v);rw[ih,Rat.intCast_add]
  grind
def ME:∀(m:Nat) (v:List ByteArray),rJ (List.replicate m 0) v=0
 | 0,v=>rfl
 | m+1,[]=>rfl
 | m+1,s::v=>by
  show((0:Int):Rat)*kQ s+rJ (List.replicate m 0) v=0;rw[ME m v]
  grind
def O3{v:List ByteArray}:∀{L:List (Int×List Int)},(∀c∈L,c.2.length=v.length/\rJ c.2 v<=(c.1:Rat))->rJ (Bs v.length L) v<=(((L.map (·.1)).sum:Int):Rat)
 | [],_=>by show rJ (List.replicate v.length 0) v<=((0:Int):Rat);rw[ME];exact Rat.le_refl
 | c::L,h=>by
  have ih:=O3 (L:=L) fun d A=>h d (List.mem_cons_of_mem _ A)
  obtain⟨h1,E⟩:=h c (by simp);have F:=Bz (m:=v.length) fun d A=>(h d (List.mem_cons_of_mem c A)).1
  show rJ (Do c.2 (Bs v.length L)) v<=(((c::L).map (·.1)).sum:Int);rw[MX _ _ _ (by omega) h1,Xaq,List.sum_cons,Rat.intCast_add]
  grind
def NW{p:PLin}{v:List ByteArray}(h:Ba p v=true):v.length=p.rows.length/\∀q∈p.rows.zip v,Ga q.1.kind q.2=false:=by
 unfold Ba at h;split at h
 ·cases h
 next h1=>exact⟨Decidable.not_not.1 h1,fun q A=>by
  have E:(p.rows.zip v).any (fun q=>Ga q.1.kind q.2)=false:=by simpa using h
  exact Xbz.2 (Xap.1 E q A)⟩
def Ud{p:PLin}{v:List ByteArray}{lim:Nat->Int}(h:D1 p v lim=true){i:Nat}(J:i<p.cost.length)(F:(lim i).natAbs<dA):rJ (Bw p i) v<=(lim i:Rat):=by
 unfold D1 at h;have h1:=Xap.1 (show((List.range p.cost.length).any (FB p v lim))=false by simpa using h) i (Xai.2 J);unfold FB at h1;simp only[Xax,not_or,bne_iff_ne,ne_eq,Decidable.not_not,decide_eq_true_eq]at h1;obtain⟨e,O⟩:=FQ h1.1;have A:=h1.2;unfold DW at A;rw[O,vM F,Bool.and_self,if_pos rfl,e,AB]at A;refine Rat.not_lt.1 fun E=>A ?_
 unfold VP;rw[if_neg (Rat.not_lt.2 (Rat.le_of_lt E)),if_pos E];decide
def afS{p:PLin}{v:List ByteArray}(h:(kK p v).2=true)(hm:∀n∈p.cost,n.natAbs<dA){L:List (Int×List Int)}(T:∀c∈L,∃i,i<p.cost.length/\p.cost.getD i 0=c.1/\Bw p i=c.2/\c.2.length=p.rows.length)
  (U:∀q∈p.rows.zip (Bs p.rows.length L),oW q.1.kind q.2 q.1.right):cO (kK p v).1=true/\kQ (kK p v).1<=(((L.map (·.1)).sum:Int):Rat):=by
 unfold kK at h |-;split at h
 ·cases h
 next h1=>
 split at h
 case isFalse=>cases h
 next F=>
 rw[if_neg h1,if_pos F];simp only[Xax,Xau,not_or,Bool.not_eq_false]at h1;obtain⟨O,Z⟩:=NW h1.1;obtain⟨e,X⟩:=FQ F;refine⟨X,?_⟩;show kQ (gW (mH p) v).1<=_;rw[e];have a:=O3 (v:=v) (L:=L) fun c A=>by obtain⟨i,E,Y,e2,e3⟩:=T c A;have J:=Ud h1.2 E (hm _ (by rw[List.getD,List.getElem?_eq_getElem E];exact List.getElem_mem E));rw[Y,e2]at J;exact⟨by omega,J⟩
 have tl:=Bz (m:=p.rows.length) (L:=L) fun c A=>(T c A).choose_spec.2.2.2
 rw[O]at a;exact Rat.le_trans (PJ p.rows v _ tl O.symm Z U) a
def X5{p:PLin}{v:List ByteArray}(h:tQ p v=true){L:List (Int×List Int)}(F:∀c∈L,∃i,i<p.cost.length/\Bw p i=c.2/\c.2.length=p.rows.length)
  (U:∀q∈p.rows.zip (Bs p.rows.length L),oW q.1.kind q.2 q.1.right):False:=by
 unfold tQ at h;split at h
 ·cases h
 next h1=>
 simp only[Xax,Xau,not_or,Bool.not_eq_false]at h1;obtain⟨T,hs⟩:=NW h1.1;simp only[Xah,Xay,decide_eq_true_eq]at h;obtain⟨e,Z⟩:=FQ h.1;have O:=h.2;unfold DD at O;rw[if_pos Z,e]at O;have A:0<rJ (mH p) v:=by
  refine Rat.not_le.1 fun X=>?_
  have X:=(amO _).2 X;have:(rJ (mH p) v).num.sign<=0:=by
   rcases Int.lt_trichotomy (rJ (mH p) v).num 0 with h0|h0|h0
   ·rw[Int.sign_eq_neg_one_of_neg h0];decide
   ·rw[h0];decide
   ·omega
  omega
 have a:=O3 (v:=v) (L:=L.map fun c=>((0:Int),c.2)) fun c E=>by obtain⟨d,Y,rfl⟩:=Xan.1 E;obtain⟨i,hi,e2,e3⟩:=F d Y;have J:=Ud h1.2 hi (show(0:Int).natAbs<dA from Yy);rw[e2]at J;exact⟨by show d.2.length=v.length;omega,J⟩
 have et:∀L:List (Int×List Int),Bs v.length (L.map fun c=>((0:Int),c.2))=Bs v.length L:=fun L=>by
  induction L with
  | nil=>rfl
  | cons c L ih=>show Do c.2 (Bs v.length (L.map fun c=>((0:Int),c.2)))=Do c.2 (Bs v.length L);rw[ih]
 have es:((L.map fun c=>((0:Int),c.2)).map (·.1)).sum=0:=by
  clear a F U;induction L with
  | nil=>rfl
  | cons c L ih=>simp only[Xaq,List.sum_cons];rw[ih];rfl
 rw[et,es,T]at a;have tl:=Bz (m:=p.rows.length) (L:=L) fun c E=>(F c E).choose_spec.2.2
 have:=Rat.le_trans (PJ p.rows v _ tl T.symm hs U) a;have h9:rJ (mH p) v<=((0:Int):Rat):=this;exact absurd A (Rat.not_lt.2 (by simpa using h9))
end Snd
namespace Nu
open Go.Nu
open Dec (iS cN mG)
def azU{x:Instance}{n:Nat}{o:Order}(h:x.orders[n]?=some o)(F:o.off=false):∃j,j<(dI x).length/\(dI x)[j]?=some (n:Int):=by
 have E:(n:Int)∈dI x:=by unfold dI atS;refine Xan.2 ⟨n,Xbg.2 ⟨Xai.2 (List.getElem?_eq_some_iff.1 h).1,?_⟩,rfl⟩;rw[Cp h,F];rfl
 obtain⟨j,A,e⟩:=List.getElem_of_mem E;exact⟨j,A,by rw[List.getElem?_eq_getElem A,e]⟩
def rF{l:List Int}{j:Nat}{n:Int}(h:l[j]?=some n):l.getD j 0=n:=by rw[List.getD,h];rfl
def J8{x:Instance}{c:Column}{cuts:List Cut}{ds:List Decision}{j:Nat}{i:Int}(h:(dI x)[j]?=some i):(gG x c cuts ds).getD j 0=uF (cR c.set i):=by
 have A:=(List.getElem?_eq_some_iff.1 h).1;have E:(pC x c).length=(dI x).length:=by unfold pC;rw[Xaa]
 refine rF ?_;unfold gG;rw[List.getElem?_append_left (by rw[Xaf,Xaf];omega),List.getElem?_append_left (by rw[Xaf];omega),List.getElem?_append_left (by omega)];unfold pC;rw[List.getElem?_map,h];rfl
def MP{x:Instance}{c:Column}{cuts:List Cut}{ds:List Decision}{t:Nat}(h:t<x.types.length):(gG x c cuts ds).getD ((dI x).length+t) 0=uF (c.type == (t:Int)):=by
 have E:(pC x c).length=(dI x).length:=by unfold pC;rw[Xaa]
 have A:(oK x c x.types.length).length=x.types.length:=by unfold oK;rw[Xaa,Xck]
 refine rF ?_;unfold gG;rw[List.getElem?_append_left (by rw[Xaf,Xaf];omega),List.getElem?_append_left (by rw[Xaf];omega),List.getElem?_append_right (by omega),E];unfold oK;rw[List.getElem?_map,show(dI x).length+t-(dI x).length=t by omega,List.getElem?_range h];rfl
def J5{x:Instance}{o:Int}{n j:Nat}{i:Int}(h:(dI x)[j]?=some i):(fX x o n).getD j 0=uF (i == o):=by have A:=(List.getElem?_eq_some_iff.1 h).1;refine rF ?_;unfold fX;rw[List.getElem?_append_left (by rw[Xaa];omega),List.getElem?_map,h];rfl
def N4{x:Instance}{o:Int}{n j:Nat}(h:(dI x).length<=j):(fX x o n).getD j 0=0:=by unfold fX;rw[List.getD,List.getElem?_append_right (by rw[Xaa];omega),Xaa,List.getElem?_replicate];split <;> rfl
def Nk{x:Instance}{cuts:List Cut}{ds:List Decision}{j:Nat}(h:j<(dI x).length):(jO x cuts ds)[j]?=some ⟨[],2,1⟩:=by
 have A:(sA (dI x).length).length=(dI x).length:=by unfold sA;rw[Xbw]
 unfold jO;rw[List.getElem?_append_left (by rw[Xaf,Xaf];omega),List.getElem?_append_left (by rw[Xaf];omega),List.getElem?_append_left (by omega)];unfold sA;rw[List.getElem?_replicate,if_pos h]
def Sn{x:Instance}{cuts:List Cut}{ds:List Decision}{t:Nat}{ty:VType}(h:x.types[t]?=some ty):(jO x cuts ds)[(dI x).length+t]?=some ⟨[],1,ty.count⟩:=by
 have F:=(List.getElem?_eq_some_iff.1 h).1;have E:(sA (dI x).length).length=(dI x).length:=by unfold sA;rw[Xbw]
 have A:(qL x.types).length=x.types.length:=by unfold qL;rw[Xaa]
 unfold jO;rw[List.getElem?_append_left (by rw[Xaf,Xaf];omega),List.getElem?_append_left (by rw[Xaf];omega),List.getElem?_append_right (by omega),E,show(dI x).length+t-(dI x).length=t by omega];unfold qL;rw[List.getElem?_map,h];rfl
end Nu
namespace Nu
open Go.Nu
open Sq (fE PlanOk pU Ox tZ)
def I7{s i:Nat}(O:s<2^63)(F:i<63)(h:s.testBit i=false):s ||| 2^i=s+2^i:=by
 have J:2^i<2^63:=Xci (by decide) F;have E:=BitVec.add_eq_or_of_and_eq_zero (w:=64) (BitVec.ofNat 64 s) (BitVec.ofNat 64 (2^i)) (by
  apply BitVec.eq_of_toNat_eq;rw[BitVec.toNat_and,BitVec.toNat_ofNat,BitVec.toNat_ofNat,Xbf (by omega),Xbf (by omega)];apply Nat.eq_of_testBit_eq;intro k;rw[Nat.testBit_and,Nat.testBit_two_pow];by_cases A:i=k
  ·subst A;simp[h]
  ·simp[A])
 have:=congrArg BitVec.toNat E;rw[BitVec.toNat_add,BitVec.toNat_or,BitVec.toNat_ofNat,BitVec.toNat_ofNat,Xbf (show s<2^64 by omega),Xbf (show 2^i<2^64 by omega),Xbf (by omega)]at this;exact this.symm
def Tl(s:Nat)(v:Visit):Nat:=if(decide (v.order>=0)&&decide (v.order<63)&& !s.testBit v.order.toNat)=true then s+2^v.order.toNat else s
def B5(l:List Visit):Nat:=l.foldl Tl 0
def acL{s:Nat}{v:Visit}(F:s<2^63):Tl s v<2^63/\∀i,(Tl s v).testBit i=(s.testBit i||(decide (i<63)&&v.order == (i:Int))):=by
 unfold Tl;split
 ·next h=>
  simp only[Xah,decide_eq_true_eq,Xau]at h;obtain⟨⟨h1,J⟩,h3⟩:=h;obtain⟨n,U⟩:=Int.eq_ofNat_of_zero_le h1;rw[U]at J h3 |-;rw[Xao]at h3 |-;have A:n<63:=by omega
  rw[<-I7 F A h3];refine⟨Xcc F (Xci (by decide) A),fun i=>?_⟩;rw[Nat.testBit_or,Nat.testBit_two_pow]
  congr 1
  by_cases E:n=i
  ·subst E;simp[A]
  ·have:¬((n:Int)=(i:Int)):=by omega
   simp[E,this]
 ·next h=>
  refine⟨F,fun i=>?_⟩;by_cases E:(decide (i<63)&&v.order == (i:Int))=true
  ·rw[E,Bool.or_true];simp only[Xah,decide_eq_true_eq,Xay]at E;rw[E.2]at h;have T:¬(s.testBit i=false):=fun O=>h (by rw[Xao,O];simp;omega)
   simpa using T
  ·rw[Xbz.2 E,Bool.or_false]
def C5(l:List Visit):B5 l<2^63/\∀i,(B5 l).testBit i=(decide (i<63)&&fE l (i:Int)):=by
 unfold B5
 suffices ∀(l:List Visit) (s:Nat),s<2^63->l.foldl Tl s<2^63/\∀i,(l.foldl Tl s).testBit i=(s.testBit i||(decide (i<63)&&fE l (i:Int)))from by have h:=this l 0 (by decide);exact⟨h.1,fun i=>by rw[h.2 i];simp⟩
 intro l;induction l with
 | nil=>intro s A;exact⟨A,fun i=>by simp[fE]⟩
 | cons v l ih=>intro s A;rw[Xbd];obtain⟨h1,E⟩:=acL (v:=v) A;obtain⟨h3,F⟩:=ih (Tl s v) h1;refine⟨h3,fun i=>?_⟩;rw[F,E];unfold fE;rw[List.any_cons,Bool.and_or_distrib_left,Bool.or_assoc]
def NM(r:Route):Column:=⟨r.type,(B5 r.visits:Nat),0,r⟩
def OD(S:Nat):∀k,(sG k S:Int)=lN k fun i=>if S.testBit i=true then 1 else 0
 | 0=>rfl
 | k+1=>by rw[Gr];show _=lN k (fun i=>if S.testBit i=true then 1 else 0)+(if S.testBit k=true then 1 else 0);rw[<-OD S k];rw[Xcm];rcases Nat.mod_two_eq_zero_or_one (S/2^k)with e|e <;> rw[e] <;> simp
def KL(S s:Nat)(k:Nat):(sG k (S &&& s):Int)=xC k (fun _=>1) S s:=by rw[OD];unfold xC;exact pT fun i _=>by rw[Nat.testBit_and]
def arG(p:Plan){i:Nat}(A:i<63):GS (p.routes.map fun r=>B5 r.visits) i=Sq.onA p i:=by
 unfold GS Sq.onA Sq.Ea;rw[List.countP_map]
 congr 1
 funext r;show(B5 r.visits).testBit i=_;rw[(C5 r.visits).2 i,decide_eq_true A];rfl
def Ll(c:Cut)(p:Plan):Gt c (p.routes.map NM)=(p.routes.map fun r=>B5 r.visits).map fun s=>lS c.kind (c.set.toNat &&& s):=by unfold Gt;rw[List.map_map,List.map_map];exact List.map_congr_left fun r _=>by simp[NM]
def arK(k:Int)(n:Nat):lS k n=0\/lS k n=1:=by unfold lS;split <;> simp
def auE(k:Int)(n:Nat):0<=lS k n:=by rcases arK k n with h|h <;> omega
def VZ(n:Nat):2*lS 1 n<=(sG 63 n:Int):=by
 unfold lS MA Hy;rw[if_pos rfl];split
 ·next h=>simp at h;omega
 ·omega
def QU:Hy 2=1:=by decide
def JE{n:Nat}(h:1<=sG 63 n):lS 2 n=1:=by unfold lS MA;rw[QU,if_pos (by simp;exact h)]
def abH{n:Nat}(h:sG 63 n=0):lS 2 n=0:=by unfold lS MA;rw[QU,if_neg (by simp;omega)]
def amQ{x:Instance}{d j S:Nat}(h:LoadsOk x d)(J:S<2^x.orders.length):gO x.orders (eY (S:Int)) j=lN 63 fun i=>if S.testBit i=true then tZ x j i else 0:=by
 unfold eY;have:∀k,k<=63->gO x.orders (qP (S:Int) k) j=lN k fun i=>if S.testBit i=true then tZ x j i else 0:=by
  intro k T;induction k with
  | zero=>rfl
  | succ k ih=>
   have ih:=ih (by omega);rw[qD,jD (by omega)];show _=lN k (fun i=>if S.testBit i=true then tZ x j i else 0)+(if S.testBit k=true then tZ x j k else 0);rw[<-ih];by_cases A:S.testBit k=true
   ·rw[if_pos A,if_pos A,Ey]
    congr 1
    have E:k<x.orders.length:=by
     refine Decidable.byContradiction fun O=>?_
     have:S<2^k:=Xbh J (Xas (by decide) (by omega));rw[Xce this]at A;cases A
    obtain⟨o,F⟩:=aI E;unfold Am tZ;rw[gS F,F]
   ·rw[if_neg A,if_neg A,Xbl,Int.add_zero]
 exact this 63 (Xae _)
def aaM{a b c:Int}(h1:a<=c)(A:b<=c):eF a b<=c:=by unfold eF;split <;> omega
def aeB(a b:Int):a<=eF a b:=by unfold eF;split <;> omega
def UV(a b:Int):b<=eF a b:=by unfold eF;split <;> omega
def adO{l:List VType}{t:VType}{j:Nat}(h:t∈l):t.cap.getD j 0<=kD l j:=by
 unfold kD
 suffices ∀(l:List VType) (c:Int),c<=l.foldl (fun c t=>eF c (t.cap.getD j 0)) c/\(t∈l->t.cap.getD j 0<=l.foldl (fun c t=>eF c (t.cap.getD j 0)) c)from(this l 0).2 h
 intro l;induction l with
 | nil=>intro c;exact⟨Xaz _,fun h=>by cases h⟩
 | cons u l ih=>
  intro c;obtain⟨h1,E⟩:=ih (eF c (u.cap.getD j 0));have h3:=aeB c (u.cap.getD j 0);have F:=UV c (u.cap.getD j 0);rw[Xbd];refine⟨by omega,fun A=>?_⟩;rcases Xba.1 A with rfl|A
  ·omega
  ·exact E A
def agX{x:Instance}{ms:List Int}{j:Nat}{s:Int}(A:0<=s)(F:0<=kD x.types j)(h:gO x.orders ms j<=kD x.types j*s):uD x ms j<=s:=by
 unfold uD;generalize gO x.orders ms j=L at *;generalize kD x.types j=C at *;have e:yS [L] [C]=rI [L] [C] 0:=by unfold yS;rw[if_neg (by simp),if_neg (by simp;omega)]
 rw[e];by_cases h1:L<=0
 ·rw[show rI [L] [C] 0=(0,0)from if_pos h1];simpa using A
 by_cases E:C=0
 ·rw[show rI [L] [C] 0=(0,24)from(if_neg h1).trans (if_pos E)];simpa using A
 rw[show rI [L] [C] 0=(eF 0 ((L+C-1).tdiv C),0)from(if_neg h1).trans (if_neg E)];simp only[ne_eq,not_true_eq_false,if_false];refine aaM A ?_;rw[Xcf (by omega)];refine Int.lt_add_one_iff.1 ((Int.ediv_lt_iff_lt_mul (by omega)).2 ?_);rw[Int.add_mul,Int.mul_comm s C];omega
def Zo{x:Instance}{ms:List Int}{s:Int}(h1:1<=s):∀k,(∀j,j<k->uD x ms j<=s)->LP x ms k<=s
 | 0,_=>h1
 | k+1,h=>by rw[GR];exact aaM (Zo h1 k fun j A=>h j (by omega)) (h k (by omega))
def akA{x:Instance}{i:Nat}(h:(Bq x).testBit i=true):∃o,x.orders[i]?=some o/\o.off=false/\o.penalty= -1:=by
 unfold Bq Ms at h;rw[wP,Xah]at h;have A:=h.2;unfold wG at A;split at A
 ·next o ho=>simp at A;exact⟨o,ho,A⟩
 ·cases A
def aeC{k:Nat}{w:Nat->Int}{S s:Nat}(h:sG k (S &&& s)=0):xC k w S s=0:=by
 have A:=KL S s k;unfold xC at A |-;have A:((sG k (S &&& s):Nat):Int)=lN k fun i=>if(S.testBit i&&s.testBit i)=true then(1:Int)else 0:=A
 refine Eq.trans (pT fun i F=>?_) (CX k);have:=GF (f:=fun i=>if(S.testBit i&&s.testBit i)=true then(1:Int)else 0) (n:=k) (i:=i) (fun i _=>by split <;> omega) F;split at this
 ·omega
 ·next E=>rw[if_neg E]
def awJ{k S s i:Nat}(F:i<k)(h1:S.testBit i=true)(E:s.testBit i=true):1<=sG k (S &&& s):=by
 have A:=KL S s k;unfold xC at A;have:=GF (f:=fun i=>if(S.testBit i&&s.testBit i)=true then(1:Int)else 0) (n:=k) (i:=i) (fun i _=>by split <;> omega) F;have e:(if(S.testBit i&&s.testBit i)=true then(1:Int)else 0)=1:=by rw[h1,E];rfl
 rw[e]at this;have A:((sG k (S &&& s):Nat):Int)=lN k fun i=>if(S.testBit i&&s.testBit i)=true then(1:Int)else 0:=A
 omega
def amJ{n:Nat}{w:Nat->Int}{S s:Nat}(E:S<2^n)(F:n<=63):xC 63 w S s=xC n w S s:=by unfold xC;rw[show(63:Nat)=n+(63-n)by omega];refine T5 (fun i A=>?_) _;rw[Xce (Xbh E (Xas (by decide) A)),Bool.false_and,if_neg (by simp)]
def arQ{x:Instance}{d j S:Nat}{r:Route}{t:VType}(hA:Acc x)(h:LoadsOk x d)(hj:j<d)(hS:S<2^x.orders.length)(hc:Sq.eR x r.visits=0)(hf:Sq.yN x r=0)(Z:x.types[r.type.toNat]?=some t)
  (A:WB x (eY (S:Int))=true):xC 63 (tZ x j) S (B5 r.visits)<=t.cap.getD j 0:=by
 have Y:=hA.orders;rw[amJ hS (by omega)];have O:∀i,i<x.orders.length->S.testBit i=true->(i:Int)∈eY (S:Int):=by intro i J E;unfold eY qP;refine Xan.2 ⟨i,Xbg.2 ⟨Xai.2 (by omega),?_⟩,rfl⟩;rw[jD (by omega)];exact E
 have U:∃k,k<=r.visits.length/\∀i,i<x.orders.length->S.testBit i=true->fE r.visits (i:Int)=true->Ox x r.visits k i=true:=by
  unfold WB at A;rw[Xax,Xau,Xau,Xap,Xap]at A;rcases A with h1|h1
  ·refine⟨0,Xab _,fun i J E T=>?_⟩;obtain⟨o,F⟩:=aI J;have:=h1 _ (O i J E);rw[gS F,decide_eq_true_eq]at this;exact Sq.amC F T (by omega)
  ·refine⟨r.visits.length,Xae _,fun i J E T=>?_⟩;obtain⟨o,F⟩:=aI J;have:=h1 _ (O i J E);rw[gS F,decide_eq_true_eq]at this;have:=(hA.order o (Xac F)).drop;exact Sq.ayD hc F T (by omega)
 obtain⟨k,X,U⟩:=U;refine Int.le_trans (Fk fun i J=>?_) (Sq.alW hf Z (h.cap t (Xac Z)).1 Y h.load X hj);obtain⟨o,F⟩:=aI J;have aa:0<=tZ x j i:=by have:=(GL h hj (i:=(i:Int)) ⟨by omega,by omega⟩).1;unfold Am at this;rw[gS F]at this;unfold tZ;rw[F];exact this
 unfold pU;split
 ·next E=>
  rw[Xah]at E;have T:=E.2;rw[(C5 r.visits).2 i,Xah]at T;rw[if_pos (U i J E.1 T.2)];exact Xaz _
 ·split <;> omega
def afQ{x:Instance}{d s:Nat}(h:LoadsOk x d)(E:x.orders.length<=10):uG x d s<=63001:=by
 unfold uG;split
 ·omega
 ·next h1=>
  split
  ·omega
  ·unfold SU at h1;simp only[Xax,not_or,Xbu,Xbj,Xau]at h1;have A:s<2^x.orders.length:=by have:=h1.1.2;rw[acO]at this;simpa using this
   exact(Zq h (Zp A (by omega)) (qY _ 63) d (Xae _)).2
def acT{x:Instance}{d S:Nat}{p:Plan}(hA:Acc x)(h:LoadsOk x d)(hp:PlanOk x p)(hS:S<2^x.orders.length)(h0:S≠0):
  uG x d S<=((p.routes.map fun r=>B5 r.visits).map fun s=>lS 2 (S &&& s)).sum\/uG x d S=0:=by
 have ab:=hA.orders;by_cases A:SU x (S:Int)=true
 ·right;unfold uG;rw[if_pos A]
 left;have hm:S &&& Bq x=S:=by unfold SU at A;simp only[Xax,not_or,Xbu,Xbj,Xao,Xau]at A;simpa using A.2
 have U:∀i,S.testBit i=true->i<x.orders.length:=by
  intro i E;refine Decidable.byContradiction fun hc=>?_
  rw[Xce (Xbh hS (Xas (by decide) (by omega)))]at E;cases E
 have F:∀i,i<63->S.testBit i=true->GS (p.routes.map fun r=>B5 r.visits) i=1:=by
  intro i hi E;rw[arG p hi];have:(Bq x).testBit i=true:=by rw[<-hm,Nat.testBit_and,Xah]at E;exact E.2
  obtain⟨o,ho,Y,T⟩:=akA this;exact hp.must i o ho Y T
 have aa:∀s∈(p.routes.map fun r=>B5 r.visits),0<=lS 2 (S &&& s):=fun s _=>auE _ _
 have J:1<=((p.routes.map fun r=>B5 r.visits).map fun s=>lS 2 (S &&& s)).sum:=by obtain⟨i,E⟩:=Nat.exists_testBit_of_ne_zero h0;have hi:=U i E;have h1:=F i (by omega) E;unfold GS at h1;obtain⟨s,X,Z⟩:=List.countP_pos_iff.1 (show 0<List.countP (fun s=>s.testBit i) (p.routes.map fun r=>B5 r.visits)by omega);have:=arT aa X;rw[JE (awJ (show i<63 by omega) E Z)]at this;exact this
 unfold uG;rw[if_neg A];by_cases O:WB x (eY (S:Int))=false
 ·rw[if_pos O];exact J
 rw[if_neg O];have O:WB x (eY (S:Int))=true:=by simpa using O
 refine Zo J d fun j hj=>?_
 have hC:0<=kD x.types j:=by have:=(De h hj x.types.length).1;rwa [Xad]at this
 refine agX (by omega) hC ?_;rw[amQ h hS];refine asP F fun s X=>?_
 obtain⟨r,hr,rfl⟩:=Xan.1 X;obtain⟨e1,e2,t,e3⟩:=hp.ev r hr;by_cases hz:sG 63 (S &&& B5 r.visits)=0
 ·rw[aeC hz,abH hz,Int.mul_zero];exact Xaz _
 ·rw[JE (by omega),Int.mul_one];exact Int.le_trans (arQ hA h hj hS e1 e2 e3 O) (adO (Xac e3))
def NN{x:Instance}{d:Nat}{p:Plan}{c:Cut}(hA:Acc x)(h:LoadsOk x d)(Z:PlanOk x p)(A:lG x d c=0):
  (c.kind=1/\c.n=1/\(Gt c (p.routes.map NM)).sum<=1)\/(c.kind=2/\(1<=c.n/\c.n<=63001)/\c.n<=(Gt c (p.routes.map NM)).sum):=by
 have X:=hA.orders;unfold lG at A;by_cases O:c.kind=1
 ·rw[if_pos O]at A;split at A
  ·cases A
  next h1=>
  split at A
  ·cases A
  next E=>
  have E:c.n=1:=by simpa using E
  simp only[Xax,not_or,Xbu,Xbj]at h1;obtain⟨S,J,F⟩:=xA h1.1;have h3:sG 63 S=3:=by have:=h1.2;rw[J]at this;simp at this;omega
  refine .inl ⟨O,E,?_⟩;rw[Ll,O,J,Xao];refine Xx (k:=63) (S:=S) ?_ ?_ ?_
  ·rw[<-OD,h3];exact Xaz _
  ·intro i hi Y;rw[arG p hi];refine Z.once i ?_;refine Decidable.byContradiction fun aa=>?_
   rw[Xce (Xbh F (Xas (by decide) (by omega)))]at Y;cases Y
  ·intro s _;rw[<-KL];exact VZ _
 ·rw[if_neg O]at A;by_cases T:c.kind=2
  ·rw[if_pos T]at A;split at A
   ·cases A
   next h1=>
   split at A
   ·cases A
   next E=>
   simp only[Xax,not_or,Xbu,Xbj]at h1;obtain⟨S,J,F⟩:=xA h1.1;have U:S≠0:=by intro e0;have:=h1.2;rw[J,e0]at this;exact absurd this (by decide)
   rw[J]at E;have E:1<=c.n/\c.n<=uG x d S:=by simp at E;omega
   have hk:=afQ (s:=S) h X;refine .inr ⟨T,by omega,?_⟩;rw[Ll,T,J,Xao];rcases acT (p:=p) hA h Z F U with h3|h3
   ·omega
   ·omega
  ·rw[if_neg T]at A;cases A
end Nu
namespace Snd
open Go.Nu
open Go.Proofs.YthephioccidfgaaGreatDoor.Nu (cU jO sA qL sB qT Iv Bv eH dI YS inM gI uP fX qJ lD gG pM pC oK rK Ai Ay uF E9 Bw lS Gt NM B5 C5 NN J8 MP J5 N4 Nk Sn rF qC pQ LQ CV HT lG LoadsOk gS cR)
open Dec (iS lM kF fE lW yD wO DK sP cN FK E4 kV mT)
open Sq (jF rQ kC W A9 G7 uL Bl lZ eJ pN oH qU PlanOk dK cG)
open Rx (CF F3 yF)
open Vy (PlanA Bp AH nJ Bo)
def KB{t r:Int}(h:t<=r):oW 1 t r:=h
def Tt{t r:Int}(h:r<=t):oW 3 t r:=h
def amW{t r:Int}(h:t=r):oW 2 t r:=h
def IQ{α:Type}(p:α->Bool):∀l:List α,(l.map fun a=>uF (p a)).sum=(l.countP p:Int)
 | []=>rfl
 | a::l=>by
  rw[Xaq,List.sum_cons,IQ p l,List.countP_cons];unfold uF;by_cases h:p a=true
  ·rw[if_pos h,if_pos h];omega
  ·rw[if_neg h,if_neg h];omega
def JX{α:Type}:∀l:List α,(l.map fun _=>(0:Int)).sum=0
 | []=>rfl
 | a::l=>by rw[Xaq,List.sum_cons,JX l];rfl
def adB{l:List Visit}(h:∀v∈l,0<=v.order/\v.order<=61):B5 l=jF l:=by
 refine Nat.eq_of_testBit_eq fun i=>?_
 rw[(C5 l).2 i,rQ];unfold Sq.fE;rw[Xar,Xah,Xak,Xak];constructor
 ·rintro⟨_,v,A,e⟩;have:=h v A;have e:v.order=(i:Int):=by simpa using e
  exact⟨v,A,by simp;omega⟩
 ·rintro⟨v,A,e⟩;have:=h v A;have e:v.order.toNat=i:=by simpa using e
  exact⟨by simp;omega,v,A,by simp;omega⟩
def NU:∀ds:List Decision,qT ds=(ds.filter Ay).map fun d=>(⟨[],if d.kind=3 then 1 else 3,d.n⟩:PRow)
 | []=>rfl
 | d::ds=>by
  have ih:=NU ds;unfold qT at ih |-;rw[List.filterMap_cons,List.filter_cons,ih];unfold Iv Ay;by_cases h3:d.kind=3
  ·simp[h3]
  ·by_cases A:d.kind=4
   ·simp[A]
   ·simp[h3,A]
section
variable{x:Instance}{cuts:List Cut}{ds:List Decision}
def Oi(c:Column):(pC x c).length=(dI x).length:=by unfold pC;rw[Xaa]
def MB(c:Column)(k:Nat):(oK x c k).length=k:=by unfold oK;rw[Xaa,Xck]
def apY{c:Column}{k:Nat}{q:Cut}(h:cuts[k]?=some q):(gG x c cuts ds).getD ((dI x).length+x.types.length+k) 0=lS q.kind (q.set.toNat &&& c.set.toNat):=by
 have E:=(List.getElem?_eq_some_iff.1 h).1;have h1:=Oi (x:=x) c;have A:=MB (x:=x) c x.types.length;have h3:(rK c cuts).length=cuts.length:=by unfold rK;rw[Xaa]
 refine rF ?_;unfold gG;rw[List.getElem?_append_left (by rw[Xaf,Xaf];omega),List.getElem?_append_right (by rw[Xaf];omega),Xaf,h1,A,show(dI x).length+x.types.length+k-((dI x).length+x.types.length)=k by omega];unfold rK;rw[List.getElem?_map,h];rfl
def akJ{c:Column}{k:Nat}{d:Decision}(h:(ds.filter Ay)[k]?=some d):(gG x c cuts ds).getD ((dI x).length+x.types.length+cuts.length+k) 0=uF (c.type == d.a):=by
 have h1:=Oi (x:=x) c;have A:=MB (x:=x) c x.types.length;have h3:(rK c cuts).length=cuts.length:=by unfold rK;rw[Xaa]
 refine rF ?_;unfold gG;rw[List.getElem?_append_right (by rw[Xaf,Xaf];omega),Xaf,Xaf,h1,A,h3,show(dI x).length+x.types.length+cuts.length+k-((dI x).length+x.types.length+cuts.length)=k by omega];unfold Ai;rw[List.getElem?_map,h];rfl
def afE{j:Nat}{r:PRow}(h:(jO x cuts ds)[j]?=some r):
  (∃i,(dI x)[j]?=some i/\r=⟨[],2,1⟩)\/(∃t ty,j=(dI x).length+t/\x.types[t]?=some ty/\r=⟨[],1,ty.count⟩) \/
  (∃k q,j=(dI x).length+x.types.length+k/\cuts[k]?=some q/\r=⟨[],(Bv q).1,(Bv q).2⟩) \/
  ∃k d,j=(dI x).length+x.types.length+cuts.length+k/\(ds.filter Ay)[k]?=some d/\r=⟨[],if d.kind=3 then 1 else 3,d.n⟩:=by
 have h0:(sA (dI x).length).length=(dI x).length:=by unfold sA;rw[Xbw]
 have h1:(qL x.types).length=x.types.length:=by unfold qL;rw[Xaa]
 have O:(sB cuts).length=cuts.length:=by unfold sB;rw[Xaa]
 by_cases E:j<(dI x).length
 ·obtain⟨i,T⟩:=aI E;rw[Nk E]at h;exact .inl ⟨i,T,(Option.some.inj h).symm⟩
 by_cases c2:j<(dI x).length+x.types.length
 ·obtain⟨ty,F⟩:=aI (show j-(dI x).length<x.types.length by omega);have e:j=(dI x).length+(j-(dI x).length):=by omega
  rw[e,Sn F]at h;exact .inr (.inl ⟨_,ty,e,F,(Option.some.inj h).symm⟩)
 unfold jO at h;by_cases U:j<(dI x).length+x.types.length+cuts.length
 ·rw[List.getElem?_append_left (by rw[Xaf,Xaf];omega),List.getElem?_append_right (by rw[Xaf];omega),Xaf,h0,h1]at h;unfold sB at h;rw[List.getElem?_map]at h;obtain⟨q,J⟩:=aI (show j-((dI x).length+x.types.length)<cuts.length by omega);rw[J]at h;exact .inr (.inr (.inl ⟨_,q,by omega,J,(Option.some.inj h).symm⟩))
 rw[List.getElem?_append_right (by rw[Xaf,Xaf];omega),Xaf,Xaf,h0,h1,O,NU,List.getElem?_map]at h;cases A:(ds.filter Ay)[j-((dI x).length+x.types.length+cuts.length)]? with
 | none=>rw[A]at h;cases h
 | some d=>rw[A]at h;exact .inr (.inr (.inr ⟨_,d,by omega,A,(Option.some.inj h).symm⟩))
variable{q:Plan}
def Et(x:Instance)(cuts:List Cut)(ds:List Decision)(q:Plan):List (Int×List Int):=
 (q.routes.map fun r=>((CF x r).price,gG x (CF x r) cuts ds))++q.unserved.map fun u=>(lD x u,fX x u (eH x cuts ds))
def Lf(x:Instance)(cuts:List Cut)(ds:List Decision)(q:Plan)(j:Nat):Int:=
 (q.routes.map fun r=>(gG x (CF x r) cuts ds).getD j 0).sum+(q.unserved.map fun u=>(fX x u (eH x cuts ds)).getD j 0).sum
def agE(j:Nat):((Et x cuts ds q).map fun c=>c.2.getD j 0).sum=Lf x cuts ds q j:=by unfold Et Lf;rw[Xaw,List.sum_append,List.map_map,List.map_map];rfl
def Jz{j:Nat}(h:(dI x).length<=j):(q.unserved.map fun u=>(fX x u (eH x cuts ds)).getD j 0).sum=0:=by refine Eq.trans (congrArg List.sum (List.map_congr_left fun u _=>?_)) (JX q.unserved);exact N4 h
def Ma(T:x.orders.length<=62)(A:iS x ds=0)(J:∀r∈q.routes,kF r)(O:q.routes.length<=1048576)(U:lM x ds q=true){d:Decision}(E:d∈ds):Dec.dR x d=0/\lW d q=true:=by
 have F:Dec.dR x d=0:=by
  unfold iS at A;split at A
  ·cases A
  ·exact mT A _ (Xan.2 ⟨d,E,rfl⟩)
 refine⟨F,?_⟩;rw[<-yD T F J O];exact Xaj.1 U d E
def Om(h:PlanA x q)(hn:x.orders.length<=62)(hl:q.routes.length<=1048576)(hu:q.unserved.length<=1048576){n:Nat}{o:Order}(F:x.orders[n]?=some o)(X:o.off=false):pN q.routes n+(q.unserved.countP (fun u=>u == (n:Int)):Int)=1/\(0<q.unserved.countP (fun u=>u == (n:Int))->o.penalty≠ -1):=by
 have O:=(List.getElem?_eq_some_iff.1 F).1;have E:=Bp h.two F;have A:=Bp h.miss F;have U:(lZ x.orders.length q.routes).getD n 0=pN q.routes n:=by unfold lZ;simp[List.getD,O]
 have Y:(eJ x.orders.length q.unserved).getD n 0=(q.unserved.countP (fun u=>u == (n:Int)):Int):=by unfold eJ;simp[List.getD,O]
 have J:=Sq.Pg q.routes n;have T:=List.countP_le_length (p:=fun u=>u == (n:Int)) (l:=q.unserved);unfold G7 at E;unfold Bl at A;rw[U,Y]at E A;have w:W (pN q.routes n+(q.unserved.countP (fun u=>u == (n:Int)):Int))=pN q.routes n+(q.unserved.countP (fun u=>u == (n:Int)):Int):=bD (by omega);rw[w]at E A;rw[X]at A;simp only[decide_eq_false_iff_not,Xcg,Xbc,Xam,beq_eq_false_iff_ne,Bool.and_eq_false_iff]at E A;refine⟨by omega,fun Z=>?_⟩;rcases A.2 with h1|h1
 ·omega
 ·exact h1
def afC(hck:kZ x=[])(h3:x.orders.length<=3)(hq:dK x q=0)(hl:q.routes.length<=1048576)(hu:q.unserved.length<=1048576)(aa:∀r∈q.routes,yF r)(hc:iS x ds=0)(A:∀k∈cuts,lG x (gX x.types).toNat k=0)(hH:lM x ds q=true)
  {j:Nat} {r:PRow} (h:(jO x cuts ds)[j]?=some r):oW r.kind (Lf x cuts ds q j) r.right:=by
 have hx:=GY hck;have Z:=nJ hq;have E:=fun r A=>F3 hck h3 (aa r A) (Z.ev r A)
 have F:∀r∈q.routes,kF r:=fun r A v hv=>by have:=(Bo (Z.ev r A)).2 v hv;omega
 unfold Lf;rcases afE h with⟨i,hi,rfl⟩|⟨t,ty,rfl,ht,rfl⟩|⟨k,c,rfl,X,rfl⟩|⟨k,d,rfl,X,rfl⟩
 ·obtain⟨n,o,rfl,hn,ho,hf⟩:=YS (Xac hi);have O:(q.routes.map fun r=>(gG x (CF x r) cuts ds).getD j 0).sum=pN q.routes n:=by
   unfold pN
   congr 1
   refine List.map_congr_left fun r A=>?_
   have e:cR ((jF r.visits:Nat):Int) (n:Int)=fE r (n:Int):=wO (F r A) (by omega);rw[J8 hi,(E r A).2.2.1,e,AH (F r A)];rfl
  have U:(q.unserved.map fun u=>(fX x u (eH x cuts ds)).getD j 0).sum=(q.unserved.countP (fun u=>u == (n:Int)):Int):=by
   rw[<-IQ]
   congr 1
   refine List.map_congr_left fun u hu=>?_
   rw[J5 hi,Bool.beq_comm]
  rw[O,U];exact amW (Om Z (by omega) hl hu ho hf).1
 ·have Y:=(List.getElem?_eq_some_iff.1 ht).1;have O:(q.routes.map fun r=>(gG x (CF x r) cuts ds).getD ((dI x).length+t) 0).sum=(q.routes.countP (fun r=>r.type == (t:Int)):Int):=by
   rw[<-IQ]
   congr 1
   refine List.map_congr_left fun r A=>?_
   rw[MP Y,(E r A).2.1]
  have U:=Jz (x:=x) (cuts:=cuts) (ds:=ds) (q:=q) (j:=(dI x).length+t) (by omega);rw[O,U];have J:=Xap.1 Z.crowd t (Xai.2 Y);rw[ht]at J;have J:¬(q.routes.countP (fun r=>r.type == (t:Int)):Int)>ty.count:=by simpa using J
  exact KB (by dsimp only;omega)
 ·have O : (q.routes.map fun r => (gG x (CF x r) cuts ds).getD ((dI x).length + x.types.length + k) 0).sum = (Gt c (q.routes.map NM)).sum := by
   rw[Nu.Ll,List.map_map]
   congr 1
   refine List.map_congr_left fun r A=>?_
   rw[apY X,(E r A).2.2.1,Xao];show _=lS c.kind (c.set.toNat &&& B5 r.visits);rw[adB (F r A)]
  have U:=Jz (x:=x) (cuts:=cuts) (ds:=ds) (q:=q) (j:=(dI x).length+x.types.length+k) (by omega);rw[O,U];have ac:PlanOk x q:=Sq.adX (by rw[Vy.VT hx hl hu (by omega)];exact hq);rcases NN hx (Nu.Kg hx).1 ac (A c (Xac X))with⟨e,_,h1⟩|⟨e,_,h1⟩
  ·have er:Bv c=(1,1):=by unfold Bv;rw[if_pos e]
   rw[er];exact KB (by dsimp only;omega)
  ·have er:Bv c=(3,c.n):=by unfold Bv;rw[if_neg (by omega),if_pos e]
   rw[er];exact Tt (by dsimp only;omega)
 ·have O : (q.routes.map fun r => (gG x (CF x r) cuts ds).getD ((dI x).length + x.types.length + cuts.length + k) 0).sum = (sP q.routes d.a : Int) := by
   unfold sP;rw[<-IQ]
   congr 1
   refine List.map_congr_left fun r A=>?_
   rw[akJ X,(E r A).2.1]
  have U:=Jz (x:=x) (cuts:=cuts) (ds:=ds) (q:=q) (j:=(dI x).length+x.types.length+cuts.length+k) (by omega);rw[O,U];have hm:=Xbg.1 (Xac X);obtain⟨_,T⟩:=Ma (by omega) hc F hl hH hm.1;have ab:d.kind=3\/d.kind=4:=by have:=hm.2;unfold Ay at this;simpa using this
  unfold lW at T;rcases ab with e|e
  ·simp only[e]at T;have T:(sP q.routes d.a:Int)<=d.n:=by simpa using T
   show oW (if d.kind=3 then 1 else 3) _ d.n;rw[if_pos e];exact KB (by omega)
  ·simp only[e]at T;have T:d.n<=(sP q.routes d.a:Int):=by simpa using T
   show oW (if d.kind=3 then 1 else 3) _ d.n;rw[if_neg (by omega)];exact Tt (by omega)
end
end Snd
end Go.Proofs.YthephioccidfgaaGreatDoor
section
set_option linter.unusedSectionVars false
namespace Go.Proofs.YthephioccidfgaaGreatDoor.Pb
open Go.Aw Go.Aw.D Go.Proofs Ty
open Sq
open Vy (PlanA)
open Rx (CF F3 yF)
open Snd (Et)
open Go.Proofs.YthephioccidfgaaGreatDoor.Nu (lD)
def wL(s:Sq.Score):Int:=((s.cost*16+s.moved)*16+s.other)*65536+s.work
theorem InS.mono{s:Sq.Score}{p q u p' q' A:Int}(h:InS s p q u)(J:p<=p')(E:q<=q')(F:u<=A):InS s p' q' A:=⟨⟨h.cost.1,Int.le_trans h.cost.2 J⟩,⟨h.moved.1,Int.le_trans h.moved.2 E⟩,⟨h.other.1,Int.le_trans h.other.2 E⟩,⟨h.work.1,Int.le_trans h.work.2 F⟩⟩
theorem Zy{c m o w:Int}(A:0<=c/\c<=93000000)(E:0<=m/\m<=12)(J:0<=o/\o<=12)(F:0<=w/\w<=12288):IntKind.i64.wrap (IntKind.i64.wrap (IntKind.i64.wrap (IntKind.i64.wrap (IntKind.i64.wrap (IntKind.i64.wrap (c*16)+m)*16)+o)*65536)+w)=((c*16+m)*16+o)*65536+w:=by
 have w:∀{n:Int},-9223372036854775808<=n/\n<=9223372036854775807->IntKind.i64.wrap n=n:=fun h=>bD h
 rw[w (n:=c*16) (by omega),w (n:=c*16+m) (by omega),w (n:=(c*16+m)*16) (by omega),w (n:=(c*16+m)*16+o) (by omega),w (n:=((c*16+m)*16+o)*65536) (by omega),w (by omega)]
theorem J9{s:Sq.Score}(h:InS s 93000000 12 12288):fV s=(wL s,0):=by obtain⟨a,b,c,d⟩:=h;unfold fV agO wL;rw[if_neg (by simp;omega),if_neg (by simp;omega),Zy a b c d]
theorem Uj:∀(l:List Sq.Score) (a:Sq.Score) (k:Nat),InS a (k*30000000) (k*3) (k*4096)->(∀s∈l,InS s 30000000 3 4096)->k+l.length<=6->wL (l.foldl kN a)=wL a+(l.map wL).sum
 | [],a,k,_,_,_=>by simp
 | s::l,a,k,h,hs,hk=>by
  rw[Xag]at hk;have h1:=hs s (by simp);have A:=Eb h h1 (by omega) (by omega) (by omega);have ih:=Uj l (kN a s) (k+1) (A.mono (by omega) (by omega) (by omega)) (fun t E=>hs t (by simp[E])) (by omega);rw[Xbd,ih,Xaq,List.sum_cons];obtain⟨a1,a2,a3,F⟩:=h;obtain⟨O,J,U,T⟩:=h1;have e:wL (kN a s)=wL a+wL s:=by unfold wL kN;dsimp only;rw[dQ (n:=a.cost+s.cost) (by omega),dQ (n:=a.moved+s.moved) (by omega),dQ (n:=a.other+s.other) (by omega),dQ (n:=a.work+s.work) (by omega)];omega
  rw[e];omega
theorem apR(x:Instance)(u:Int):(Nu.bH x u).1=⟨(bH x u).1.cost,(bH x u).1.moved,(bH x u).1.other,(bH x u).1.work⟩:=by
 unfold Nu.bH bH;by_cases F:bS u x.orders.length=true
 ·have A:Nu.bS u x.orders.length=true:=F;rw[if_pos F,if_pos A];rfl
 ·have A:¬Nu.bS u x.orders.length=true:=F;rw[if_neg F,if_neg A];cases x.orders[u.toNat]? with
  | none=>rfl
  | some o=>
   have e:Nu.cX o=(⟨(cX o).1.cost,(cX o).1.moved,(cX o).1.other,(cX o).1.work⟩,(cX o).2):=by
    unfold Nu.cX cX;by_cases h1:o.off=true
    ·rw[if_pos h1,if_pos h1];rfl
    ·rw[if_neg h1,if_neg h1];by_cases E:(o.penalty == -1)=true
     ·rw[if_pos E,if_pos E];rfl
     ·rw[if_neg E,if_neg E]
   exact congrArg Prod.fst e
theorem awX{α:Type}{f g:α->Int}:∀{l:List α},(∀a∈l,f a<=g a)->(l.map f).sum<=(l.map g).sum:=Go.Nu.Oz
section
variable{x:Instance}(hck:kZ x=[])(h3:x.orders.length<=3)
include hck h3
theorem V3{u:Int}(h:(bH x u).2=0):lD x u=wL (bH x u).1:=by obtain⟨a,b,c,d⟩:=Wq hck h3 h;unfold lD;rw[apR];generalize (bH x u).1=s at *;unfold Nu.fV Nu.agO wL;dsimp only;rw[if_neg (by simp;omega),if_neg (by simp;omega)];exact Zy ⟨a.1,by omega⟩ ⟨b.1,by omega⟩ ⟨c.1,by omega⟩ ⟨d.1,by omega⟩
theorem Vj{q:Plan}(h:dK x q=0)(U:q.routes.length<=1048576)(X:q.unserved.length<=1048576)(hf:∀r∈q.routes,yF r)(cuts:List Cut)(ds:List Decision):((Et x cuts ds q).map (·.1)).sum<=(Nu.gN x q).1:=by
 have A:=Vy.nJ h;obtain⟨h1,h2⟩:=Rf hck h3 A U X;have J:=ayY hck h3 h U X;have e:Dg x (nH x q.routes) q.unserved=((q.routes.map fun r=>(cG x r).2.1)++q.unserved.map fun u=>(bH x u).1).foldl kN aX:=by unfold Dg nH;rw[Xbq]
 have Z:InS aX ((0:Nat)*30000000) ((0:Nat)*3) ((0:Nat)*4096):=⟨by decide,by decide,by decide,by decide⟩;have Y:=Uj ((q.routes.map fun r=>(cG x r).2.1)++q.unserved.map fun u=>(bH x u).1) aX 0 Z (fun s E=>by
  rcases Xat.1 E with E|E
  ·obtain⟨r,F,rfl⟩:=Xan.1 E;exact Ev hck h3 (A.ev r F)
  ·obtain⟨u,O,rfl⟩:=Xan.1 E;exact(Wq hck h3 (A.unserved u O)).mono (by omega) (by omega) (by omega)) (by rw[Xaf,Xaa,Xaa];omega)
 rw[<-e,Xaw,List.sum_append,List.map_map,List.map_map]at Y;unfold Nu.gN;rw[J9 J];show _<=wL _;rw[Y,show wL aX=0 from rfl];unfold Et;rw[Xaw,List.sum_append,List.map_map,List.map_map];have a1:(q.routes.map ((fun c:Int×List Int=>c.1) ∘ fun r=>((CF x r).price,Nu.gG x (CF x r) cuts ds))).sum<=(q.routes.map (wL ∘ fun r=>(cG x r).2.1)).sum:=awX fun r F=>by
  have T:=A.ev r F;have:=(F3 hck h3 (hf r F) T).2.2.2.1;have e2:cY x r=(wL (cG x r).2.1,0):=by unfold cY;rw[if_neg (by rw[T];simp)];exact J9 ((Ev hck h3 T).mono (by omega) (by omega) (by omega))
  rw[e2]at this;exact this
 have a2:(q.unserved.map ((fun c:Int×List Int=>c.1) ∘ fun u=>(lD x u,Nu.fX x u (Nu.eH x cuts ds)))).sum=(q.unserved.map (wL ∘ fun u=>(bH x u).1)).sum:=by
  congr 1
  exact List.map_congr_left fun u O=>V3 hck h3 (A.unserved u O)
 omega
end
end Go.Proofs.YthephioccidfgaaGreatDoor.Pb
end
namespace Go.Proofs.YthephioccidfgaaGreatDoor
namespace Snd
open Go.Aw Go.Aw.D Go.Proofs Ty Go.Nu
open Go.Proofs.YthephioccidfgaaGreatDoor.Nu (cU jO eH dI inM gI uP fX qJ lD gG pM Bw rF qC pQ LQ CV HT lG gS LeafB RightB EJ Ef gN nG kK)
open Dec (iS lM kF fE lW cN FK E4)
open Sq (kC pN oH dK cG)
open Rx (CF F3 yF)
open Vy (PlanA Bp AH nJ Bo)
section
variable{x:Instance}{d:Nat}{cols:List Column}{cuts:List Cut}{ds:List Decision}{q:Plan}
def Oj(h:(cU x d cols cuts ds).2=0)(O:(cU x d cols cuts ds).1.rows.length=eH x cuts ds){i:Nat}{L:List Int}(T:L.length=eH x cuts ds)(E:∀j,(LQ x cuts ds (inM cols ds) (gI x ds) j).getD i 0=L.getD j 0):Bw (cU x d cols cuts ds).1 i=L:=by
 obtain⟨_,r2⟩:=pQ h;refine List.ext_getElem? fun j=>?_
 unfold Bw;rw[List.getElem?_map];by_cases F:j<eH x cuts ds
 ·obtain⟨r,J⟩:=aI (l:=jO x cuts ds) (k:=j) (by rw[qC];exact F);obtain⟨n,A⟩:=aI (l:=L) (k:=j) (by omega);rw[r2 j r J,A];show some ((LQ x cuts ds (inM cols ds) (gI x ds) j).getD i 0)=some n;rw[E];exact congrArg some (rF A)
 ·rw[List.getElem?_eq_none (by omega),List.getElem?_eq_none (by omega)];rfl
def alJ(x:Instance)(d:Nat)(cols:List Column)(cuts:List Cut)(ds:List Decision)(c:Int×List Int):Prop:=∃i,i<(cU x d cols cuts ds).1.cost.length/\(cU x d cols cuts ds).1.cost.getD i 0=c.1/\Bw (cU x d cols cuts ds).1 i=c.2/\c.2.length=(cU x d cols cuts ds).1.rows.length
def aAn(h:(cU x d cols cuts ds).2=0)(F:(cU x d cols cuts ds).1.rows.length=eH x cuts ds){c:Column}(O:c∈inM cols ds):alJ x d cols cuts ds (c.price,gG x c cuts ds):=by
 obtain⟨i,A,e⟩:=List.getElem_of_mem O;have J:(inM cols ds)[i]?=some c:=by rw[List.getElem?_eq_getElem A,e]
 obtain⟨E,_⟩:=pQ h;refine⟨i,by rw[E,Xaf,Xaa];omega,?_,Oj h F (pM ..) fun j=>?_,by rw[F];exact pM ..⟩
 ·rw[E];refine rF ?_;rw[List.getElem?_append_left (by rw[Xaa];exact A),List.getElem?_map,J];rfl
 ·unfold LQ;rw[List.getD,List.getElem?_append_left (by rw[Xaa];exact A),List.getElem?_map,J];rfl
def atJ(h:(cU x d cols cuts ds).2=0)(E:(cU x d cols cuts ds).1.rows.length=eH x cuts ds){u:Int}(O:u∈gI x ds):alJ x d cols cuts ds (lD x u,fX x u (eH x cuts ds)):=by
 obtain⟨i,T,e⟩:=List.getElem_of_mem O;have F:(gI x ds)[i]?=some u:=by rw[List.getElem?_eq_getElem T,e]
 obtain⟨A,_⟩:=pQ h;have J:(fX x u (eH x cuts ds)).length=eH x cuts ds:=qJ x u (by unfold eH;omega);refine⟨(inM cols ds).length+i,by rw[A,Xaf,Xaa,Xaa];omega,?_,Oj h E J fun j=>?_,by rw[E];exact J⟩
 ·rw[A];refine rF ?_;rw[List.getElem?_append_right (by rw[Xaa];omega),Xaa,show(inM cols ds).length+i-(inM cols ds).length=i by omega,List.getElem?_map,F];rfl
 ·unfold LQ;rw[List.getD,List.getElem?_append_right (by rw[Xaa];omega),Xaa,show(inM cols ds).length+i-(inM cols ds).length=i by omega,List.getElem?_map,F];rfl
def W7(hck:kZ x=[])(h3:x.orders.length<=3)(hq:dK x q=0)(hl:q.routes.length<=1048576)(hu:q.unserved.length<=1048576)(X:∀r∈q.routes,yF r)(hc:iS x ds=0)(hH:lM x ds q=true)
  (hb:(cU x d (kC x) cuts ds).2=0) (hn:(cU x d (kC x) cuts ds).1.rows.length=eH x cuts ds):∀c∈Et x cuts ds q,alJ x d (kC x) cuts ds c:=by
 have hx:=GY hck;have J:=nJ hq;have E:∀r∈q.routes,kF r:=fun r A v hv=>by have:=(Bo (J.ev r A)).2 v hv;omega
 intro c F;unfold Et at F;rcases Xat.1 F with F|F
 ·obtain⟨r,A,rfl⟩:=Xan.1 F;obtain⟨c1,c2,c3,_⟩:=F3 hck h3 (X r A) (J.ev r A);refine aAn hb hn ?_;unfold inM;refine Xbg.2 ⟨c1,Xaj.2 fun dd hd=>?_⟩;have hh:=Xaj.1 hH dd hd;unfold Dec.O6 at hh;rw[Xah,E4 E]at hh;rw[c3];exact Xaj.1 hh.1 _ (Xan.2 ⟨r,A,rfl⟩)
 ·obtain⟨u,U,rfl⟩:=Xan.1 F;refine atJ hb hn ?_;have aa:=J.un u U;have h0:0<=u/\u<(x.orders.length:Int):=by simp[bS]at aa;omega
  obtain⟨n,rfl⟩:=Int.eq_ofNat_of_zero_le h0.1;obtain⟨o,T⟩:=aI (show n<x.orders.length by omega);have Y:0<q.unserved.countP (fun u=>u == (n:Int)):=List.countP_pos_iff.2 ⟨_,U,by simp⟩;have hf:o.off=false:=by
   have Z:=Bp J.gone T;have e2:(Sq.eJ x.orders.length q.unserved).getD n 0=(q.unserved.countP (fun u=>u == (n:Int)):Int):=by unfold Sq.eJ;simp[List.getD,show n<x.orders.length by omega]
   unfold Sq.uL at Z;rw[e2,decide_eq_true (show(q.unserved.countP (fun u=>u == (n:Int)):Int)>0 by omega),Xbo]at Z;exact Z
  obtain⟨s1,s2⟩:=Om J (by omega) hl hu T hf;have hp:=s2 Y;have ab:=(hx.order o (Xac T)).penalty;unfold gI;refine Xbg.2 ⟨?_,?_⟩
  ·obtain⟨j,_,hj⟩:=Nu.azU T hf;exact Xac hj
  unfold uP HT;rw[gS T,decide_eq_true (show o.penalty>=0 by omega),Xbc];unfold CV;rw[Xau,Xap];intro dd hd hk;simp only[Xah,Xay]at hk;obtain⟨_,O⟩:=Ma (by omega) hc E hl hH hd;unfold lW at O;simp only[hk.1,hk.2]at O;have O:(q.routes.any fun r=>fE r (n:Int))=true:=by simpa using O
  obtain⟨r,A,hv⟩:=Xak.1 O;obtain⟨i,hi⟩:=List.getElem?_of_mem A;have h1:=(Vy.sum_one (fun r=>oH r n) q.routes fun r A=>(Sq.I2 r n).1).2 i r hi;rw[AH (E r A),if_pos hv]at h1;unfold pN at s1;omega
def W9(hck:kZ x=[])(h3:x.orders.length<=3)(T:dK x q=0)(hl:q.routes.length<=1048576)(Y:q.unserved.length<=1048576)(J:∀r∈q.routes,yF r){n:TNode}{price:Int}(hp:0<=price/\price<=100000000000000000)(hB:LeafB x n ds price)
  (hL:LeafA x (gX x.types).toNat ds n price) (hH:lM x ds q=true):n.kind=1/\price<=(gN x q).1:=by
 obtain⟨F,_,hr,U,af⟩:=hL;have hR:RightB x n.cuts ds:=⟨hB.types,fun q T=>(hB.cuts q T).1,hB.dsn⟩;obtain⟨_,_,_,hn,_⟩:=EJ U hR;have A:=W7 hck h3 T hl Y J F hH U hn;have ae:=Pb.Vj hck h3 T hl Y J n.cuts ds;have E:∀z∈(cU x (gX x.types).toNat (kC x) n.cuts ds).1.rows.zip (Bs (cU x (gX x.types).toNat (kC x) n.cuts ds).1.rows.length (Et x n.cuts ds q)),oW z.1.kind z.2 z.1.right:=by
  intro z hz;obtain⟨j,hj,rfl⟩:=List.getElem_of_mem hz;rw[List.length_zip]at hj;obtain⟨r,O⟩:=aI (l:=jO x n.cuts ds) (k:=j) (by rw[qC];omega);have h2:=(pQ U).2 j r O;have h1:=afC hck h3 T hl Y J F hr hH O;have ht:=Zm (j:=j) (fun c F=>(A c F).choose_spec.2.2.2);rw[agE]at ht;rw[List.getElem_zip];have e1:(cU x (gX x.types).toNat (kC x) n.cuts ds).1.rows[j]'(by omega)=⟨LQ x n.cuts ds (inM (kC x) ds) (gI x ds) j,r.kind,r.right⟩:=by have:=List.getElem?_eq_getElem (l:=(cU x (gX x.types).toNat (kC x) n.cuts ds).1.rows) (i:=j) (by omega);rw[h2]at this;exact(Option.some.inj this).symm
  have e2:(Bs (cU x (gX x.types).toNat (kC x) n.cuts ds).1.rows.length (Et x n.cuts ds q))[j]'(by omega)=Lf x n.cuts ds q j:=by rw[<-ht,List.getD,List.getElem?_eq_getElem (by omega)];rfl
  show oW ((cU x (gX x.types).toNat (kC x) n.cuts ds).1.rows[j]'(by omega)).kind _ ((cU x (gX x.types).toNat (kC x) n.cuts ds).1.rows[j]'(by omega)).right;rw[e1,e2];exact h1
 rcases af with⟨hk,aa⟩|⟨hk,Z,X⟩
 ·exact absurd (X5 aa (fun c F=>by obtain⟨i,a,_,b,e⟩:=A c F;exact⟨i,a,b,e⟩) E) id
 ·refine⟨hk,?_⟩;obtain⟨ac,ab⟩:=afS Z (fun m hm=>by obtain⟨i,hi,e⟩:=List.getElem_of_mem hm;have:=Ef (x:=x) (d:=(gX x.types).toNat) (cols:=kC x) (cuts:=n.cuts) (ds:=ds) (fun c F=>by have:=(Nu.Ps.QB (by omega) F).price;unfold nG;omega) U i;rw[rF (by rw[List.getElem?_eq_getElem hi,e])]at this;unfold nG at this;exact Nu.Pe (by omega)) A E;have h9:=asB ac (Nu.Pe (by omega)) (Nu.Pe (by omega)) X ab;omega
end
end Snd
namespace Sq
open Go.Proofs.Tryz
open Go.Aw Go.Aw.D Go.Proofs Ty
def avB(x:Instance)(p:Plan)(X:EvalB x)(hn:x.orders.length<=62)(F:x.types.length<=1000)(T:PlanB p)(Y:∀r∈p.routes,r.visits.length<=1048575)(U:sO (p.routes.map fun r=>(cG x r).2.2)=0->∀r∈p.routes,0<=r.type/\r.type<(x.types.length:Int))
  (h0:dK x p≠0):PC prog 20 [.agg (aE x),.agg (gK p)] (.tup [.agg (bE aX),int (dK x p)]):=by
 have hC:=Fu x p X hn F T Y U;generalize dK x p=e at *;refine pcd func20 rfl rfl ?_;simp only[go_sem];refine fR fun Z E A (O:E Z=some (kP aX)) N=>?_
 clear N A;simp only[go_sem,O];refine aO hC ?_;simp only[go_sem];refine aA (fun J=>?_) (fun J=>absurd (by simpa using J) h0);simp only[go_sem];refine aM O (by simp[cE]) ?_;simp only[go_sem,aB];exact .refl _
def Z2(x:Instance)(p:Plan)(T:EvalB x)(X:x.orders.length<=62)(A:x.types.length<=1000)(F:PlanB p)(U:∀r∈p.routes,r.visits.length<=1048575)(O:sO (p.routes.map fun r=>(cG x r).2.2)=0->∀r∈p.routes,0<=r.type/\r.type<(x.types.length:Int))
  (h0:dK x p≠0):PC prog 9 [.agg (aE x),.agg (gK p)] (.tup [int 0,int (dK x p)]):=by
 have J:=avB x p T X A F U O h0;generalize dK x p=e at *;refine pcd func9 rfl rfl ?_;simp only[go_sem];refine aO J ?_;simp only[go_sem];refine aJ fun i Y=>?_
 simp only[go_sem];refine aM (aB _ _ _) (by simp[cE]) ?_;simp only[go_sem];refine aA (fun E=>?_) (fun E=>absurd (by simpa using E) h0);simp only[go_sem];exact .refl _
end Sq
namespace Vy
open Go.Proofs.Tryz
open Go.Aw Go.Aw.D Go.Proofs Ty
open Go.Proofs.YthephioccidfgaaGreatDoor.Nu (ltB geB cB LeafB PlanW VarB nA zQ gN vB nG Az)
open Nu.Ps (PrOk C6)
open Dec (oV lM)
open Sq (dK Fu PN Z2)
open Go.Proofs.YthephioccidfgaaGreatDoor.Ve (rX PathsOf Dl fN F7)
def adZ(r:Route):Bool:=r.start != 0||decide ((r.rests.length:Int)>0)||decide ((r.visits.length:Int)>6)
def Gl(q:Plan):Bool:= !decide ((q.routes.length:Int)>6)&&q.routes.all fun r=> !adZ r
def atT(q:Plan):PC prog 6 [.agg (gK q)] (boo (Gl q)):=by
 refine pcd func6 rfl rfl ?_;simp only[go_sem];refine aA (fun O=>?_) (fun O=>?_)
 ·simp only[go_sem];refine cB ?_;have O:decide ((q.routes.length:Int)>6)=true:=by simpa using O
  unfold Gl;rw[O];rfl
 have O:decide ((q.routes.length:Int)>6)=false:=by simpa using O
 have hF:Gl q=q.routes.all fun r=> !adZ r:=by unfold Gl;rw[O];rfl
 have hl:q.routes.length<=6:=by simp at O;omega
 rw[hF];simp only[go_sem,Xaa];refine⟨fun ρ H=>∃(k:Nat),k<=q.routes.length/\ρ 10=.sl (q.routes.map bM)/\ρ 11=int (q.routes.length:Nat)/\ρ 12=int k/\(∀r∈q.routes.take k,adZ r=false),fun ρ _=>q.routes.length-aU (ρ 12),⟨0,Xab _,by simp only[go_sem],by simp only[go_sem,Xaa],(by simp only[go_sem];rfl),by simp⟩,?_⟩;rintro ρ H ⟨k,hk,E,A,J,hz⟩;simp only[go_sem,E,A,J];refine aA (fun F=>?_) (fun U=>?_)
 ·have F:=ltB (by simpa using F);obtain⟨r,Z⟩:=aI F;have b1:=inB F;simp only[go_sem,E,A,J,aC Z,b1,Xaa];refine aJ fun i4 T=>?_
  simp only[go_sem,E,A,J];refine bP T (by simp[kS]) fun Y (R4:Y i4=some (⟨59,4,[bM r]⟩)) N=>?_
  clear N T;simp only[go_sem,E,A,J,R4];refine aA (fun X=>?_) (fun X=>?_)
  ·simp only[go_sem];refine cB ?_;exact(List.all_eq_false.2 ⟨r,Xac Z,by have X:adZ r=true:=X;rw[X];simp⟩).symm
  ·simp only[go_sem,E,A,J,aW k];exact⟨⟨k+1,F,rfl,Nu.gP (p:=fun r:Route=>adZ r=false) Z X hz⟩,by simp only[aN];omega⟩
 have U:=geB hk (by simpa using U);subst U;rw[Xad]at hz;simp only[go_sem];exact cB (Xaj.2 fun s hs=>by rw[hz s hs];rfl).symm
def amN{q:Plan}(h:Gl q=true):q.routes.length<=6/\(∀r∈q.routes,Rx.yF r):=by unfold Gl at h;simp only[Xah,Xau,decide_eq_false_iff_not,Xaj]at h;refine⟨by omega,fun r A=>?_⟩;have:=h.2 r A;unfold adZ at this;simp only[Xam,bne_eq_false_iff_eq,decide_eq_false_iff_not]at this;exact⟨this.1.1,List.length_eq_zero_iff.1 (by omega)⟩
def Dx(x:Instance)(q:Plan):Int×Int:=if dK x q=0 then gN x q else(0,dK x q)
def Ns{x:Instance}{q:Plan}(E:Acc x)(h3:x.orders.length<=3)(h1:q.routes.length<=1048576)(F:q.unserved.length<=1048576)(J:∀r∈q.routes,r.visits.length<=1048575):PC prog 9 [.agg (aE x),.agg (gK q)] (.tup [int (Dx x q).1,int (Dx x q).2]):=by
 have A:=KR (x:=x) h1 F J;have O:=E.types;by_cases h0:dK x q=0
 ·rw[show Dx x q=gN x q from if_pos h0];exact PN x q (C6 E (by omega)).ev (by omega) (by omega) A.b A.visits A.type h0 (nJ h0).ev (nJ h0).unserved
 ·rw[show Dx x q=(0,dK x q)from if_neg h0];exact Z2 x q (C6 E (by omega)).ev (by omega) (by omega) A.b A.visits A.type h0
def ajJ{x:Instance}{q:Plan}(h:(Dx x q).2=0):dK x q=0/\Dx x q=gN x q:=by
 unfold Dx at h |-;by_cases h0:dK x q=0
 ·exact⟨h0,if_pos h0⟩
 ·rw[if_neg h0]at h;exact absurd h h0
def aA9{x:Instance}{p:Proof}{q:Plan}{b:Bool}{D:List (List Decision)}(hx:sK 1048576 x)(hp:Gm 1048576 p)(hck:kZ x=[])(h3:x.orders.length<=3)(hf:FewB p)(hb:b=true↔rX p.nodes)(hD:b=true->PathsOf p.nodes D)(hv:nA x (gX x.types).toNat p b D=0)
  (hq:dK x q=0) (h1:q.routes.length<=1048576) (Z:q.unserved.length<=1048576) (O:∀r∈q.routes,Rx.yF r):p.noPlan=false/\dK x p.plan=0/\(gN x p.plan).2=0/\(gN x p.plan).1<=(gN x q).1:=by
 obtain⟨rfl,Y,E,X⟩:=agI hv;have ht:=hb.1 rfl;have hP:=hD rfl;obtain⟨d,hd,hh⟩:=aAw ht hP Y (nJ hq) (by omega) h1 Z;obtain⟨i,n,e1,e2,e3⟩:=Snd.O4 hd;obtain⟨k1,k2⟩:=Snd.O9 X i n d e1 e2 e3;have hB:∀U,nG U->LeafB x n d U:=fun U F=>Ut hx hp hf hP F n d (Xac e1) (Xac e2)
 have F:=Pb.WI x p.plan;have hS:=fun price h0 hi=>Snd.W9 (price:=price) hck h3 hq h1 Z O h0 (hB price hi)
 have A:=hS (if p.noPlan=true then 0 else(gN x p.plan).1) (by split <;> omega) (by unfold nG;split <;> omega) (Snd.anO k2) hh;have J:p.noPlan=false:=by
  cases T:p.noPlan with
  | false=>rfl
  | true=>rw[T,A.1]at k1;cases k1
 rw[J]at A;exact⟨J,(E J).1,(E J).2,A.2⟩
def LJ(x:Instance)(p:Proof)(q:Plan)(hx:sK 1048576 x)(hI:InB x)(Z:Gm 1048576 p)(hq:ZQ 1048575 q):PC prog 3 [.agg (aE x),.agg (dY p),.agg (gK q)] (boo true):=by
 obtain⟨b,D,hb,hD,hV⟩:=XZ hx Z;have af:=hq.2.1;have ae:=hq.1.1;have ah:∀r∈p.plan.routes,r.visits.length<=1048575->True:=fun _ _ _=>trivial
 have U:∀r∈q.routes,r.visits.length<=1048575:=fun r T=>(hq.1.2 r T).2.2.2.1
 have X:=Az;have hS:=fun hck h3 hf=>aA9 (q:=q) hx Z hck h3 hf hb hD
 generalize ag:nA x (gX x.types).toNat p b D=V at *;refine pcd func3 rfl rfl ?_;simp only[go_sem];refine aO (Fc x hI) ?_;simp only[go_sem];refine⟨_,fun _=>(aAY p).q rfl,?_⟩;simp only[go_sem];refine⟨_,fun _=>(atT q).q rfl,?_⟩;simp only[go_sem];refine⟨_,fun F=>(by simp only[Xam,Xbj]at F;exact(hV (Gx F.1.1).1 (Gx F.1.1).2.1 (akQ F.1.2)).q rfl),?_⟩;simp only[go_sem];refine aA (fun A=>?_) (fun A=>?_)
 ·simp only[go_sem];refine aO X ?_;simp only[go_sem];exact .refl _
 simp only[Xam,Xbj,bne_eq_false_iff_eq]at A;obtain⟨⟨⟨Y,c2⟩,c3⟩,c4⟩:=A;obtain⟨hA,h3,h2⟩:=Gx Y;have hck:kZ x=[]:=by unfold Qn at Y;simp only[Xah,Xay]at Y;exact List.length_eq_zero_iff.1 (by omega)
 have O:=akQ c2;obtain⟨f1,f2⟩:=amN c3;have hS:=hS hck h3 O c4;have ab:=Ns (q:=q) hA h3 (by omega) (by omega) U;have J:=Ns (q:=p.plan) hA h3 (by have:=O.routes;omega) Z.2.1.2.1 fun r T=>by have:=O.visits r T;omega
 have aa:=ajJ (x:=x) (q:=q);have E:∀h:dK x p.plan=0,Dx x p.plan=gN x p.plan:=fun h=>if_pos h
 generalize Dx x q=Q at *;generalize Dx x p.plan=P at *;simp only[go_sem];refine aO ab ?_;simp only[go_sem];refine aA (fun A=>?_) (fun A=>?_)
 ·simp only[go_sem];refine aO X ?_;simp only[go_sem];exact .refl _
 obtain⟨ac,rfl⟩:=aa (by simpa using A);obtain⟨s1,s2,s3,s4⟩:=hS ac (by omega) (by omega) f2;have E:=E s2;subst E;simp only[go_sem];refine aA (fun A=>by rw[s1]at A;cases A) (fun A=>?_);simp only[go_sem];refine aO J ?_;simp only[go_sem];refine⟨_,fun _=>X.q rfl,?_⟩;simp only[go_sem];exact cB (by rw[s3];simp;exact s4)
end Vy
section
open Go.Aw Go.Aw.D
theorem inB_of{x:Instance}(h:sK 1048576 x):InB x:=by obtain⟨⟨J,E⟩,F,A,U,T⟩:=h;exact⟨J.1,J.2,E.1,fun a X=>⟨(E.2 a X).2.2.2.2.1.1,(E.2 a X).2.2.2.2.2.1⟩,F.1,fun t O=>⟨(F.2 t O).1,(F.2 t O).2.2.2.2.1.1⟩,A.1,fun t O=>⟨(A.2 t O).1,(A.2 t O).2.1.1⟩,U.1,T.1⟩
theorem verifySound_holds:Rows.VerifySoundUptoCardSaid:=verifySound.card fun x p q A E F=>Vy.LJ x p q A (inB_of A) E F
#print axioms verifySound_holds
end
end Go.Proofs.YthephioccidfgaaGreatDoor
