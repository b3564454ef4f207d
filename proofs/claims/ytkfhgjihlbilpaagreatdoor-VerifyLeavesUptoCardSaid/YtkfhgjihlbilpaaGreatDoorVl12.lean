import Derived.Lib.LaidIn
import Derived.MakeChecks
import Derived.Stop.LaidErr
import Derived.Test.YtkfhgjihlbilpaaGreatDoorVl10
import Derived.Test.YtkfhgjihlbilpaaGreatDoorVl11
set_option linter.unusedSimpArgs false
set_option linter.unusedVariables false
set_option linter.defProp false
set_option maxRecDepth 100000
namespace Go.Proofs.YtkfhgjihlbilpaaGreatDoor
open Go.Aw Go.Aw.D Go.Proofs Ty
namespace Sq
structure Lab where
 ready:Int
 since:Int
 x8:Sheet
def YB:Tm:=⟨0,0,0,false⟩
def dQ(s:Sheet)(k:Nat)(b:Bool)(d:Int):Sheet:=match k with
 | 0=>{ s with rest:=b,ω:=d }
 | j+1=>{ s with times:=s.times.set j ⟨(s.times.getD j YB).arrive,(s.times.getD j YB).begin_,d,b⟩ }
def kQ(t:VType)(l:Lab)(b:Bool):Int:=if b=true then W (l.ready+t.rest)else l.ready
def pI(l:Lab)(b:Bool):Int:=if b=true then 0 else l.since
def goL(x:Instance)(t:VType)(p q:Int)(l:Lab)(b:Bool):Int×Int×Int:=gI x.τ t.o6 p q (kQ t l b)
def pU(x:Instance)(t:VType)(p q:Int)(l:Lab)(b:Bool):Int:=W (W (pI l b+(goL x t p q l b).1)-kQ t l b)
def nZ(x:Instance)(t:VType)(p:Int)(s:Stop)(k:Nat)(l:Lab)(b:Bool):Sheet:=
 { dQ l.x8 k b (kQ t l b)with
   times:=(dQ l.x8 k b (kQ t l b)).times++[⟨(goL x t p s.place l b).1,fX (goL x t p s.place l b).1 s.start,0,false⟩]
   o7:=W (l.x8.o7+(goL x t p s.place l b).2.1) }
def qB(x:Instance)(t:VType)(p:Int)(s:Stop)(k:Nat)(l:Lab)(b:Bool):Except Int Lab:=
 if((goL x t p s.place l b).2.2 != 0)=true then .error 12
 else if fX (goL x t p s.place l b).1 s.start>s.close then .error 14
 else if pU x t p s.place l b>t.υ then .error 16
 else .ok ⟨W (fX (goL x t p s.place l b).1 s.start+s.ζ),pU x t p s.place l b,nZ x t p s k l b⟩
def Ke(x:Instance)(t:VType)(p:Int)(k:Nat)(l:Lab)(b:Bool):Sheet:=
 { dQ l.x8 k b (kQ t l b)with
   end_:=(goL x t p t.dst l b).1
   o7:=W (l.x8.o7+(goL x t p t.dst l b).2.1) }
def xW(x:Instance)(t:VType)(p:Int)(k:Nat)(l:Lab)(b:Bool):Except Int Lab:=
 if((goL x t p t.dst l b).2.2 != 0)=true then .error 12
 else if(goL x t p t.dst l b).1>t.close then .error 15
 else if pU x t p t.dst l b>t.υ then .error 16
 else .ok ⟨(goL x t p t.dst l b).1,pU x t p t.dst l b,Ke x t p k l b⟩
def Ib(x:Instance)(t:VType):List Visit->List Bool->Int->Nat->Lab->Except Int Lab
 | [],b::_,p,k,l=>xW x t p k l b
 | v::vs,b::bs,p,k,l=>match qB x t p (bM x v).1 k l b with
   | .error e=>.error e
   | .ok l'=>Ib x t vs bs (bM x v).1.place (k+1) l'
 | _,[],_,_,l=>.ok l
def iK(t:VType)(r:Route):Lab:=⟨fX t.start r.start,0,bA⟩
theorem pL(s:Sheet)(k:Nat)(b:Bool)(d:Int):(dQ s k b d).o7=s.o7/\(dQ s k b d).end_=s.end_/\(dQ s k b d).times.length=s.times.length:=by cases k <;> simp[dQ]
def Ay(t:VType)(p:Int)(l:Lab)(m:Int)(b:Bool):lS t ⟨p,l.ready,l.since,m⟩ b=⟨p,kQ t l b,pI l b,m⟩:=by grind[lS,kQ,pI]
def Z1{a s c:Int}(h:s<=c):(fX a s>c)↔a>c:=by grind[fX]
def ON{x:Instance}{t:VType}{p:Int}{l:Lab}{b:Bool}{q c A:Int}:
 iM x t ⟨p,kQ t l b,pI l b,l.x8.o7⟩ q c A =
  if((goL x t p q l b).2.2 != 0)=true then(⟨p,kQ t l b,pI l b,l.x8.o7⟩,12)
  else if(goL x t p q l b).1>c then(⟨p,kQ t l b,pI l b,l.x8.o7⟩,A)
  else if pU x t p q l b>t.υ then(⟨p,kQ t l b,pI l b,l.x8.o7⟩,16)
  else(⟨q,(goL x t p q l b).1,pU x t p q l b,W (l.x8.o7+(goL x t p q l b).2.1)⟩,0):=by rfl
def TM(x:Instance)(t:VType):∀(vs:List Visit) (bs:List Bool) (b:Bool) (p:Int) (k:Nat) (l:Lab) (dr:List Int),bs.length=vs.length->l.x8.times.length=k ->
   (∀v∈vs,(bM x v).1.start<=(bM x v).1.close) ->
   match (vs.zip bs).foldlM (oI x t) (lS t ⟨p,l.ready,l.since,l.x8.o7⟩ b,dr,(dQ l.x8 k b (kQ t l b)).times)with
   | .error e=>Ib x t vs (b::bs) p k l=.error e
   | .ok a=>if((iM x t a.1 t.dst t.close 15).2 != 0)=true then Ib x t vs (b::bs) p k l=.error (iM x t a.1 t.dst t.close 15).2
     else ∃l',Ib x t vs (b::bs) p k l=.ok l'/\l'.x8=⟨(dQ l.x8 k b (kQ t l b)).rest,(dQ l.x8 k b (kQ t l b)).ω,a.2.2,(iM x t a.1 t.dst t.close 15).1.time,(iM x t a.1 t.dst t.close 15).1.o7⟩
 | [],bs,b,p,k,l,dr,hb,hk,_=>by
   simp only[List.zip_nil_left,List.foldlM_nil];show if((iM x t (lS t ⟨p,l.ready,l.since,l.x8.o7⟩ b) t.dst t.close 15).2 != 0)=true then _ else _
   rw[Ay,ON];unfold Ib xW;by_cases h1:((goL x t p t.dst l b).2.2 != 0)=true
   . grind
   by_cases I:(goL x t p t.dst l b).1>t.close
   . grind
   by_cases T:pU x t p t.dst l b>t.υ
   all_goals simp_all[if_neg,Ke]
 | v::vs,[],b,p,k,l,dr,hb,_,_=>by grind
 | v::vs,b1::bs,b,p,k,l,dr,hb,hk,hs=>by
   have F:=hs v (by simp);rw[List.zip_cons_cons,List.foldlM_cons];unfold Ib;have A:kA x t (lS t ⟨p,l.ready,l.since,l.x8.o7⟩ b,dr,(dQ l.x8 k b (kQ t l b)).times) v=_:=(congrArg (fun s=>iM x t s (bM x v).1.place (bM x v).1.close 14) (Ay t p l l.x8.o7 b)).trans ON;generalize O:(bM x v).1=s at A F |-;unfold qB;by_cases h1:((goL x t p s.place l b).2.2 != 0)=true
   . simp only[h1,if_true]at A |-;unfold oI;rw[A];rfl
   by_cases I:(goL x t p s.place l b).1>s.close
   . have E:=(Z1 F).2 I;simp only[h1,I,E,if_true,if_false,Xbe]at A |-;unfold oI;rw[A];rfl
   have E:¬fX (goL x t p s.place l b).1 s.start>s.close:=fun h=>I ((Z1 F).1 h)
   by_cases T:pU x t p s.place l b>t.υ
   . simp only[h1,I,E,T,if_true,if_false,Xbe]at A |-;unfold oI;rw[A];rfl
   simp only[h1,I,E,T,if_false,Xbe]at A |-;have Y : oI x t (lS t ⟨p, l.ready, l.since, l.x8.o7⟩ b, dr, (dQ l.x8 k b (kQ t l b)).times) (v, b1) =
       .ok (nM x t (lS t ⟨p,l.ready,l.since,l.x8.o7⟩ b,dr,(dQ l.x8 k b (kQ t l b)).times) (v,b1)):=by grind[oI]
   rw[Y];show match (vs.zip bs).foldlM (oI x t) (nM x t (lS t ⟨p,l.ready,l.since,l.x8.o7⟩ b,dr,(dQ l.x8 k b (kQ t l b)).times) (v,b1))with
     | .error e=>_
     | .ok a=>_
   have J:(nZ x t p s k l b).times.length=k+1:=by grind[nZ,pL]
   have ih:=TM x t vs bs b1 s.place (k+1) ⟨W (fX (goL x t p s.place l b).1 s.start+s.ζ),pU x t p s.place l b,nZ x t p s k l b⟩ (dr++[(kA x t (lS t ⟨p,l.ready,l.since,l.x8.o7⟩ b,dr,(dQ l.x8 k b (kQ t l b)).times) v).1.ν])
     (by grind) J (fun u hu=>hs u (by grind))
   have Z : nM x t (lS t ⟨p, l.ready, l.since, l.x8.o7⟩ b, dr, (dQ l.x8 k b (kQ t l b)).times) (v, b1) =
       (lS t ⟨s.place,W (fX (goL x t p s.place l b).1 s.start+s.ζ),pU x t p s.place l b,(nZ x t p s k l b).o7⟩ b1,dr++[(kA x t (lS t ⟨p,l.ready,l.since,l.x8.o7⟩ b,dr,(dQ l.x8 k b (kQ t l b)).times) v).1.ν],
         (dQ (nZ x t p s k l b) (k+1) b1 (kQ t ⟨W (fX (goL x t p s.place l b).1 s.start+s.ζ),pU x t p s.place l b,nZ x t p s k l b⟩ b1)).times):=by
     unfold nM;rw[O];simp only[A];have U:(dQ l.x8 k b (kQ t l b)).times.length=k:=by grind[pL]
     have X:(lS t (FP s ⟨s.place,(goL x t p s.place l b).1,pU x t p s.place l b,W (l.x8.o7+(goL x t p s.place l b).2.1)⟩) b1)=⟨s.place,kQ t ⟨W (fX (goL x t p s.place l b).1 s.start+s.ζ),pU x t p s.place l b,nZ x t p s k l b⟩ b1,pI ⟨W (fX (goL x t p s.place l b).1 s.start+s.ζ),pU x t p s.place l b,nZ x t p s k l b⟩ b1,W (l.x8.o7+(goL x t p s.place l b).2.1)⟩:=by exact Ay t s.place ⟨W (fX (goL x t p s.place l b).1 s.start+s.ζ),pU x t p s.place l b,nZ x t p s k l b⟩ _ b1
     rw[X];rw[Ay t s.place ⟨W (fX (goL x t p s.place l b).1 s.start+s.ζ),pU x t p s.place l b,nZ x t p s k l b⟩ _ b1]
     grind[dQ,nZ]
   grind[dQ,nZ]
def aBz{x:Instance}{r:Route}{t:VType}{b:Bool}{bs:List Bool}(Y:cC x r=true)(Z:x.types[r.type.toNat]?=some t)(O:bs.length=r.y7.length)
  (I:∀v∈r.y7,(bM x v).1.start<=(bM x v).1.close):
  match Ib x t r.y7 (b::bs) t.src 0 (iK t r)with
  | .error e=>(fV x r (b::bs)).1=bA/\(fV x r (b::bs)).2.2=e
  | .ok l=>(fV x r (b::bs)).1=l.x8/\(fV x r (b::bs)).2.2=0:=by
 have X:fV x r (b::bs)=Uo x r (b::bs) t b:=by simp_all[fV]
 rw[X];have h:=TM x t r.y7 bs b t.src 0 (iK t r) [] O rfl I;unfold Uo;show match Ib x t r.y7 (b::bs) t.src 0 (iK t r)with
  | .error e=>(match (r.y7.zip bs).foldlM (oI x t) (vO r t b,[],[])with| .error e=>(bA,[],e)| .ok a=>Bm x t b (vO r t b) a:Sheet×List Int×Int).1=bA/\_
  | .ok l=>_
 have J:(lS t ⟨t.src,(iK t r).ready,(iK t r).since,(iK t r).x8.o7⟩ b,([]:List Int),(dQ (iK t r).x8 0 b (kQ t (iK t r) b)).times)=(vO r t b,[],[]):=rfl;rw[J]at h;cases A:(r.y7.zip bs).foldlM (oI x t) (vO r t b,[],[])with
 | error e=>grind
 | ok a=>
  rw[A]at h;simp only at h;by_cases E:((iM x t a.1 t.dst t.close 15).2 != 0)=true
  ·simp_all[Bm]
  ·rw[if_neg E]at h;obtain⟨l',h1,T⟩:=h;rw[h1];have F:Bm x t b (vO r t b) a=_:=if_neg E;have U:(vO r t b).time=kQ t (iK t r) b:=by have:=Ay t t.src (iK t r) 0 b;exact congrArg St8.time this
   refine⟨?_,?_⟩
   ·show(match (r.y7.zip bs).foldlM (oI x t) (vO r t b,[],[])with| .error e=>(bA,[],e)| .ok a=>Bm x t b (vO r t b) a:Sheet×List Int×Int).1=_;rw[A];show(Bm x t b (vO r t b) a).1=_;rw[F,T];show(⟨b,(vO r t b).time,a.2.2,_,_⟩:Sheet)=_;rw[U];rfl
   grind
structure GoB(x:Instance)(t:VType):Prop where
 arrive:∀p q d,0<=d/\d<=12288->(gI x.τ t.o6 p q d).2.2=0->0<=(gI x.τ t.o6 p q d).1
 rest:0<=t.rest/\t.rest<=4096
 close:t.close<=4096
 υ:t.υ<=4096
structure StopB(s:Stop):Prop where
 start:0<=s.start
 close:s.close<=4096
 ζ:0<=s.ζ/\s.ζ<=4096
structure LabB(l:Lab)(k:Nat):Prop where
 ready:0<=l.ready/\l.ready<=8192
 since: -(12288*(k:Int))<=l.since/\l.since<=4096
def pY(l m:Lab):Prop:=l.ready=m.ready/\l.since<=m.since
theorem pY.refl(l:Lab):pY l l:=⟨rfl,Xbz _⟩
def pY.trans{a b c:Lab}(h:pY a b)(A:pY b c):pY a c:=⟨h.1.trans A.1,Int.le_trans h.2 A.2⟩
theorem aBK{n:Int}(h: -9223372036854775808<=n/\n<=9223372036854775807):W n=n:=aW h
def O9{t:VType}{l:Lab}{k:Nat}(E:0<=t.rest/\t.rest<=4096)(A:LabB l k)(b:Bool):0<=kQ t l b/\kQ t l b<=12288:=by
 have:=A.ready;unfold kQ;cases b with
 | false=>grind
 | true=>rw[if_pos rfl,aBK (by omega)];omega
def NR{l:Lab}{k:Nat}(A:LabB l k)(b:Bool): -(12288*(k:Int))<=pI l b/\pI l b<=4096:=by
 unfold pI;cases b with
 | false=>exact A.since
 | true=>grind
def FH{x:Instance}{t:VType}{p q:Int}{l:Lab}{b:Bool}{k:Nat}(J:k<=1048576)(A:GoB x t)(E:LabB l k)(h0:(goL x t p q l b).2.2=0)(h1:(goL x t p q l b).1<=4096):
  pU x t p q l b=pI l b+(goL x t p q l b).1-kQ t l b/\0<=(goL x t p q l b).1:=by
 have F:=O9 A.rest E b;have O:=NR E b;have I:0<=(goL x t p q l b).1:=A.arrive p q _ F h0
 grind[pU,aBK]
def acN(a s:Int):a<=fX a s/\s<=fX a s:=by grind[fX]
def Lt{x:Instance}{t:VType}{p:Int}{s:Stop}{k j:Nat}{l l':Lab}{b:Bool}(h:qB x t p s j l b=.ok l'):
 (goL x t p s.place l b).2.2=0/\fX (goL x t p s.place l b).1 s.start<=s.close/\pU x t p s.place l b<=t.υ /\
  l'=⟨W (fX (goL x t p s.place l b).1 s.start+s.ζ),pU x t p s.place l b,nZ x t p s j l b⟩:=by grind[qB]
def S9{x:Instance}{t:VType}{p:Int}{j:Nat}{l l':Lab}{b:Bool}(h:xW x t p j l b=.ok l'):
 (goL x t p t.dst l b).2.2=0/\(goL x t p t.dst l b).1<=t.close/\pU x t p t.dst l b<=t.υ /\
  l'=⟨(goL x t p t.dst l b).1,pU x t p t.dst l b,Ke x t p j l b⟩:=by grind[xW]
def awT{x:Instance}{t:VType}{p:Int}{s:Stop}{k j:Nat}{l l':Lab}{b:Bool}(J:k<=1048576)(E:GoB x t)(A:StopB s)(F:LabB l k)(h:qB x t p s j l b=.ok l'):LabB l' (k+1):=by
 obtain⟨h0,h1,h2,rfl⟩:=Lt (k:=k) h;have Y:=acN (goL x t p s.place l b).1 s.start;have T:=A.close;have X:=A.start;have Z:=A.ζ;obtain⟨e,U⟩:=FH J E F h0 (by omega);have hd:=O9 E.rest F b;have I:=NR F b;have O:=E.υ;refine⟨?_,?_⟩
 all_goals grind[aBK]
def aaK{x:Instance}{t:VType}{p q:Int}{l m:Lab}{b:Bool}(h:l.ready=m.ready):goL x t p q l b=goL x t p q m b/\kQ t l b=kQ t m b:=by grind[kQ,goL]
def Mh{x:Instance}{t:VType}{p:Int}{s:Stop}{k j:Nat}{l m F:Lab}{b:Bool}(I:k<=1048576)(E:GoB x t)(U:StopB s)(X:LabB l k)(T:LabB m k)(J:pY l m)(h:qB x t p s j m b=.ok F):
  ∃l',qB x t p s j l b=.ok l'/\pY l' F:=by
 obtain⟨h0,h1,h2,rfl⟩:=Lt (k:=k) h;obtain⟨Y,ed⟩:=aaK (x:=x) (t:=t) (p:=p) (q:=s.place) (b:=b) J.1;have hi:=acN (goL x t p s.place m b).1 s.start;have hc:=U.close;have e1:=(FH (p:=p) (q:=s.place) (b:=b) I E T h0 (by omega)).1;have Z:=(FH (p:=p) (q:=s.place) (b:=b) I E X (by grind) (by grind)).1;have O:pI l b<=pI m b:=by
  unfold pI;cases b with
  | false=>exact J.2
  | true=>simp
 have A:pU x t p s.place l b<=pU x t p s.place m b:=by grind
 refine⟨⟨W (fX (goL x t p s.place l b).1 s.start+s.ζ),pU x t p s.place l b,nZ x t p s j l b⟩,?_,?_,A⟩
 ·unfold qB
  grind
 grind
def J8{x:Instance}{t:VType}{p:Int}{k j:Nat}{l m F:Lab}{b:Bool}(I:k<=1048576)(A:GoB x t)(U:LabB l k)(T:LabB m k)(J:pY l m)(h:xW x t p j m b=.ok F):
  ∃l',xW x t p j l b=.ok l'/\pY l' F:=by
 obtain⟨h0,h1,h2,rfl⟩:=S9 h;obtain⟨X,ed⟩:=aaK (x:=x) (t:=t) (p:=p) (q:=t.dst) (b:=b) J.1;have Z:=A.close;have e1:=(FH (p:=p) (q:=t.dst) (b:=b) I A T h0 (by omega)).1;have Y:=(FH (p:=p) (q:=t.dst) (b:=b) I A U (by grind) (by grind)).1;have O:pI l b<=pI m b:=by
  unfold pI;cases b with
  | false=>exact J.2
  | true=>simp
 have E:pU x t p t.dst l b<=pU x t p t.dst m b:=by grind
 refine⟨⟨(goL x t p t.dst l b).1,pU x t p t.dst l b,Ke x t p j l b⟩,?_,?_,E⟩
 ·unfold xW
  grind
 grind
def fM(fixed:List Bool)(k:Nat):List Bool:=if k<fixed.length then[fixed.getD k false]else[false,true]
def jQ(x:Instance)(t:VType)(r:Route):Nat->Int
 | 0=>t.src
 | k+1=>match r.y7[k]? with|some v=>(bM x v).1.place|none=>0
def iB(x:Instance)(t:VType)(r:Route)(k:Nat)(l:Lab)(b:Bool):Except Int Lab:=match r.y7[k]? with
 | some v=>qB x t (jQ x t r k) (bM x v).1 k l b
 | none=>xW x t (jQ x t r k) k l b
def mR(x:Instance)(t:VType)(r:Route):List Bool->Nat->Lab->Except Int Lab
 | [],_,l=>.ok l
 | b::bs,k,l=>match iB x t r k l b with
   | .error e=>.error e
   | .ok l'=>mR x t r bs (k+1) l'
def aqJ{x:Instance}{t:VType}{r:Route}:∀(bs:List Bool) (k:Nat) (l:Lab),bs.length+k=r.y7.length+1->k<=r.y7.length->Ib x t (r.y7.drop k) bs (jQ x t r k) k l=mR x t r bs k l
 | [],k,l,h,hk=>by grind
 | b::bs,k,l,h,hk=>by
  by_cases A:k<r.y7.length
  ·obtain⟨v,E⟩:=aK A;have I:r.y7.drop k=v::r.y7.drop (k+1):=by
    rw[Xbq A];have:r.y7[k]=v:=by rw[List.getElem?_eq_getElem A]at E;exact Option.some.inj E
    rw[this]
   rw[I];unfold Ib mR iB;rw[E];have ih:=fun l'=>aqJ (x:=x) (t:=t) (r:=r) bs (k+1) l' (by simp at h;omega) (by omega)
   have F:jQ x t r (k+1)=(bM x v).1.place:=by show(match r.y7[k]? with|some v=>(bM x v).1.place|none=>0)=_;rw[E]
   rw[F]at ih;show(match qB x t (jQ x t r k) (bM x v).1 k l b with| .error e=>Except.error e| .ok l'=>Ib x t (r.y7.drop (k+1)) bs (bM x v).1.place (k+1) l')=(match qB x t (jQ x t r k) (bM x v).1 k l b with| .error e=>Except.error e| .ok l'=>mR x t r bs (k+1) l');cases qB x t (jQ x t r k) (bM x v).1 k l b with
   | error e=>rfl
   | ok l'=>exact ih l'
  ·have J:k=r.y7.length:=by omega
   have O:bs=[]:=by simp_all;grind
   grind[Ib,mR,iB]
theorem rG{x:Instance}{t:VType}{r:Route}:∀(bs:List Bool) (b:Bool) (k:Nat) (l:Lab),mR x t r (bs++[b]) k l=match mR x t r bs k l with
  | .error e=>.error e
  | .ok l'=>iB x t r (k+bs.length) l' b
 | [],b,k,l=>by show(match iB x t r k l b with| .error e=>Except.error e| .ok l'=>mR x t r [] (k+1) l')=iB x t r (k+0) l b;cases iB x t r k l b <;> rfl
 | c::bs,b,k,l=>by
  show(match iB x t r k l c with| .error e=>Except.error e| .ok l'=>mR x t r (bs++[b]) (k+1) l')=match (match iB x t r k l c with| .error e=>Except.error e| .ok l'=>mR x t r bs (k+1) l')with| .error e=>Except.error e| .ok l'=>iB x t r (k+(bs.length+1)) l' b
  cases iB x t r k l c with
  | error e=>rfl
  | ok l'=>show mR x t r (bs++[b]) (k+1) l'=_;rw[rG bs b (k+1) l',show k+1+bs.length=k+(bs.length+1)by omega]
def Ah(m l:Lab):Bool:=m.ready == l.ready&&decide (m.since<=l.since)
theorem LN{m l:Lab}:Ah m l=true↔pY m l:=by grind[Ah,pY]
def Ab(out:List Lab)(e:Except Int Lab):List Lab:=match e with
 | .error _=>out
 | .ok l=>if out.any (Ah · l)=true then out else out++[l]
def CM(x:Instance)(t:VType)(r:Route)(ls:List Lab)(k:Nat):List Lab:=(ls.flatMap fun l=>(fM r.o5 k).map fun b=>iB x t r k l b).foldl Ab []
def dpL(x:Instance)(t:VType)(r:Route):Nat->List Lab
 | 0=>[iK t r]
 | k+1=>CM x t r (dpL x t r k) k
def D8:∀(es:List (Except Int Lab)) (out:List Lab),
  (∀l∈es.foldl Ab out,l∈out\/.ok l∈es)/\(∀l∈out,l∈es.foldl Ab out)/\(∀l,.ok l∈es->∃m∈es.foldl Ab out,pY m l)
 | [],out=>⟨fun l h=>.inl h,fun l h=>h,fun l h=>by cases h⟩
 | e::es,out=>by
  obtain⟨h1,F,I⟩:=D8 es (Ab out e);have E:∀l∈out,l∈Ab out e:=fun l A=>by
   unfold Ab
   grind
  refine⟨fun l A=>?_,fun l A=>F l (E l A),fun l A=>?_⟩
  ·rcases h1 l A with h|h
   ·unfold Ab at h
    grind
   grind
  grind[Ab,LN,pY.refl]
def L3(fixed bs:List Bool):Prop:=∀(i:Nat) (b:Bool),bs[i]?=some b->b∈fM fixed i
def Kn{fixed bs:List Bool}{b:Bool}:L3 fixed (bs++[b])↔L3 fixed bs/\b∈fM fixed bs.length:=by
 constructor
 ·intro h;refine⟨fun i c A=>h i c ?_,h bs.length b (by simp)⟩
  grind
 ·rintro⟨h1,F⟩ i c A;by_cases E:i<bs.length
  ·rw[List.getElem?_append_left E]at A;exact h1 i c A
  grind
structure RouteB(x:Instance)(t:VType)(r:Route):Prop where
 go:GoB x t
 stop:∀v∈r.y7,StopB (bM x v).1
 first:LabB (iK t r) 0
 short:r.y7.length<=1048575
def Qo{α:Type}{l:List α}{k:Nat}(h:l.length=k+1):∃m b,l=m++[b]/\m.length=k:=by
 have A:l≠[]:=by grind
 refine⟨l.dropLast,l.getLast A,(List.dropLast_concat_getLast A).symm,by simp[h]⟩
def auS{x:Instance}{t:VType}{r:Route}{k:Nat}(E:k<r.y7.length)(l:Lab)(b:Bool):∃v∈r.y7,iB x t r k l b=qB x t (jQ x t r k) (bM x v).1 k l b:=by obtain⟨v,A⟩:=aK E;exact⟨v,Xab A,by grind[iB]⟩
def P1{x:Instance}{t:VType}{r:Route}(A:RouteB x t r):∀(k:Nat) (bs:List Bool) (l:Lab),bs.length=k->k<=r.y7.length->mR x t r bs 0 (iK t r)=.ok l->LabB l k
 | 0,bs,l,hl,_,h=>by have:=List.eq_nil_of_length_eq_zero hl;subst this;injection h with h;subst h;exact A.first
 | k+1,bs,l,hl,hk,h=>by
  obtain⟨m,b,rfl,F⟩:=Qo hl;rw[rG]at h;cases E:mR x t r m 0 (iK t r)with
  | error e=>grind
  | ok l'=>rw[E]at h;have h:iB x t r (0+m.length) l' b=.ok l:=h;rw[F,Xby]at h;have J:=P1 A k m l' F (by omega) E;have O:=A.short;obtain⟨v,I,e⟩:=auS (x:=x) (t:=t) (r:=r) (k:=k) (by omega) l' b;rw[e]at h;exact awT (by omega) A.go (A.stop v I) J h
def Cq{x:Instance}{t:VType}{r:Route}:∀(k:Nat) (l:Lab),l∈dpL x t r k->∃bs,bs.length=k/\L3 r.o5 bs/\mR x t r bs 0 (iK t r)=.ok l
 | 0,l,h=>by have h:l∈[iK t r]:=h;simp at h;subst h;exact⟨[],rfl,fun i b E=>by simp at E,rfl⟩
 | k+1,l,h=>by
  have h:l∈CM x t r (dpL x t r k) k:=h;unfold CM at h;rcases(D8 _ []).1 l h with h|h
  ·cases h
  ·obtain⟨l',A,h⟩:=List.mem_flatMap.1 h;obtain⟨b,E,h⟩:=Xao.1 h;obtain⟨bs,h1,I,F⟩:=Cq k l' A;refine⟨bs++[b],by simp[h1],Kn.2 ⟨I,by rw[h1];exact E⟩,?_⟩;rw[rG,F];show iB x t r (0+bs.length) l' b=.ok l;rw[h1,Xby];exact h
def IG{x:Instance}{t:VType}{r:Route}(A:RouteB x t r):∀(k:Nat) (bs:List Bool) (m:Lab),bs.length=k->k<=r.y7.length+1->L3 r.o5 bs->mR x t r bs 0 (iK t r)=.ok m->∃l∈dpL x t r k,pY l m
 | 0,bs,m,hl,_,_,h=>by have:=List.eq_nil_of_length_eq_zero hl;subst this;injection h with h;subst h;exact⟨_,by show iK t r∈[iK t r];simp,pY.refl _⟩
 | k+1,bs,m,hl,hk,hc,h=>by
  obtain⟨cs,b,rfl,J⟩:=Qo hl;obtain⟨X,I⟩:=Kn.1 hc;rw[J]at I;rw[rG]at h;cases Y:mR x t r cs 0 (iK t r)with
  | error e=>grind
  | ok m'=>
   rw[Y]at h;have h:iB x t r (0+cs.length) m' b=.ok m:=h;rw[J,Xby]at h;obtain⟨l',E,F⟩:=IG A k cs m' J (by omega) X Y;have hs:=A.short;have bm:=P1 A k cs m' J (by omega) Y;obtain⟨ds,d1,d2,d3⟩:=Cq k l' E;have bl:=P1 A k ds l' d1 (by omega) d3;have step:∃l,iB x t r k l' b=.ok l/\pY l m:=by
    by_cases U:k<r.y7.length
    ·obtain⟨v,hv⟩:=aK U;have e:∀l,iB x t r k l b=qB x t (jQ x t r k) (bM x v).1 k l b:=fun l=>by grind[iB]
     rw[e]at h |-;exact Mh (by omega) A.go (A.stop v (Xab hv)) bl bm F h
    ·have e:∀l,iB x t r k l b=xW x t (jQ x t r k) k l b:=fun l=>by grind[iB]
     rw[e]at h |-;exact J8 (by omega) A.go bl bm F h
   obtain⟨l,Z,O⟩:=step;obtain⟨q,hq,T⟩:=(D8 ((dpL x t r k).flatMap fun l=>(fM r.o5 k).map fun b=>iB x t r k l b) []).2.2 l
    (List.mem_flatMap.2 ⟨l',E,Xao.2 ⟨b,I,Z⟩⟩)
   exact⟨q,hq,T.trans O⟩
theorem VY{x:Instance}{t:VType}{r:Route}(J:RouteB x t r):dpL x t r (r.y7.length+1)=[]↔∀bs,bs.length=r.y7.length+1->L3 r.o5 bs->∃e,mR x t r bs 0 (iK t r)=.error e:=by
 constructor
 ·intro h bs I F;cases E:mR x t r bs 0 (iK t r)with
  | error e=>simp
  | ok m=>
   obtain⟨l,A,_⟩:=IG J _ bs m I (Xae _) F E
   grind
 ·intro h;cases O:dpL x t r (r.y7.length+1)with
  | nil=>rfl
  | cons l ls=>
   obtain⟨bs,h1,U,T⟩:=Cq (r.y7.length+1) l (by rw[O];simp)
   grind
theorem JO{α:Type}(a c:List α)(b d:α):(a++b::c).set a.length d=a++d::c:=by simp
def VB{α:Type}(a c:List α)(b d:α):(a++b::c).getD a.length d=b:=by simp
theorem Tk{α:Type}(n:Nat)(a:α):List.replicate (n+1) a=List.replicate n a++[a]:=List.replicate_succ'
def Kb(n:Nat):∀(j m:Nat) (q:List Bool),n<=q.length->pS n (q.length+1+j) (q++false::(List.replicate j true++List.replicate m false))=(q++true::List.replicate (j+m) false,true)
 | 0,m,q,hq=>by simp_all[pS]
 | j+1,m,q,hq=>by
  have e:q++false::(List.replicate (j+1) true++List.replicate m false)=(q++false::List.replicate j true)++true::List.replicate m false:=by grind[Tk]
  have A:(q++false::List.replicate j true).length=q.length+1+j:=by grind
  rw[show q.length+1+(j+1)=(q++false::List.replicate j true).length+1 by omega,e];unfold pS;rw[if_pos (by omega),VB,if_pos rfl,JO,A];have ih:=Kb n j (m+1) q hq
  grind
def Kd(n:Nat):∀(j m:Nat) (p:List Bool),p.length=n->pS n (n+j) (p++(List.replicate j true++List.replicate m false))=([],false)
 | 0,m,p,hp=>by rw[Nat.add_zero];cases n<;>simp_all[pS,if_neg]
 | j+1,m,p,hp=>by
  have e:p++(List.replicate (j+1) true++List.replicate m false)=(p++List.replicate j true)++true::List.replicate m false:=by grind[Tk]
  have A:(p++List.replicate j true).length=n+j:=by grind
  rw[show n+(j+1)=(p++List.replicate j true).length+1 by omega,e];unfold pS;rw[if_pos (by omega),VB,if_pos rfl,JO,A];have ih:=Kd n j (m+1) p hp
  grind
def akY{n m:Nat}{q:List Bool}(A:n<=q.length):kT (q++false::List.replicate m true) n=(q++true::List.replicate m false,true):=by
 have h:=Kb n m 0 q A;simp only[List.replicate_zero,Xat,Nat.add_zero]at h
 grind[kT]
def aqC{n m:Nat}{p:List Bool}(A:p.length=n):kT (p++List.replicate m true) n=([],false):=by
 have h:=Kd n m 0 p A
 grind[kT]
def uL(p:List Bool):Nat->List (List Bool)
 | 0=>[p]
 | m+1=>uL (p++[false]) m++uL (p++[true]) m
theorem Gy:∀(m:Nat) (p c:List Bool),c∈uL p m↔c.length=p.length+m/\p <+: c
 | 0,p,c=>by
  show c∈[p]↔_;simp only[List.mem_cons,List.not_mem_nil,or_false];constructor
  ·grind
  ·rintro⟨h1,A⟩;exact(A.eq_of_length (by omega)).symm
 | m+1,p,c=>by
  show c∈uL (p++[false]) m++uL (p++[true]) m↔_;rw[List.mem_append,Gy m,Gy m];constructor
  ·rintro(⟨h1,A⟩|⟨h1,A⟩)
   ·exact⟨by simp at h1;omega,(List.prefix_append _ _).trans A⟩
   ·exact⟨by simp at h1;omega,(List.prefix_append _ _).trans A⟩
  ·rintro⟨h1,s,rfl⟩;cases s with
   | nil=>simp at h1
   | cons b s=>
    cases b
    ·exact .inl ⟨by simp at h1 |-;omega,⟨s,by simp⟩⟩
    ·exact .inr ⟨by simp at h1 |-;omega,⟨s,by simp⟩⟩
def Cc(x:Instance)(r:Route)(l:List (List Bool))(b:Sheet×Bool):Sheet×Bool:=l.foldl (fun b c=>jJ x r c b) b
def E4{x:Instance}{r:Route}{n:Nat}:∀(m:Nat) (p:List Bool) (b:Sheet×Bool),n<=p.length ->
  sG x r n (Bl (p++List.replicate m false,true)) (p++List.replicate m false,true) b=sG x r n (Bl (kT (p++List.replicate m true) n)) (kT (p++List.replicate m true) n) (Cc x r (uL p m) b)
 | 0,p,b,hp=>(Ck (x:=x) (r:=r) (m:=n) (c:=(p++List.replicate 0 false,true)) (b:=b) rfl).1.trans (by simp only[List.replicate_zero,Xat];rfl)
 | m+1,p,b,hp=>by have h1:=E4 (x:=x) (r:=r) (n:=n) m (p++[false]) b (by simp;omega);have A:=E4 (x:=x) (r:=r) (n:=n) m (p++[true]) (Cc x r (uL (p++[false]) m) b) (by simp;omega);rw[show p++[false]++List.replicate m false=p++List.replicate (m+1) false by simp[List.replicate_succ]]at h1;rw[show p++[false]++List.replicate m true=p++false::List.replicate m true by simp,akY hp]at h1;rw[show p++[true]++List.replicate m false=p++true::List.replicate m false by simp]at A;rw[show p++[true]++List.replicate m true=p++List.replicate (m+1) true by simp[List.replicate_succ]]at A;rw[h1,A];unfold Cc;rw[show uL p (m+1)=uL (p++[false]) m++uL (p++[true]) m from rfl,List.foldl_append]
def xT(r:Route):Nat:=r.y7.length+1-r.o5.length
def SF{x:Instance}{r:Route}(I:cC x r=true)(F:r.o5.length<=r.y7.length+1)(J:(fV x r (dE r)).2.2≠0->(fV x r (dE r)).1=bA):
  mI x r=Gi (Cc x r (uL r.o5 (xT r)) (bA,false)) (fV x r (dE r)).2.2:=by
 have e:mI x r=_:=if_neg (by grind);rw[e];have A:((fV x r (dE r)).1,(fV x r (dE r)).2.2 == 0)=jJ x r (dE r) (bA,false):=by
  unfold jJ
  grind
 rw[A];have E:=(Ck (x:=x) (r:=r) (m:=r.o5.length) (c:=(dE r,true)) (b:=(bA,false)) rfl).1;simp_all[E4,xT,dE,aqC,CJ]
def Zx{x:Instance}{r:Route}:∀(l:List (List Bool)) (b:Sheet×Bool),(Cc x r l b).2=(b.2||l.any fun c=>(fV x r c).2.2 == 0)
 | [],b=>by simp[Cc]
 | c::l,b=>by have ih:=Zx (x:=x) (r:=r) l (jJ x r c b);show(Cc x r l (jJ x r c b)).2=_;rw[ih];unfold jJ;simp only[List.any_cons];cases h:(fV x r c).2.2 == 0 <;> simp[];cases A:b.2 <;> simp[];split <;> simp[A]
def akV{x:Instance}{r:Route}(F:cC x r=true)(E:r.o5.length<=r.y7.length+1)(I:(fV x r (dE r)).2.2≠0->(fV x r (dE r)).1=bA):
  (mI x r).2=if(uL r.o5 (xT r)).any (fun c=>(fV x r c).2.2 == 0)=true then 0 else(fV x r (dE r)).2.2:=by
 rw[SF F E I];have A:=Zx (x:=x) (r:=r) (uL r.o5 (xT r)) (bA,false);simp only[Xbl]at A
 grind[Gi]
theorem vZ{p c:List Bool}(h:p.length<=c.length):L3 p c↔p <+: c:=by
 constructor
 ·intro E;refine List.prefix_iff_getElem?.2 fun i I=>?_
  have A:i<c.length:=by omega
  have F:=E i c[i] (List.getElem?_eq_getElem A);simp_all[fM]
 ·rintro⟨s,rfl⟩ i b F;unfold fM
  grind
theorem oL{r:Route}(A:r.o5.length<=r.y7.length+1):(dE r).length=r.y7.length+1:=by grind[dE]
def ayS{bs:List Bool}{n:Nat}(h:bs.length=n+1):∃b cs,bs=b::cs/\cs.length=n:=by cases bs<;>grind
theorem SU{x:Instance}{r:Route}{t:VType}{bs:List Bool}(A:cC x r=true)(J:x.types[r.type.toNat]?=some t)(F:bs.length=r.y7.length+1)
  (I:∀v∈r.y7,(bM x v).1.start<=(bM x v).1.close):
  match mR x t r bs 0 (iK t r)with
  | .error e=>(fV x r bs).1=bA/\(fV x r bs).2.2=e
  | .ok l=>(fV x r bs).1=l.x8/\(fV x r bs).2.2=0:=by
 obtain⟨b,cs,rfl,E⟩:=ayS F;have h:=aBz (b:=b) A J E I;have e:=aqJ (x:=x) (t:=t) (r:=r) (b::cs) 0 (iK t r) (by omega) (Xaa _);have e:Ib x t r.y7 (b::cs) t.src 0 (iK t r)=mR x t r (b::cs) 0 (iK t r):=e
 grind
theorem Nh{x:Instance}{t:VType}{p:Int}{s:Stop}{k:Nat}{l:Lab}{b:Bool}{e:Int}(h:qB x t p s k l b=.error e):e≠0:=by grind[qB]
theorem N9{x:Instance}{t:VType}{p:Int}{k:Nat}{l:Lab}{b:Bool}{e:Int}(h:xW x t p k l b=.error e):e≠0:=by grind[xW]
theorem Gq{x:Instance}{t:VType}{r:Route}:∀(bs:List Bool) (k:Nat) (l:Lab) (e:Int),mR x t r bs k l=.error e->e≠0
 | [],k,l,e,h=>by cases h
 | b::bs,k,l,e,h=>by
  unfold mR at h;cases A:iB x t r k l b with
  | error e'=>
   rw[A]at h;have h:(Except.error e':Except Int Lab)=.error e:=h;injection h with h;subst h;unfold iB at A;split at A
   ·exact Nh A
   ·exact N9 A
  | ok l'=>rw[A]at h;exact Gq bs (k+1) l' e h
def Ji(e:Except Int Lab):Int:=match e with| .error e=>e| .ok _=>0
def auF{x:Instance}{r:Route}{t:VType}(Y:RouteB x t r)(F:cC x r=true)(O:x.types[r.type.toNat]?=some t)(E:r.o5.length<=r.y7.length+1)
  (J:∀v∈r.y7,(bM x v).1.start<=(bM x v).1.close):
  (mI x r).2=match dpL x t r (r.y7.length+1)with
   | []=>Ji (mR x t r (dE r) 0 (iK t r))
   | _::_=>0:=by
 have h0:=SU (bs:=dE r) F O (oL E) J;have T:(fV x r (dE r)).2.2≠0->(fV x r (dE r)).1=bA:=by grind
 have U:(fV x r (dE r)).2.2=Ji (mR x t r (dE r) 0 (iK t r)):=by
  cases I:mR x t r (dE r) 0 (iK t r)with
  | error e=>rw[I]at h0;exact h0.2
  | ok l=>rw[I]at h0;exact h0.2
 rw[akV F E T,U];cases A:dpL x t r (r.y7.length+1)with
 | nil=>
  rw[if_neg]
  grind[Gy,VY,vZ,SU,fV,Gq]
 | cons l ls=>
  rw[if_pos];rw[Xaj];obtain⟨bs,h1,Z,X⟩:=Cq (r.y7.length+1) l (by rw[A];simp)
  grind[Gy,xT,vZ,SU]
end Sq
namespace Rx
open Go.Nu
open Sq (W gI yW AJ E6 jF gD fF dI NetOk)
structure Clk where
 ready:Int
 since:Int
structure Part where
 place:Int
 memory:Nat
 board:Nat
 y7:Nat
 load:List Int
 clocks:List Clk
 value:ByteArray
structure Wk where
 x:Instance
 kind:Nat
 t:VType
 near:List Int
 ψ:Option (List ByteArray)
 most:Nat
section
variable(w:Wk)
end
def arU(c d:Clk):Bool:=c.ready == d.ready&&decide (c.since<=d.since)
def aCl(n:Network)(t:VType)(place goal:Int)(s:List Clk×Int)(c:Clk):List Clk×Int:=
 if((gI n t.o6 place goal c.ready).2.2 == 0&&decide (W (W (c.since+(gI n t.o6 place goal c.ready).1)-c.ready)<=t.υ))=true
 then(s.1++[⟨(gI n t.o6 place goal c.ready).1,W (W (c.since+(gI n t.o6 place goal c.ready).1)-c.ready)⟩],(gI n t.o6 place goal c.ready).2.1)else s
def azM(t:VType)(c:Clk):Clk:=⟨W (c.ready+t.rest),0⟩
def drv2(n:Network)(t:VType)(place goal:Int)(s:List Clk×Int)(c:Clk):List Clk×Int:=aCl n t place goal (aCl n t place goal s c) (azM t c)
def amF(n:Network)(t:VType)(place goal:Int)(l:List Clk):List Clk×Int:=l.foldl (drv2 n t place goal) ([],0)
def oE(s:Stop)(a:Int):Int×Int:=if fX a s.start>s.close then(0,14)else(W (fX a s.start+s.ζ),0)
def srvC(s:Stop)(out:List Clk)(c:Clk):List Clk:=
 if((oE s c.ready).2 != 0)=true then out
 else if(out.any fun d=>arU d ⟨(oE s c.ready).1,c.since⟩)=true then out
 else(out.filter fun d=> !arU ⟨(oE s c.ready).1,c.since⟩ d)++[⟨(oE s c.ready).1,c.since⟩]
def Zd(s:Stop)(l:List Clk):List Clk:=l.foldl (srvC s) []
def memP(near:List Int)(m o:Nat):Nat:=(m &&& (near.getD o 0).toNat) ||| 2^o
def azN(a:Int)(kind:Nat):Int:=if(a != -1&&a != (kind:Int))=true then 1 else 0
def aBc(a:ByteArray)(n:Int):ByteArray:=(Az a (zed n)).1
def gA(x:Instance)(o:Nat):Order:=x.y5.getD o ⟨ByteArray.empty,[],⟨0,0,0,0⟩,⟨0,0,0,0⟩,0,0,0,0,0,false⟩
def aBX(a:ByteArray)(o:Nat):Option (List ByteArray)->ByteArray
 | none=>a
 | some l=>(subR a (l.getD o ByteArray.empty)).1
def PW(w:Wk)(p:Part)(o:Nat):Part×Bool:=
 if(dI (p.memory:Nat) (o:Nat)||dI (p.board:Nat) (o:Nat))=true then(p,false)
 else({ p with memory:=memP w.near p.memory o,value:=aBX (aBc p.value ((azN (gA w.x o).now w.kind*16+azN (gA w.x o).last w.kind)*65536)) o w.ψ },true)
def aBG(b o:Nat):Nat:=b ^^^ (b &&& 2^o)
def IE(o:Order):Bool:=decide (o.pick.place>=0)&&decide (o.drop.place>=0)
def axI(w:Wk)(p:Part)(o:Nat)(drop:Bool):Part×Bool:=
 if drop=false then
   ({ p with load:=AJ p.load (gA w.x o).load,board:=if IE (gA w.x o)=true then p.board ||| 2^o else p.board },jF (AJ p.load (gA w.x o).load) w.t.cap)
 else if IE (gA w.x o)=true then
   if dI (p.board:Nat) (o:Nat)=true then({ p with load:=E6 p.load (gA w.x o).load,board:=aBG p.board o },jF (E6 p.load (gA w.x o).load) w.t.cap)else(p,false)
 else(p,jF p.load w.t.cap)
def goP(w:Wk)(p:Part)(s:Stop):Part×Bool:=
 let d:=amF w.x.τ w.t p.place s.place p.clocks
 ({ p with clocks:=Zd s d.1,place:=s.place,y7:=p.y7+1,value:=aBc p.value (W (W (w.t.perMile*d.2)*16777216)) },decide ((Zd s d.1).length>0))
def Zg(w:Wk)(p:Part)(v:Visit):Part×Bool:=
 if(decide ((p.y7:Int)>=(w.most:Int))||(gA w.x v.order.toNat).off|| !yW w.t.l7 (gA w.x v.order.toNat).l7)=true then(p,false)
 else
   let s:=if(!v.drop||decide ((gA w.x v.order.toNat).pick.place<0))=true then PW w p v.order.toNat else(p,true)
   if s.2=true then
     let l:=axI w s.1 v.order.toNat v.drop
     if l.2=true then(if((fF w.x v).2 != 0)=true then(l.1,false)else goP w l.1 (fF w.x v).1)else(l.1,false)
   else(s.1,false)
def aCb(close:Int)(out:Int)(c:Clk):Int:=if(decide (c.ready<=close)&&(decide (out<0)||decide (c.ready<out)))=true then c.ready else out
def awQ(w:Wk)(p:Part):Int×Int×Bool:=
 if((p.y7:Int) == 0||(p.board:Int) != 0)=true then(0,0,false)
 else
   let d:=amF w.x.τ w.t p.place w.t.dst p.clocks
   (d.1.foldl (aCb w.t.close) (-1),d.2,decide (d.1.foldl (aCb w.t.close) (-1)>=0))
def alX(w:Wk)(e:Int):Int:=W (e-w.t.start)
def aCd(w:Wk)(e o7:Int):Int:=W (W (w.t.fixed+W (w.t.perMile*o7))+W (w.t.perTick*alX w e))
def azY(w:Wk)(p:Part)(e o7:Int):ByteArray:=
 aBc p.value (W (W (aCd w e o7*16777216)+W (W (Int.tdiv (alX w e) 64)*W (Int.tdiv (alX w e) 64))))
def ayH(x:Instance):List Visit:=(List.range x.y5.length).flatMap fun i=>if(gA x i).off=true then[]else gD x.y5 (i:Nat)
def aAh(w:Wk):Part:=⟨w.t.src,0,0,0,List.replicate w.t.cap.length 0,[⟨w.t.start,0⟩],dec 0⟩
end Rx
namespace Rx
open Go.Nu
open Sq (W gI yW AJ E6 jF gD fF dI NetOk)
open Nu (CY Es ltB geB)
end Rx
namespace Rx
open Go.Proofs.Tryz
open Go.Nu
open Sq (W gI yW AJ E6 jF gD fF dI NetOk vV nS mF rO)
open Mv (bS bU aS)
open Nu (CY Es ltB geB)
def anZ(s:Stop)(a:Int):PC prog 319 [.agg (eT s),int a] (.tup [int (oE s a).1,int (oE s a).2]):=by
 refine pcd func319 rfl rfl ?_;simp only[go_sem];refine aL (Sq.Zy s a) ?_;unfold oE;by_cases h:fX a s.start>s.close
 ·simp only[if_pos h];simp only[go_sem];apply aA <;> intro A
  ·simp only[go_sem];exact .refl _
  ·simp at A
 ·simp only[if_neg h];simp only[go_sem];apply aA <;> intro A
  ·simp at A
  ·simp only[go_sem];exact .refl _
end Rx
namespace Rx
open Go.Nu
open Sq (W gI yW AJ E6 jF gD fF dI NetOk)
open Nu (CY Es ltB geB)
theorem jN{x:Instance}{o:Nat}(h:o<x.y5.length):x.y5[o]?=some (gA x o):=by grind[gA]
def VK(n:Int): -9223372036854775808<=IntKind.i64.wrap n/\IntKind.i64.wrap n<=9223372036854775807:=by grind[Go.RowKit.wrap64,IntWalk.i64_left]
abbrev BJ(s:Stop):Row:=⟨58,4,[eT s]⟩
end Rx
namespace Rx
open Go.Nu
open Sq (W gI yW AJ E6 jF gD fF dI NetOk)
open Nu (CY Es ltB geB xJ)
open Mv (bS bU aS)
def aAf(x:Instance)(k:Nat):VType:=x.types.getD k ⟨ByteArray.empty,0,0,0,[],0,0,0,0,0,0,0,0,0⟩
def aCt(w:Wk)(p:Part)(n:Int):Int:=if(awQ w p).2.2=true then W (n+1)else n
def countP(w:Wk)(vs:List Visit):Nat->Part->Int->Int
 | 0,p,n=>aCt w p n
 | f+1,p,n=>vs.foldl (fun n v=>if n>8192 then n else if(Zg w p v).2=true then countP w vs f (Zg w p v).1 n else n) (aCt w p n)
end Rx
namespace Rx
open Go.Nu
open Sq (W gI yW AJ E6 jF gD fF dI NetOk vV nS mF rO)
open Nu (CY Es ltB geB xJ xA)
open Mv (bS bU aS)
section
variable{H:aM}{w:Wk}{jw jk jm jf:Nat}{known more fresh:List Part}
end
end Rx
namespace Rx
open Go.Nu Go.So
open Nu (ltB geB)
abbrev gV(l:List Int):Row:=⟨3,1,l.map aP⟩
def KX(x:Int):(aP x).length=1:=(rfl)
abbrev TB:=Int×Nat
def fs(L:List TB):List Int:=L.map Prod.fst
section
variable{gf:Nat}{cx:AV}{jc:Nat}{rc:Row}{cap':List AV}{lt:Int->Int->Bool}{ok:Int->Prop}
end
end Rx
namespace Rx
open Go.Nu Go.So
open Sq (W gD fF dI NetOk vV nS mF rO)
open Nu (ltB geB HI)
open Mv (bS bU aS)
end Rx
namespace Rx
open Go.Nu Go.So
open Sq (W gD fF dI NetOk)
open Nu (ltB geB)
open Mv (bS bU aS)
def mS(s i:Nat):Bool:=s/2^i%2 == 1
def Vh(o:Order):List Int:=(if decide (o.pick.place>=0)=true then[o.pick.place]else[])++(if decide (o.drop.place>=0)=true then[o.drop.place]else[])
def dA(near:List Int)(m o:Nat)(s i:Nat):Nat:=if(i == o||(mS m i&&mS (near.getD o 0).toNat i))=true then s+2^i else s
def d32A(p q:Int)(out:Int)(w:Arc):Int:=if((w.src == p&&w.dst == q)||(w.src == q&&w.dst == p))=true then aAg out w.o7 else out
def d32Q(o9:List Arc)(p:Int)(out q:Int):Int:=o9.foldl (d32A p q) (if(p == q)=true then 0 else out)
def d32P(o9:List Arc)(Q:List Int)(out p:Int):Int:=Q.foldl (d32Q o9 p) out
def amE(x:Instance)(a b:Nat):Int:=(Vh (gA x a)).foldl (d32P x.τ.o9 (Vh (gA x b))) 10001
def oF(x:Instance)(a set:Nat)(best:Int)(b:Nat):Int:=if(!mS set b&&(decide (best<0)||decide (amE x a b<amE x a best.toNat)))=true then(b:Int)else best
end Rx
namespace Rx
open Go.Nu Go.So
open Sq (W gD fF dI NetOk gI)
open Nu (ltB geB)
open Mv (bS bU aS)
structure Mom where
 time:Int
 ν:Int
structure RP where
 place:Int
 y7:Nat
 o7:Int
 moms:List Mom
 memory:Nat
 board:Nat
 load:List Int
 moved:Int
 other:Int
 ψ:ByteArray
structure Rs where
 x:Instance
 t:VType
 kind:Nat
 near:List Int
 ψ:List ByteArray
 most:Nat
 count:Int
 limited:Bool
 found:Bool
 least:ByteArray
section
variable(p:RP)
end
section
variable(w:Rs)
end
def aBR(t:VType)(m:Mom):Mom:=⟨W (m.time+t.rest),0⟩
def awX(t:VType)(l:List Mom):List Mom:=l.flatMap fun m=>[m,aBR t m]
def arrM(n:Network)(t:VType)(place goal close:Int)(s:List Mom×Int)(m:Mom):List Mom×Int:=
 (if(((gI n t.o6 place goal m.time).2.2 == 0&&decide ((gI n t.o6 place goal m.time).1<=close))&&decide (W (W (m.ν+(gI n t.o6 place goal m.time).1)-m.time)<=t.υ))=true
  then s.1++[⟨(gI n t.o6 place goal m.time).1,W (W (m.ν+(gI n t.o6 place goal m.time).1)-m.time)⟩]else s.1,(gI n t.o6 place goal m.time).2.1)
def MF(n:Network)(t:VType)(place goal close:Int)(l:List Mom):List Mom×Int:=l.foldl (arrM n t place goal close) ([],0)
end Rx
end Go.Proofs.YtkfhgjihlbilpaaGreatDoor
section
namespace Go.Aw
open Go.RowKit
section
variable{P:Program}{f:FuncId}{args:List AV}{H H1:aM}{K:AV->aM->Prop}{r:AV}
def MC(P:Program)(f:FuncId)(args:List AV)(H H1:aM)(r:AV):Prop:=∀K:AV->aM->Prop,K r H1->bQ P f args H K
def MC.use(h:MC P f args H H1 r)(A:K r H1):bQ P f args H K:=h K A
def bQ.dataM(J:∀k,H k=none->H1 k=none)(h:bQ P f args H (Rl H1 r))(F:K r H1):bQ P f args H K:=by
 intro S w vals O ha;refine(h S w vals O ha).mono fun e w' ⟨v,x,H',S',T,⟨I,l,hl,hc⟩,E,U,X,hn⟩=>?_
 obtain⟨h1,Y,h3⟩:=E.frz l;refine⟨v,r,H1,S'.froze _,T,F,h1.drop (fun k row Z=>?_),hc.rep h3 U,X.trans Y,fun k _ h0=>J k h0⟩;have A:¬k∈l:=fun A=>by grind
 show(if k∈l then none else H' k)=some row;rw[if_neg A];exact I k row Z
def MC.body{fn:Func}{c:Code}(mt:Nat->Bool)(J:∀k,H k=none->H1 k=none)(I:P.follows .mixedOrders=true)(A:P.funcs[f]?=some fn)(O:fn.body=some c)(F:El fn c args.length=true)
 (h:awp P (bQ P) (eN P) mt c (MH P fn.results.toList (Rl H1 r)) (Ho args) H):MC P f args H H1 r:=fun K E=>bQ.dataM J (bQ.body mt I A O F h) E
theorem U4{H:aM}{j:Nat}{a:Row}(h:H j=some a):aI H j (some a)=H:=funext fun k=>by grind[aB,aF]
theorem afA(H:aM)(j:Nat)(a b:Option Row):aI (aI H j a) j b=aI H j b:=funext fun k=>by grind[aB,aF]
def Sup.set{H H':aM}(h:Sup H H')(j:Nat)(a:Option Row):Sup (aI H j a) (aI H' j a):=fun k row A=>by
 by_cases e:k=j
 ·grind[aB]
 ·rw[aF _ _ _ _ e]at A |-;exact h k row A
def Sup.set2{H H':aM}{j:Nat}{b:Option Row}(h:Sup (aI H j b) H')(a:Option Row):Sup (aI H j a) (aI H' j a):=by
 have:=Sup.set h j a
 grind[afA]
def WK{H:aM}{j:Nat}{a:Option Row}{b:Row}(h:H j=some b):∀k,H k=none->aI H j a k=none:=fun k A=>by grind[aF]
def oU{P:Program}{C:nP}{PC:FuncId->List AV->aM->AV->Prop}{mt:Nat->Bool}{ops:List Oper}{K:Env->aM->Prop}{m:Nat}{ρ:Env}{H:aM}(l:List Nat)(t:Mx)(J:Env->aM->Prop)(I:∀k,k∈l->(H k).isSome=true)(O:Ix ops.toArray t=true)
 (h:∀K':Env->aM->Prop,(∀A H',J A H'->K' A H')->∀Hp E:aM,(∀k,k∈l->Hp k=H k)->(∀k,k∉l->E k=H k)->(∀k,k∉l->Hp k=none)->(∀k,k∈l->E k=none)->mL P C PC mt ops.toArray (tK l H K') Hp t ρ E)
 (F:∀A H',J A H'->K A H'):wS P C PC mt ops.toArray K m ρ H:=uB l t I O (h K F)
end
end Go.Aw
namespace Go.Proofs.YtkfhgjihlbilpaaGreatDoor.Rx
open Go.Aw Go.Aw.D Go.Proofs Ty Go.Nu Go.So
open Sq (W gD fF dI NetOk gI)
open Nu (ltB geB B9 kR)
open Mv (bS bU aS)
def Eb(s:Rs)(v:ByteArray):Rs:=
 if(!s.found||decide (zX v s.least<0))=true then { s with count:=W (s.count+1),found:=true,least:=v }else { s with count:=W (s.count+1) }
end Go.Proofs.YtkfhgjihlbilpaaGreatDoor.Rx
end
namespace Go.Proofs.YtkfhgjihlbilpaaGreatDoor
namespace Sq
open Go.Proofs.Tryz
open Go.Aw Go.Aw.D Go.Proofs Ty
open Go.Proofs.YtkfhgjihlbilpaaGreatDoor.Nu (ltB geB)
open Mv (bS bU aS)
def CE(M:List Nat)(q:Pair):List Nat:=
 if(((decide (q.a<0)||decide (q.b<0))||decide (q.a>=(M.length:Int)))||decide (q.b>=(M.length:Int)))=true then M
 else M.set q.b.toNat (M.getD q.b.toNat 0 ||| M.getD q.a.toNat 0 ||| 2^q.a.toNat)
def E0(l:List Pair)(M:List Nat):List Nat:=l.foldl CE M
def Tr(l:List Pair):Nat->List Nat->List Nat
 | 0,M=>M
 | f+1,M=>if E0 l M=M then M else Tr l f (E0 l M)
def vX(n:Nat)(l:List Pair):List Nat:=Tr l (MZ (List.replicate n 0)+1) (List.replicate n 0)
theorem alH{α:Type}{M:List α}{i:Nat}{u:α}(h:M[i]?=some u):M.set i u=M:=by grind[List.set_getElem_self]
def aoR{M:List Nat}{i u:Nat}(h:M[i]?=some u):M.getD i 0=u:=by grind
def Wy(l:List Pair):∀(f:Nat) (M:List Nat),(Tr l f M).length=M.length:=by
 have h1:∀(l:List Pair) (M:List Nat),(l.foldl CE M).length=M.length:=fun l=>by induction l<;>grind[CE]
 intro f;induction f with
 | zero=>exact fun M=>rfl
 | succ f ih=>
  intro M;unfold Tr;split
  ·rfl
  ·exact(ih _).trans (h1 l M)
def Jd(n:Nat)(l:List Pair):(vX n l).length=n:=(Wy l _ _).trans List.length_replicate
def anG(n:Nat)(l:List Pair)(hn:n<=60)(hl:l.length<=1048576):PC prog 263 [int (n:Nat),.sl (l.map dN)] (.sl ((vX n l).map fun n:Nat=>[int (n:Nat)])):=by
 refine pcd func263 rfl rfl ?_;simp only[go_sem];have ap:fX (n:Int) 0=(n:Nat):=by rfl
 rw[ap];refine⟨by omega,?_⟩;rw[Xal];generalize hR:vX n l=RR;refine eJ fun j aj aw (R:aj j=some ((⟨3,1,List.replicate n [int 0]⟩:Row))) N=>?_
 simp only[go_sem];have R:aj j=some (J4 (List.replicate n 0)):=by simp_all
 refine⟨fun ρ H=>∃(j:Nat) (L:List Nat) (b:Bool),ρ 1=.sl (l.map dN)/\ρ 5=.os j/\ρ 6=boo b/\H j=some (J4 L)/\L.length=n/\(∀a∈L,a<2^62)/\(b=true->∃f,MZ L<f/\Tr l f L=RR)/\(b=false->L=RR),fun ρ H=>awB (ρ 5) (ρ 6) H,⟨j,_,true,rfl,rfl,rfl,R,List.length_replicate,fun a ha=>by grind,fun _=>⟨_,Nat.lt_succ_self _,hR⟩,fun h=>(by cases h)⟩,?_⟩;rintro ρ H ⟨j,L,b,e1,F,e6,R,hL,hB,hT,hF⟩;simp only[go_sem,F,e6];refine aA (fun hb=>?_) (fun hb=>?_)
 case refine_2=>simp only[go_sem,F];rw[<-hF hb];exact .row _ _ _ R (ConvE.refl _)
 have hb:b=true:=hb;subst hb;obtain⟨f,av,X⟩:=hT rfl;obtain⟨f,rfl⟩:∃f',f=f'+1:=⟨f-1,by omega⟩;have X:(if E0 l L=L then L else Tr l f (E0 l L))=RR:=X;simp only[go_sem,e1,Xac];rw[akN R];refine⟨fun ρ H=>∃(k:Nat) (j:Nat) (M:List Nat) (b:Bool),k<=l.length/\ρ 1=.sl (l.map dN)/\ρ 5=.os j/\ρ 6=boo b/\ρ 16=.sl (l.map dN)/\ρ 17=int l.length/\ρ 18=int (k:Nat)/\H j=some (J4 M)/\M.length=n/\(∀a∈M,a<2^62)/\MZ M<=MZ L/\(b=true->MZ M<MZ L)/\(b=false->M=L)/\M=(l.take k).foldl CE L,fun ρ _=>l.length-aT (ρ 18),⟨0,j,L,false,Xaa _,e1,F,rfl,rfl,rfl,by rfl,R,hL,hB,Xae _,(fun h=>(by cases h)),fun _=>rfl,rfl⟩,?_⟩;rintro ρ H ⟨k,j,M,b,hk,e1,F,e6,T,U,I,R,hL,hB,am,Z,O,ac⟩;simp only[go_sem,U,I];refine aA (fun E=>?_) (fun ai=>?_)
 case refine_2=>
  have ai:=geB hk (by omega);simp only[go_sem,e1,F,e6];rw[Xai (by omega)]at ac;refine⟨⟨j,M,b,rfl,rfl,R,hL,hB,fun hb=>⟨f,by grind,?_⟩,fun hb=>?_⟩,?_⟩
  ·have an:E0 l L≠L:=fun e=>by grind[E0]
   rw[if_neg an]at X;rw[ac];exact X
  ·simp_all[E0]
  cases b<;>grind[akN,aAJ]
 have E:=ltB (by omega);obtain⟨q,hq⟩:=aK E;have b1:=inB E;have af:=nL (f:=CE) (b:=L) hq;rw[<-ac]at af;simp only[go_sem,T,I,aC hq,b1];refine aH fun i8 ah=>?_
 simp only[go_sem,];refine bW ah (by simp[oN]) fun J (R8:J i8=some (⟨148,2,[dN q]⟩)) N=>?_
 replace R:=N R;obtain⟨ak,R⟩:=R;simp only[go_sem,];refine gS [i8] [(0,true),(1,true),(2,true),(3,true),(4,true),(5,true)] (by grind) (by kernel_rfl) fun Hp Hr hp hr _ aq=>?_
 have al:=(hp i8 (by simp)).trans R8;simp only[go_sem,al];refine⟨by decide,by decide,qY hr ?_⟩;simp only[go_sem,F,R,Xac];refine aA (fun hc=>?_) (fun hc=>?_)
 ·simp only[go_sem,e1,F,e6,T,U,I,aQ k];exact⟨⟨k+1,j,M,b,E,rfl,rfl,rfl,R,hL,hB,am,Z,O,by simp_all[CE]⟩,by grind[aJ]⟩
 have aa:CE M q=M.set q.b.toNat (M.getD q.b.toNat 0 ||| M.getD q.a.toNat 0 ||| 2^q.a.toNat):=by simp_all[CE,if_neg]
 simp only[Xam,decide_eq_false_iff_not]at hc;obtain⟨⟨⟨c1,c2⟩,c3⟩,c4⟩:=hc;obtain⟨A,hA⟩:=Int.eq_ofNat_of_zero_le (show 0<=q.a by omega);obtain⟨B,ab⟩:=Int.eq_ofNat_of_zero_le (show 0<=q.b by omega);rw[hA]at c3;rw[ab]at c4;have ae:A<M.length:=by omega
 have Y:B<M.length:=by omega
 obtain⟨u,hu⟩:=aK Y;obtain⟨w,hw⟩:=aK ae;rw[hA,ab,Xal,Xal,aoR hu,aoR hw]at aa;rw[aa]at af;have g1:=aC (f:=fun n:Nat=>[int (n:Nat)]) hu;have g2:=aC (f:=fun n:Nat=>[int (n:Nat)]) hw;have d1:=inB Y;have d2:=inB ae;have bu:=hB u (Xab hu);have bw:=hB w (Xab hw);have b2:2^A<2^62:=Xcd (by decide) (by omega);have o1:u ||| w<2^62:=Nat.or_lt_two_pow bu bw;have o2:u ||| w ||| 2^A<2^62:=Nat.or_lt_two_pow o1 b2;have v1:vY .or .i64 (u:Int) (w:Int)=((u ||| w:Nat):Int):=Km (by omega) (by omega);have v2:vY .or .i64 ((u ||| w:Nat):Int) ((2^A:Nat):Int)=((u ||| w ||| 2^A:Nat):Int):=Km (by omega) (by omega);have v3:shV .shl .i64 1 (A:Int)=((2^A:Nat):Int):=GO (by omega);have ai:u<=u ||| w ||| 2^A:=Xaf Nat.left_le_or Nat.left_le_or;simp only[go_sem,];refine gS [j] [(0,true),(1,true),(2,true),(3,true),(4,true),(5,true),(6,true),(7,true),(8,true),(9,true),(10,true),(11,true),(12,true)] (by simp[R]) (by kernel_rfl) fun Hp Hr hp hr _ aq=>?_
 have ao:=(hp j (by simp)).trans R;simp only[go_sem,F,hA,ab,g1,g2,d1,d2,Xac,v1,v2,v3,ao];refine⟨Y,ae,?_⟩;refine qY hr ?_;simp only[go_sem,F,R,g1,d1,Xac,];refine⟨Y,aA (fun hd=>?_) (fun hd=>?_)⟩
 ·have hd:u<u ||| w ||| 2^A:=by grind
  simp only[go_sem,F,R,d1,Xac];generalize au:u ||| w ||| 2^A=v at *;refine bP so3 R (by grind) ?_;have ag:(M.map fun n:Nat=>[int (n:Nat)]).set B (qF ((M.map fun n:Nat=>[int (n:Nat)]).getD B []) 0 [int (v:Nat)])=(M.set B v).map fun n:Nat=>[int (n:Nat)]:=by rw[g1,List.map_set];rfl
  have R3:aI J j (some (⟨3,1,(M.map fun n:Nat=>[int (n:Nat)]).set B (qF ((M.map fun n:Nat=>[int (n:Nat)]).getD B []) 0 [int (v:Nat)])⟩:Row)) j=some (J4 (M.set B v)):=by rw[aB,ag]
  generalize aI J j _=H3 at R3 |-;have ar:=SI hu hd (Nat.le_of_lt o2);simp only[go_sem,e1,F,T,U,I,aQ k];exact⟨⟨k+1,j,M.set B v,true,E,rfl,rfl,rfl,R3,by grind,fun a ha=>by grind,by omega,(fun _=>by omega),(fun h=>by cases h),af.symm⟩,by grind[aJ]⟩
 ·simp only[go_sem,e1,F,e6,T,U,I,aQ k];have ax:u ||| w ||| 2^A=u:=by grind
  exact⟨⟨k+1,j,M,b,E,rfl,rfl,rfl,R,hL,hB,am,Z,O,by grind[alH]⟩,by grind[aJ]⟩
def RU(x:Instance)(i:Int):Bool:=match x.y5[i.toNat]? with|some o=>o.off|none=>false
def Aj(x:Instance)(set:Int):Int:=
 if set<0 then 2
 else if((dA set).any fun a=>decide (a>=(x.y5.length:Int)))=true then 2
 else if((dA set).any (RU x))=true then 9
 else if(x.apart.any fun q=>dI set q.a&&dI set q.b)=true then 20
 else if(x.before.any fun q=>dI set q.b&& !dI set q.a)=true then 21
 else if((dA set).any fun a=>dI (((vX x.y5.length x.before).getD a.toNat 0:Nat):Int) a)=true then 21
 else 0
def F9{α:Type}{p:α->Bool}{l:List α}{k:Nat}{a:α}(h:l[k]?=some a)(A:p a=true):l.any p=true:=Xaj.2 ⟨a,Xab h,A⟩
def Dd{α:Type}{p:α->Bool}{l:List α}(h:∀a∈l,p a=false):l.any p=false:=Xba.2 fun a A=>by grind
def G7(x:Instance)(set:Int)(hx:x.y5.length<=60)(ha:x.apart.length<=1048576)(hb:x.before.length<=1048576):PC prog 204 [.agg (aD x),int set] (int (Aj x set)):=by
 refine pcd func204 rfl rfl ?_;simp only[go_sem];have J:Aj x set=(if set<0 then 2
  else if((dA set).any fun a=>decide (a>=(x.y5.length:Int)))=true then 2
  else if((dA set).any (RU x))=true then 9
  else if(x.apart.any fun q=>dI set q.a&&dI set q.b)=true then 20
  else if(x.before.any fun q=>dI set q.b&& !dI set q.a)=true then 21
  else if((dA set).any fun a=>dI (((vX x.y5.length x.before).getD a.toNat 0:Nat):Int) a)=true then 21
  else 0):=rfl
 generalize Aj x set=RP at *;apply aA <;> intro O
 ·rw[if_pos (of_decide_eq_true O)]at J;simp only[go_sem];rw[J];exact .refl _
 rw[if_neg (of_decide_eq_false O)]at J;simp only[go_sem];refine aL (mN set) ?_;have a5:=alU set;have aw:=fun a=>@arK set a
 generalize dA set=S at *;simp only[go_sem,Xac];refine⟨fun ρ H=>∃(k:Nat),k<=S.length/\ρ 1=int set/\ρ 2=.rp (aD x) 0/\ρ 5=.sl (S.map aP)/\ρ 21=.sl (S.map aP)/\ρ 22=int (S.length:Nat)/\ρ 23=int k/\(∀a∈S.take k,a<(x.y5.length:Int)),fun ρ _=>S.length-aT (ρ 23),⟨0,Xaa _,rfl,rfl,rfl,rfl,rfl,(by rfl),by simp⟩,?_⟩;rintro ρ H ⟨k,hk,U,T,X,ay,a0,ae,hz⟩;simp only[go_sem,a0,ae];refine aA (fun E=>?_) (fun I=>?_)
 ·have E:=ltB (by omega);obtain⟨a,F⟩:=aK E;have b1:=inB E;simp only[go_sem,T,ay,ae,aC F,b1,Xac];apply aA <;> intro O
  ·rw[if_pos (F9 F O)]at J;simp only[go_sem];rw[J];exact .refl _
  ·have O:¬a>=(x.y5.length:Int):=of_decide_eq_false O;simp only[go_sem,U,T,X,ay,a0,ae,aQ k];exact⟨⟨k+1,E,rfl,aS (p:=fun a:Int=>a<(x.y5.length:Int)) F (by omega) hz⟩,msr E⟩
 have I:=geB hk (by omega);subst I;rw[Xad]at hz;rw[if_neg (by grind)]at J;simp only[go_sem,X,Xac];refine⟨fun ρ H=>∃(k:Nat),k<=S.length/\ρ 1=int set/\ρ 2=.rp (aD x) 0/\ρ 5=.sl (S.map aP)/\ρ 33=.sl (S.map aP)/\ρ 34=int (S.length:Nat)/\ρ 35=int k/\(∀a∈S.take k,RU x a=false),fun ρ _=>S.length-aT (ρ 35),⟨0,Xaa _,by simp only[go_sem,U,],by simp only[go_sem,T,],by simp only[go_sem,X,],by rfl,by rfl,(by rfl),by simp⟩,?_⟩;rintro ρ H ⟨k,hk,U,T,X,an,am,aj,hy⟩;simp only[go_sem,am,aj];refine aA (fun E=>?_) (fun I=>?_)
 ·have E:=ltB (by omega);obtain⟨a,F⟩:=aK E;have b1:=inB E;obtain⟨A,rfl⟩:=aw a (Xab F);have hA:=hz _ (Xab F);have Z:A<x.y5.length:=by omega
  obtain⟨o,ho⟩:=aK Z;have b2:=inB Z;have ab:RU x (A:Int)=o.off:=by grind[RU]
  simp only[go_sem,T,an,aj,aC F,b1,aC ho,b2];apply aA <;> intro O
  ·rw[if_pos (F9 (p:=RU x) F (ab.trans O))]at J;simp only[go_sem];rw[J];exact .refl _
  ·simp only[go_sem,U,T,X,an,am,aj,aQ k];exact⟨⟨k+1,E,rfl,aS (p:=fun a=>RU x a=false) F (ab.trans O) hy⟩,msr E⟩
 have I:=geB hk (by omega);subst I;rw[Xad]at hy;rw[if_neg (by grind)]at J;simp only[go_sem,T,Xac];refine⟨fun ρ H=>∃(k:Nat),k<=x.apart.length/\ρ 1=int set/\ρ 2=.rp (aD x) 0/\ρ 5=.sl (S.map aP)/\ρ 47=.sl (x.apart.map dN)/\ρ 48=int (x.apart.length:Nat)/\ρ 49=int k/\(∀q∈x.apart.take k,(dI set q.a&&dI set q.b)=false),fun ρ _=>x.apart.length-aT (ρ 49),⟨0,Xaa _,by simp only[go_sem,U,],by simp only[go_sem,T,],by simp only[go_sem,X,],by rfl,by rfl,(by rfl),by simp⟩,?_⟩;rintro ρ H ⟨k,hk,U,T,X,ao,au,ac,hv⟩;simp only[go_sem,au,ac];refine aA (fun E=>?_) (fun I=>?_)
 ·have E:=ltB (by omega);obtain⟨q,hq⟩:=aK E;have b1:=inB E;simp only[go_sem,ao,ac,aC hq,b1];refine aH fun i11 aa=>?_
  simp only[go_sem];refine bW aa (by simp[oN]) fun ah (ax:ah i11=some (⟨148,2,[dN q]⟩)) N=>?_
  clear N aa;simp only[go_sem,U,ax];refine⟨by decide,PC.use (Ai set q.a) ?_⟩;simp only[go_sem,U,ax];refine⟨fun _=>by decide,_,fun _=>(Ai set q.b).q rfl,?_⟩;simp only[go_sem];apply aA <;> intro O
  ·rw[if_pos (F9 (p:=fun q:Pair=>dI set q.a&&dI set q.b) hq O)]at J;simp only[go_sem];rw[J];exact .refl _
  ·simp only[go_sem,U,T,X,ao,au,ac,aQ k];exact⟨⟨k+1,E,rfl,aS (p:=fun q:Pair=>(dI set q.a&&dI set q.b)=false) hq O hv⟩,msr E⟩
 have I:=geB hk (by omega);subst I;rw[Xad]at hv;rw[if_neg (by grind)]at J;simp only[go_sem,T,Xac];refine⟨fun ρ H=>∃(k:Nat),k<=x.before.length/\ρ 1=int set/\ρ 2=.rp (aD x) 0/\ρ 5=.sl (S.map aP)/\ρ 65=.sl (x.before.map dN)/\ρ 66=int (x.before.length:Nat)/\ρ 67=int k/\(∀q∈x.before.take k,(dI set q.b&& !dI set q.a)=false),fun ρ _=>x.before.length-aT (ρ 67),⟨0,Xaa _,by simp only[go_sem,U,],by simp only[go_sem,T,],by simp only[go_sem,X,],by rfl,by rfl,(by rfl),by simp⟩,?_⟩;rintro ρ H ⟨k,hk,U,T,X,ap,ak,af,hw⟩;simp only[go_sem,ak,af];refine aA (fun E=>?_) (fun I=>?_)
 ·have E:=ltB (by omega);obtain⟨q,hq⟩:=aK E;have b1:=inB E;simp only[go_sem,ap,af,aC hq,b1];refine aH fun a4 Y=>?_
  simp only[go_sem];refine bW Y (by simp[oN]) fun ai (az:ai a4=some (⟨148,2,[dN q]⟩)) N=>?_
  clear N Y;simp only[go_sem,U,az];refine⟨by decide,PC.use (Ai set q.b) ?_⟩;simp only[go_sem,U,az];refine⟨fun _=>by decide,_,fun _=>(Ai set q.a).q rfl,?_⟩;simp only[go_sem];apply aA <;> intro O
  ·rw[if_pos (F9 (p:=fun q:Pair=>dI set q.b&& !dI set q.a) hq O)]at J;simp only[go_sem];rw[J];exact .refl _
  ·simp only[go_sem,U,T,X,ap,ak,af,aQ k];exact⟨⟨k+1,E,rfl,aS (p:=fun q:Pair=>(dI set q.b&& !dI set q.a)=false) hq O hw⟩,msr E⟩
 have I:=geB hk (by omega);subst I;rw[Xad]at hw;rw[if_neg (by grind)]at J;simp only[go_sem,T,Xac];have hL:=Jd x.y5.length x.before;refine aL (anG x.y5.length x.before hx hb) ?_;generalize vX x.y5.length x.before=CH at *;simp only[go_sem,X,Xac];refine⟨fun ρ H=>∃(k:Nat),k<=S.length/\ρ 14=.sl (CH.map fun n:Nat=>[int (n:Nat)])/\ρ 89=.sl (S.map aP)/\ρ 90=int (S.length:Nat)/\ρ 91=int k/\(∀a∈S.take k,dI ((CH.getD a.toNat 0:Nat):Int) a=false),fun ρ _=>S.length-aT (ρ 91),⟨0,Xaa _,by rfl,by rfl,by rfl,(by rfl),by simp⟩,?_⟩;rintro ρ H ⟨k,hk,al,aq,av,ag,hu⟩;simp only[go_sem,av,ag];refine aA (fun E=>?_) (fun I=>?_)
 ·have E:=ltB (by omega);obtain⟨a,F⟩:=aK E;have b1:=inB E;obtain⟨A,rfl⟩:=aw a (Xab F);have hA:=hz _ (Xab F);have Z:A<CH.length:=by omega
  obtain⟨o,ho⟩:=aK Z;have b2:=inB Z;have ar:dI ((CH.getD ((A:Int)).toNat 0:Nat):Int) (A:Int)=dI (o:Nat) (A:Nat):=by grind
  have g1:=aC (f:=fun n:Nat=>[int (n:Nat)]) ho;simp only[go_sem,al,aq,ag,aC F,b1,g1,b2];refine aL (Ai (o:Nat) (A:Nat)) ?_;simp only[go_sem];apply aA <;> intro O
  ·rw[if_pos (F9 (p:=fun a=>dI ((CH.getD a.toNat 0:Nat):Int) a) F (ar.trans O))]at J;simp only[go_sem];rw[J];exact .refl _
  ·simp only[go_sem,al,aq,av,ag,aQ k];exact⟨⟨k+1,E,rfl,aS (p:=fun a=>dI ((CH.getD a.toNat 0:Nat):Int) a=false) F (ar.trans O) hu⟩,msr E⟩
 have I:=geB hk (by omega);subst I;rw[Xad]at hu;rw[if_neg (by grind)]at J;simp only[go_sem];rw[J];exact .refl _
end Sq
namespace Nu.Ps
open Go.Aw Go.Aw.D Go.Proofs Ty Go.Nu Go.So
structure Priced where
 column:Column
 reduced:ByteArray
abbrev Ef(gf:Nat):AV:=.v (.func (.func gf) #[] #[])
abbrev TB:=Priced×Nat
def fs(L:List TB):List Priced:=L.map Prod.fst
end Nu.Ps
namespace Nu.Ps
open Go.Aw Go.Aw.D Go.Proofs Ty Go.Nu Go.So
section
variable{gf:Nat}{lt:Priced->Priced->Bool}{ok:Priced->Prop}
end
end Nu.Ps
namespace Nu.Ps
open Go.Aw Go.Aw.D Go.Proofs Ty Go.Nu Go.So
section
variable{gf:Nat}{lt:Priced->Priced->Bool}{ok:Priced->Prop}
end
end Nu.Ps
namespace Nu.Ps
open Go.Aw Go.Aw.D Go.Proofs Go.Nu Go.So
end Nu.Ps
namespace Ve
open Go.Proofs.Tryz
open Go.Aw Go.Aw.D Go.Proofs Ty Go.Ve Dec
open Go.Proofs.YtkfhgjihlbilpaaGreatDoor.Nu
abbrev Zh(l:List Int):Row:=⟨3,1,l.map aP⟩
abbrev zT(l:List TNode):Bool:=oC TNode.leaf TNode.yes TNode.no l
abbrev FJ(l:List TNode)(k:Int):Nat:=cnt TNode.leaf TNode.yes TNode.no l k
abbrev aCo(a:TNode):List Int:=sN TNode.leaf TNode.yes TNode.no a
abbrev BIn(l:List TNode)(V q:List Nat):Prop:=BInv TNode.leaf TNode.yes TNode.no TNode.π Cm l V q
abbrev aeZ(l:List TNode)(k:Nat)(d:List Decision):Prop:=WayT TNode.leaf TNode.yes TNode.no TNode.π Cm l k d
def Dq(l:List TNode):Prop:=1<=l.length/\l.length<=1024/\zT l=true/\uY TNode.leaf TNode.yes TNode.no l=true/\∀k,k<l.length->∃d,aeZ l k d
def lV(n:Nat)(l:List TNode):List Int:=(List.range n).map fun i:Nat=>(FJ l (i:Int):Int)
def Cp(L:List Int)(v:Int):List Int:=L.set v.toNat (L.getD v.toNat 0+1)
theorem DY(n:Nat)(l:List TNode):(lV n l).length=n:=by simp[lV]
theorem UT(l:List TNode)(a:TNode)(k:Int):FJ (l++[a]) k=FJ l k+(aCo a).count k:=by simp[cnt]
theorem WO{n:Nat}{l:List TNode}{a:TNode}(h:a.leaf=true):lV n (l++[a])=lV n l:=by grind[lV,UT,sN]
theorem RN{n:Nat}{l:List TNode}{a:TNode}(h:a.leaf=false)(F:inT n a.yes=true)(I:inT n a.no=true):lV n (l++[a])=Cp (Cp (lV n l) a.yes) a.no:=by
 simp only[inT,Xak,decide_eq_true_eq]at F I;obtain⟨y,A⟩:=Int.eq_ofNat_of_zero_le F.1;obtain⟨m,E⟩:=Int.eq_ofNat_of_zero_le I.1;unfold Cp;rw[A,E];refine List.ext_getElem? fun i=>?_
 have J:(lV n l).length=n:=DY n l;simp only[Xal];by_cases U:i<n
 ·have O:(lV n (l++[a]))[i]?=some (FJ (l++[a]) (i:Int):Int):=by grind[lV]
  have T:(lV n l)[i]?=some (FJ l (i:Int):Int):=by grind[lV]
  have X:(lV n l)[y]?=some (FJ l (y:Int):Int):=by grind[lV]
  have Y:(lV n l)[m]?=some (FJ l (m:Int):Int):=by grind[lV]
  rw[O,UT];simp only[sN,h,Xbe,if_false,A,E,List.count_cons,List.count_nil,List.getD,List.getElem?_set,List.length_set,J]
  grind
 grind[DY]
def afC{l:List TNode}{k:Nat}{a:TNode}(F:l[k]?=some a)(E:a.leaf=false)(h:inT l.length a.yes=false\/inT l.length a.no=false):¬Dq l:=fun A=>by
 have:=A.2.2.1;unfold zT oC at this
 grind
theorem atV{n:Nat}{v:Int}(h:(decide (v<0)||decide (v>=(n:Int)))=true):inT n v=false:=by
 simp only[Bool.or_eq_true,decide_eq_true_eq]at h
 grind[inT]
def aAN{n:Nat}{v:Int}(h:(decide (v<0)||decide (v>=(n:Int)))=false):inT n v=true:=by simp_all[inT]
theorem anX{l:List TNode}(k:Int):FJ l k<=2*l.length:=by
 induction l with
 | nil=>simp[cnt]
 | cons a r ih=>unfold FJ cnt at ih |-;rw[List.flatMap_cons,List.count_append,Xag];have:(sN TNode.leaf TNode.yes TNode.no a).count k<=2:=Xaf List.count_le_length (by grind[sN]);omega
def okN(l:List TNode)(a:TNode):Bool:=a.leaf||(inT l.length a.yes&&inT l.length a.no)
def adX{H:aM}{j:Nat}(l:List TNode):aI H j (some ⟨3,1,List.replicate l.length [int 0]⟩) j=some (Zh (lV l.length (l.take 0))):=by
 rw[aB];have:lV l.length (l.take 0)=List.replicate l.length 0:=by simp[lV,List.eq_replicate_iff,cnt]
 simp_all[aP]
def aeI(L:List Int)(v:Int):(Cp L v).length=L.length:=List.length_set
def aiF{L:List Int}{v:Int}{B:Nat}(h:∀u∈L,0<=u/\u<=(B:Nat)):∀u∈Cp L v,0<=u/\u<=((B+1:Nat):Int):=fun u A=>by grind[Cp,List.getElem_mem]
def Pn(n:Nat)(l:List TNode):∀u∈lV n l,0<=u/\u<=((2*l.length:Nat):Int):=fun u A=>by grind[lV,anX]
def Oa(e:TypeId×Nat×Nat)(d:Option Tmp)(j a b:Nat)(x:AV)(ρ:Env)(H:aM)(K:Env->aM->Prop):Prop:=match H j with
 | some r => zV H x fun news => (r.e = e.1 /\ r.sz = e.2.1 /\ news ≠ [] /\ cT e.2.1 news /\ b = r.es.length /\ (r.es.length + news.length) * e.2.2 <= 140737488355328) /\
       ∀(k':Nat) (pre:List (List AV)),pre.length<=a->H k'=none->K (upd ρ d (.oz k' pre.length (pre.length+(b-a)+news.length))) (aI (aI H j none) k' (some ⟨e.1,e.2.1,pre++(r.es.drop a++news)⟩))
 | none=>False
def acD{P:Program}{d:Option Tmp}{t:TypeId}{j a b:Nat}{x:AV}{ρ:Env}{H:aM}{K:Env->aM->Prop}:Kp P d t (.oz j a b) x ρ H K=cA (cK P t) (fun e=>Oa e d j a b x ρ H K):=by
 unfold Kp vU Oa;cases cK P t with
 | none=>rfl
 | some e=>rfl
@[congr] theorem wappZ_c {e d j a b x x' ρ H K} (h':x=x'):Oa e d j a b x ρ H K=Oa e d j a b x' ρ H K:=h'▸rfl
def JP{e:TypeId×Nat×Nat}{d:Option Tmp}{j a b:Nat}{news:List (List AV)}{ρ:Env}{H:aM}{K:Env->aM->Prop}{r:Row}(E:H j=some r)
  (h1:r.e=e.1/\r.sz=e.2.1) (h0:news≠[]) (I:cT e.2.1 news) (J:b=r.es.length) (F:(r.es.length+news.length)*e.2.2<=140737488355328)
  (h:∀(j':Nat) (A:List (List AV)),A.length<=a->H j'=none->K (upd ρ d (.oz j' A.length (A.length+(b-a)+news.length))) (aI (aI H j none) j' (some ⟨e.1,e.2.1,A++(r.es.drop a++news)⟩))):Oa e d j a b (.sl news) ρ H K:=by
 unfold Oa;simp only[E];exact⟨⟨h1.1,h1.2,h0,I,J,F⟩,h⟩
attribute [go_sem ↓] acD
attribute [go_sem] acD
def asX(x:AV)(H:aM):Nat:=match x with
 | .oz _ a b=>b-a
 | .os j=>match H j with
   | some r=>r.es.length
   | none=>0
 | _=>0
def Gk{l:List TNode}(A:zT l=true){k:Nat}{a:TNode}(F:l[k]?=some a)(E:a.leaf=false):∃y n:Nat,a.yes=(y:Int)/\a.no=(n:Int):=by unfold zT oC at A;rw[Xap]at A;have:=A a (Xab F);simp only[E,Xbl,Xak,inT,decide_eq_true_eq]at this;exact⟨a.yes.toNat,a.no.toNat,by omega,by omega⟩
def qE(q:List Nat):List (List AV):=q.map fun i:Nat=>[int (i:Nat)]
theorem sF(q:List Nat):(qE q).length=q.length:=by simp[qE]
def asQ(l:List TNode)(b:Bool)(hb:b=true↔Dq l)(hl:l.length<=1048576):PC prog 28 [.sl (l.map bY)] (boo b):=by
 refine pcb (fun t=>t == 78) func28 rfl rfl ?_;simp only[go_sem];apply aA <;> intro h0
 ·simp only[go_sem];have:b=false:=by
   cases b
   ·rfl
   ·have:=hb.1 rfl;have h1:=this.1;have h2:=this.2.1
    grind
  subst this;exact .refl _
 have a5:1<=l.length:=by grind
 have ay:l.length<=1024:=by grind
 simp only[go_sem];refine⟨by omega,aH fun j hj=>?_⟩;simp only[go_sem];refine⟨fun ρ H=>∃(k:Nat) (j:Nat),k<=l.length/\ρ 0=.sl (l.map bY)/\ρ 24=.sl (l.map bY)/\ρ 25=int (l.length:Nat)/\ρ 26=int k/\ρ 3=.os j/\H j=some (Zh (lV l.length (l.take k)))/\(∀a∈l.take k,okN l a=true),fun ρ _=>l.length-aT (ρ 26),⟨0,j,Xaa _,by rfl,by rfl,by rfl,(by rfl),by rfl,adX l,by simp⟩,?_⟩;rintro ρ H ⟨k,j,hk,I,Y,ac,U,e3,R,hz⟩;simp only[go_sem,ac,U];refine aA (fun F=>?_) (fun ai=>?_)
 ·have F:=ltB (by omega);obtain⟨a,Z⟩:=aK F;have b1:=inB F;have hs:=aY Z;simp only[go_sem,Y,U,aC Z,b1];refine aH fun i5 an=>?_
  simp only[go_sem,];refine bW an (by simp[lO]) fun a6 (R5:a6 i5=some (⟨37,10,[bY a]⟩)) N=>?_
  replace R:=(N R).2;clear N an;simp only[go_sem,R5];apply aA <;> intro hf
  ·simp only[go_sem,I,Y,ac,U,e3,aQ k];refine⟨⟨k+1,j,F,rfl,rfl,?_,aS Z (by grind[okN]) hz⟩,msr F⟩
   grind[WO]
  ·simp only[go_sem,R5];have am:=Pn l.length (l.take k);rw[show(l.take k).length=k by grind]at am;have bf:=DY l.length (l.take k);have bh:inT l.length a.yes=true->inT l.length a.no=true->lV l.length (l.take (k+1))=Cp (Cp (lV l.length (l.take k)) a.yes) a.no:=fun h1 h2=>by grind[RN]
   generalize lV l.length (l.take k)=C at *;refine⟨fun ρ H=>∃(m:Nat) (L:List Int),m<=2/\ρ 0=.sl (l.map bY)/\ρ 3=.os j/\ρ 24=.sl (l.map bY)/\ρ 25=int l.length/\ρ 26=int k/\ρ 36=.agg [int a.yes,int a.no]/\ρ 37=int m/\H j=some (Zh L)/\L=([a.yes,a.no].take m).foldl Cp C/\(∀u∈L,0<=u/\u<=(2*k+m:Nat))/\L.length=l.length/\∀v∈[a.yes,a.no].take m,inT l.length v=true,fun ρ _=>2-aT (ρ 37),⟨0,C,by omega,by simp only[go_sem,I,],by simp only[go_sem,e3],by simp only[go_sem,Y,],by simp only[go_sem,ac,],by simp only[go_sem,U],by rfl,(by rfl),R,rfl,am,bf,by simp⟩,?_⟩;clear I Y ac U e3 R R5;rintro ρ H ⟨m,L,hm,I,e3,Y,ac,U,az,au,R,hL,hB,bg,hv⟩;simp only[go_sem,au];refine aA (fun bj=>?_) (fun bp=>?_)
   ·have a0:m<2:=by grind
    obtain⟨v,hvm,hvi⟩:∃v,[a.yes,a.no][m]?=some v/\(v=a.yes\/v=a.no):=by grind
    have bd:[int a.yes,int a.no].getD m .any=int v:=by grind
    have bm:=aY hvm;simp only[go_sem,I,az,au,Nat.mul_one,bd];refine⟨by omega,by omega,aA (fun ao=>?_) (fun ao=>?_)⟩
    ·simp only[go_sem];have a9:¬Dq l:=afC Z hf (by grind[atV]);have:b=false:=by grind
     subst this;exact .refl _
    ·have br:=aAN ao;simp only[Xam,decide_eq_false_iff_not]at ao;obtain⟨u,hu⟩:=aK (show v.toNat<L.length by omega);have bi:=hB u (Xab hu);simp only[go_sem,e3,R,aC hu,Xac];refine⟨⟨by omega,by omega⟩,by omega,⟨by omega,by omega⟩,?_⟩;refine bP so3 R (by grind) ?_;simp only[go_sem,I,e3,Y,ac,U,az,au,aQ m];rw[aW (by omega)];refine⟨⟨m+1,Cp L v,by omega,rfl,?_,?_,aiF (B:=2*k+m) hB,by rw[aeI,bg],?_⟩,by simp only[aJ];omega⟩
     all_goals grind[Cp,List.map_set,aP]
   ·have a0:m=2:=by grind
    subst a0;have hy:=hv a.yes (by simp);have hn:=hv a.no (by simp);simp only[go_sem,I,e3,Y,ac,U,aQ k];refine⟨⟨k+1,j,F,rfl,rfl,?_,aS Z (by grind[okN]) hz⟩,msr F⟩
    grind
 have ai:=geB hk (by omega);subst ai;rw[Xad]at R hz;have A:zT l=true:=by unfold zT oC;rw[Xap];exact hz
 have am:=Pn l.length l;have ar:=DY l.length l;have a4:∀i u,(lV l.length l)[i]?=some u->i<l.length/\u=(FJ l (i:Int):Int):=fun i u hu=>by grind[lV]
 generalize lV l.length l=C at *;simp only[go_sem,e3,R];refine⟨fun ρ H=>∃(k:Nat),k<=l.length/\ρ 0=.sl (l.map bY)/\ρ 56=.os j/\ρ 57=int (l.length:Nat)/\ρ 58=int k/\H j=some (Zh C)/\(∀i,i<k->(if i=0 then FJ l 0 == 0 else FJ l i == 1)=true),fun ρ _=>l.length-aT (ρ 58),⟨0,Xaa _,by simp only[go_sem,I,ar],by rfl,by simp only[go_sem,ar],(by rfl),R,(fun i hi=>absurd hi (Nat.not_lt_zero i))⟩,?_⟩;rintro ρ H ⟨k,hk,I,aw,av,al,R,hq⟩;simp only[go_sem,av,al];refine aA (fun F=>?_) (fun ai=>?_)
 ·have F:=ltB (by omega);obtain⟨c,hc⟩:=aK (show k<C.length by omega);have b1:=inB (show k<C.length by omega);obtain⟨_,bo⟩:=a4 k c hc;have bn:=anX (l:=l) (k:Int);simp only[go_sem,aw,al,R,aC hc,b1,Xac];have bt:(if k=0 then FJ l 0 == 0 else FJ l k == 1)= !((k:Int) == 0&&c != 0||decide ((k:Int)>0)&&c != 1):=by simp_all;grind
  refine⟨by omega,aA (fun a9=>?_) (fun bk=>?_)⟩
  ·simp only[go_sem];have:b=false:=by
    cases b
    ·rfl
    ·have:=(hb.1 rfl).2.2.2.1
     grind[uY]
   subst this;exact .refl _
  ·simp only[go_sem,I,aw,av,al,aQ k];refine⟨⟨k+1,F,rfl,R,fun i hi=>?_⟩,msr F⟩
   grind
 have ai:=geB hk (by omega);subst ai;have ae:uY TNode.leaf TNode.yes TNode.no l=true:=by grind[uY]
 have bb:l≠[]:=by grind
 clear hq R am ar a4;simp only[go_sem,];refine aH fun i11 a8=>?_
 simp only[go_sem,];refine⟨fun ρ H=>∃(V q:List Nat) (j:Nat) (O:List (List AV)),BIn l V q/\ρ 0=.sl (l.map bY)/\ρ 10=int ((V++q).length:Nat)/\((ρ 11=.os j/\O=[])\/ρ 11=.oz j O.length (O.length+q.length))/\O.length<=V.length/\H j=some ⟨3,1,O++qE q⟩,fun ρ H=>l.length+asX (ρ 11) H-aT (ρ 10),⟨[],[0],i11,[],BInv.start bb,by simp only[go_sem,I,],(by rfl),.inl ⟨by rfl,rfl⟩,Xaa _,aB _ _ _⟩,?_⟩;clear I aw av al a8;rintro ρ H ⟨V,q,j,O,hB,I,X,T,bq,R⟩;have aj:=hB.len;rw[Xar]at aj;have R0:=R;rcases T with⟨T,rfl⟩|T
 ·rw[Xbi]at R R0;simp only[go_sem,X,T,R,sF];refine aA (fun aq=>?_) (fun be=>?_)
  ·cases q with
   | nil=>simp at aq
   | cons k q=>
    have ag:=hB.lt k (by simp);obtain⟨a,Z⟩:=aK ag;have b1:=inB ag;simp only[Xag]at aj;simp only[go_sem,I,T,R,qE,Xav,Xag,List.getD_cons_zero,aC Z,b1];refine⟨by omega,by omega,?_⟩;refine aH fun ap E=>?_
    simp only[go_sem,];refine bW E (by simp[lO]) fun aa (ak:aa ap=some (⟨37,10,[bY a]⟩)) N=>?_
    replace R:=N R;obtain⟨af,R⟩:=R;clear N E;simp only[go_sem,T,ak,R];refine⟨by grind[sF],aA (fun hf=>?_) (fun hf=>?_)⟩
    ·have J:a.leaf=false:=by grind
     obtain⟨y,n,hy,hn⟩:=Gk A Z J;simp only[go_sem,ak];refine JP R ⟨rfl,rfl⟩ (by simp) ⟨rfl,rfl,trivial⟩ (by rfl) (by grind[sF]) (fun j' ah bc ba=>?_);simp only[go_sem,I,X];rw[aW (by grind)];refine⟨⟨V++[k],q++[y,n],j',ah,hB.innerStep ae A Z J hy hn,?_,.inr ?_,?_,?_⟩,?_⟩
     ·grind
     ·grind[sF]
     all_goals grind[aB,qE,asX,aT]
    ·have J:a.leaf=true:=by grind
     simp only[go_sem,I,X];refine⟨⟨V++[k],q,j,[[int (k:Nat)]],hB.leafStep Z J,?_,.inr ?_,?_,?_⟩,?_⟩
     ·simp
     ·grind[sF]
     all_goals grind[qE,asX,aT]
  ·have ax:q=[]:=by simp_all
   subst ax;have ab:=hB.full;simp only[go_sem,I,X];refine bU ?_;refine Xaz.2 (Iff.trans ?_ hb.symm);simp only[Xau,Int.ofNat_inj];rw[ab];exact⟨fun h=>⟨a5,ay,A,ae,h⟩,fun h=>h.2.2.2.2⟩
 ·simp only[go_sem,X,T,Nat.add_sub_cancel_left];refine aA (fun aq=>?_) (fun be=>?_)
  ·cases q with
   | nil=>simp at aq
   | cons k q=>
    have ag:=hB.lt k (by simp);obtain⟨a,Z⟩:=aK ag;have b1:=inB ag;simp only[Xag]at aj;have a7:(O++qE (k::q)).getD O.length []=[int (k:Nat)]:=by simp[qE]
    simp only[go_sem,I,T,R,Xar,sF,Xag,Nat.add_sub_cancel_left,Nat.add_zero,a7,aC Z,b1];refine⟨by omega,by omega,?_⟩;refine aH fun ap E=>?_
    simp only[go_sem,];refine bW E (by simp[lO]) fun aa (ak:aa ap=some (⟨37,10,[bY a]⟩)) N=>?_
    replace R:=N R;obtain⟨af,R⟩:=R;clear N E;simp only[go_sem,T,ak,R];simp only[Nat.add_sub_cancel_left];refine⟨by omega,aA (fun hf=>?_) (fun hf=>?_)⟩
    ·have J:a.leaf=false:=by grind
     obtain⟨y,n,hy,hn⟩:=Gk A Z J;simp only[go_sem,ak];refine JP R ⟨rfl,rfl⟩ (by simp) ⟨rfl,rfl,trivial⟩ (by simp[sF]) (by grind[sF]) (fun j' ah bc ba=>?_);simp only[go_sem,I,X];rw[aW (by grind)];refine⟨⟨V++[k],q++[y,n],j',ah,hB.innerStep ae A Z J hy hn,?_,.inr ?_,?_,?_⟩,?_⟩
     ·grind
     ·grind
     ·grind
     ·simp_all[aB,qE]
     grind[asX,aT]
    ·have J:a.leaf=true:=by grind
     simp only[go_sem,I,X];refine⟨⟨V++[k],q,j,O++[[int (k:Nat)]],hB.leafStep Z J,?_,.inr ?_,?_,?_⟩,?_⟩
     ·grind
     ·grind
     all_goals grind[qE,asX,aT]
  ·have ax:q=[]:=by simp_all
   subst ax;have ab:=hB.full;simp only[go_sem,I,X];refine bU ?_;refine Xaz.2 (Iff.trans ?_ hb.symm);simp only[Xau,Int.ofNat_inj];rw[ab];exact⟨fun h=>⟨a5,ay,A,ae,h⟩,fun h=>h.2.2.2.2⟩
end Ve
end Go.Proofs.YtkfhgjihlbilpaaGreatDoor
section
namespace Go.Aw
open Go.RowKit
def QQ(r:Row):Bool:=r.es.flatten.all fun x=>(fv x).isSome
def Oe{S E:Sg}{w I:World}:∀(l:List AV) (xs:List Value),(l.all fun x=>(fv x).isSome)=true->bR S w l xs->bR E I l xs
 | [],_,_,h=>h
 | x::r,xs,hf,h=>by simp only[List.all_cons,Bool.and_eq_true]at hf;simp only[bR]at h |-;obtain⟨u,t,rfl,h1,F⟩:=h;obtain⟨v,A⟩:=Option.isSome_iff_exists.1 hf.1;have:=PB A h1;subst this;exact⟨u,t,rfl,YZ A h1,Oe r t hf.2 F⟩
def NC.lent{P:Program}{f:FuncId}{args args':List AV}{H:aM}{K:AV->aM->Prop}{row:Row}(hc:ConvL H args args')(h:NC P f args' row .os)(hf:QQ row=true)(hK:∀k,H k=none->K (.os k) (aI H k (some row))):bQ P f args H K:=by
 intro S w vals E ha
 let S0:Sg:={ S.froze H with fz:=fun k=>k<w.heap.size }
 have ae:(S.froze H).le S0:=⟨fun _ h=>h,Nat.le_refl _,fun _ _=>rfl,fun _ _=>rfl⟩;have ao:St S0 w bN:=⟨fun k X=>by
  rcases X with X|⟨j,r,A,T⟩
  ·exact E.l9 k (E.ι k X)
  ·exact(E.rows j r A).block_lt T,fun _ h=>h,fun k r X=>by grind[bN],fun k r X=>by grind[bN],fun k k' r r' X=>by grind[bN],(E.tabs.keep (S.le_froze H) (iT.refl S w)).keep ae (iT.refl _ w)⟩
 refine(h S0 w vals ao (fun _ h=>h) (fQ ae (iT.refl _ w) _ _ (hc.rep E ha))).mono fun e w' ⟨v,x,H',S',he,⟨k,hx,X⟩,aj,hv,T,hn⟩=>?_
 subst hx;have ap:S.N<=k:=by
  rcases Nat.lt_or_ge k S.N with ai|an
  ·rw[hn k ai rfl]at X;cases X
  omega
 have af:H k=none:=by
  cases hH:H k with
  | none=>rfl
  | some r=>have:=(E.rows k r hH).lt;omega
 have hR:=aj.rows k row X;have am:=hv;simp only[rep]at am;obtain⟨_,rfl,a0,n0,c0,ak⟩:=am;obtain⟨xs,ho,hr,h1⟩:=hR.sl ak
 let S'':Sg:={ S with N:=S'.N,loc:=S'.loc,sz:=S'.sz }
 have Y:S.le S'':=⟨fun _ h=>h,T.le.N,T.le.loc,T.le.sz⟩;have O:∀k,k<w.heap.size->w'.heap[k]?=w.heap[k]?:=T.same;have Z:iT S w w':=fun j A=>O j (E.l9 j (E.ι j A))
 have ag:∀g,blk (S'.loc k)=some g->w.heap.size<=g:=fun g J=>by
  rcases Nat.lt_or_ge g w.heap.size with ai|an
  ·exact absurd (T.fz g ai) (aj.free k row X g J)
  omega
 have I:∀j r,j≠k->aI H k (some row) j=some r->H j=some r:=fun j r A h=>by grind[aF]
 have ac:∀j r,H j=some r->S'.loc j=S.loc j:=fun j r A=>T.le.loc j (E.rows j r A).lt
 refine⟨_,.os k,aI H k (some row),S'',he,hK k af,⟨E.ι,fun j A=>Nat.lt_of_lt_of_le (E.l9 j A) T.size,?_,?_,?_,E.tabs.keep Y Z⟩,?_,⟨Y,fun _ h=>h,T.os,T.tape,T.output,T.size,fun j A=>O j (E.l9 j A),fun _ h=>.inl h⟩,fun j A h0=>?_⟩
 ·intro j r A;by_cases e:j=k
  ·subst e;rw[aB]at A;injection A with A;subst A;exact⟨hR.lt,hR.sz,hR.pos,hR.len,.inl ⟨xs,ho,Oe _ _ hf hr,h1⟩⟩
  ·have F:=I j r e A;exact(E.rows j r F).keep Y Z fun g J=>O g ((E.rows j r F).block_lt J)
 ·intro j r A g J;by_cases e:j=k
  ·subst e;intro h2;have:=ag g J;have:=E.l9 g h2;omega
  ·have F:=I j r e A;have e2:S''.loc j=S.loc j:=ac j r F;rw[e2]at J;exact E.free j r F g J
 ·intro j j' r r' A F al g ab U;by_cases e:j=k
  ·subst e;have aa:=I j' r' (Ne.symm al) F;have e2:S''.loc j'=S.loc j':=ac j' r' aa;rw[e2]at U;have:=ag g ab;have:=(E.rows j' r' aa).block_lt U;omega
  ·have ah:=I j r e A;have e1:S''.loc j=S.loc j:=ac j r ah;rw[e1]at ab;by_cases e':j'=k
   ·subst e';have:=ag g U;have:=(E.rows j r ah).block_lt ab;omega
   ·have aa:=I j' r' e' F;have e2:S''.loc j'=S.loc j':=ac j' r' aa;rw[e2]at U;exact E.disj j j' r r' ah aa al g ab U
 all_goals grind[rep,aF]
def afN(p:Nat->Prop)(h:∃m,p m):∃m,p m/\∀A,p A->m<=A:=by obtain⟨m,E⟩:=h;induction m using Nat.strongRecOn<;>grind
def XY{W:(Ex->Env->aM->Prop)->Env->aM->Prop}{Q:Ex->Env->aM->Prop}{ρ:Env}{H:aM}(J:Nat->Env->aM->Prop)(m:Nat)(h0:J m ρ H)
  (h:∀m ρ H,J m ρ H->∀K:Env->aM->Prop,(∀F A H',F<m->J F A H'->K A H')->W (Ex.seq K Q) ρ H):SK W Q ρ H:=by
 classical
 let μ:Env->aM->Nat:=fun ρ H=>if h:∃m,J m ρ H then(afN _ h).choose else 0
 have E:∀ρ H m,J m ρ H->J (μ ρ H) ρ H/\μ ρ H<=m:=fun ρ H m Y=>by
  have hx:∃m,J m ρ H:=⟨m,Y⟩
  grind
 refine⟨fun ρ H=>∃m,J m ρ H,μ,⟨m,h0⟩,fun A H' ⟨F,T⟩=>?_⟩;exact h _ A H' (E A H' F T).1 _ fun U O Z I X=>⟨⟨U,X⟩,Nat.lt_of_le_of_lt (E O Z U X).2 I⟩
end Go.Aw
end
namespace Go.Proofs.YtkfhgjihlbilpaaGreatDoor
open Go.Aw Go.Aw.D Go.Proofs Ty
namespace Ve
open Go.Proofs.Tryz
open Go.Ve Dec
open Go.Proofs.YtkfhgjihlbilpaaGreatDoor.Nu
theorem uE:∀l:List Decision,cT 4 (l.map aO)
 | []=>trivial
 | _::r=>⟨rfl,uE r⟩
abbrev gX(l:List Decision):Row:=⟨35,4,l.map aO⟩
def Gm(l:List Decision)(I:l.length<=1048576):NC prog 77 [.sl (l.map aO)] (gX l) .os:=by
 refine ncb (fun t=>t == 2||t == 5) func77 rfl rfl ?_;simp only[go_sem];refine aH fun j O=>?_
 have R:=aB bN j (some (gX []));generalize aI bN j _=H at R |-;simp only[go_sem];refine⟨fun J=>?_,?_⟩
 ·refine aA (fun _=>?_) (fun A=>by simp at A);simp only[go_sem];refine aH fun i E=>?_
  simp only[go_sem]
  grind[aB]
 ·refine aA (fun A=>by simp at A) (fun _=>?_);simp only[go_sem];refine aH fun i E=>?_
  simp only[go_sem];refine aU (aB _ _ _) ⟨rfl,rfl⟩ (uE _) (by grind) (fun j' F=>?_);simp only[go_sem]
  grind[aB]
structure PathsOf(l:List TNode)(D:List (List Decision)):Prop where
 len:D.length=l.length
 way:∀k d,D[k]?=some d->aeZ l k d
 short:∀d∈D,d.length<l.length
def Hd(d:List Decision):List AV:=[.sl (d.map aO)]
def aaX{l:List TNode}(A:zT l=true){k:Nat}{a:TNode}(F:l[k]?=some a)(E:a.leaf=false):(0<=a.yes/\a.yes<(l.length:Int))/\(0<=a.no/\a.no<(l.length:Int)):=by
 unfold zT oC at A
 grind[inT]
def B8(H:aM)(x:AV)(d:List Decision):Prop:=x=.sl (d.map aO)\/∃i,x=.os i/\H i=some (gX d)
abbrev E7(E:List AV):Row:=⟨31,1,E.map fun x=>[x]⟩
def uZ(D:List (List Decision))(S:List Nat)(H:aM)(E:List AV):Prop:=∀k∈S,∀d,D[k]?=some d->∃x,E[k]?=some x/\B8 H x d
def B8.keep{H H':aM}{x:AV}{d:List Decision}(h:B8 H x d)(E:∀i d,H i=some (gX d)->H' i=some (gX d)):B8 H' x d:=by
 rcases h with h|⟨i,h1,A⟩
 ·exact .inl h
 ·exact .inr ⟨i,h1,E i d A⟩
def wM{H:aM}{i j:Nat}{d:List Decision}{r:Row}(h:H i=some (gX d))(E:H j=some r)(A:r.e≠35):i≠j:=fun e=>by grind
def uZ.keep{D:List (List Decision)}{S:List Nat}{H H':aM}{E:List AV}(h:uZ D S H E)(U:Sup H H'):uZ D S H' E:=fun k I d J=>by obtain⟨x,h1,F⟩:=h k I d J;exact⟨x,h1,F.keep fun i d A=>U i _ A⟩
def uZ.keepD{D:List (List Decision)}{S:List Nat}{H H':aM}{E:List AV}(h:uZ D S H E)(U:∀i d,H i=some (gX d)->H' i=some (gX d)):uZ D S H' E:=fun k F d I=>by obtain⟨x,h1,A⟩:=h k F d I;exact⟨x,h1,A.keep U⟩
def B8.conv{H:aM}{x:AV}{d:List Decision}(h:B8 H x d):ConvL H [x] [.sl (d.map aO)]:=by
 rcases h with rfl|⟨i,rfl,A⟩
 ·exact ConvL.refl _
 ·exact .cons _ _ _ _ (.row _ _ _ A (ConvE.refl _)) .nil
def Rh{E:List AV}{i y:Nat}{x:AV}(h:i=y):({ E7 E with es:=(E.map fun x=>[x]).set i (x::List.drop 1 ((E.map fun x=>[x]).getD i [])) }:Row)=E7 (E.set y x):=by simp_all;grind
def ayG{F:aM}{J E A:Nat}{O I r2:Row}(X:F J=some O)(U:F E=none)(T:aI F E (some I) A=none):
 aI (aI (aI F E (some I)) E none) A (some r2) J=some O/\aI (aI (aI F E (some I)) E none) A (some r2) A=some r2/\A≠J/\∀i r,F i=some r->aI (aI (aI F E (some I)) E none) A (some r2) i=some r:=by grind[aI]
def auI{H T O I:aM}{J F A:Nat}{E r2:Row}(hr:∀k,k∉[J]->T k=H k)(Y:∀i r,T i=some r->O i=some r)(X:O A=some r2)(U:A≠F)(Z:F≠J)
 (h0:∀k,k∈[J]->aI O F (some E) k=none) (h1:∀k,k∈[J]->I k=H k) (h2:∀k,k∉[J]->I k=aI O F (some E) k):
 I F=some E/\I A=some r2/\∀i r,H i=some r->i≠F->I i=some r:=by grind[aF,aB]
def Fu(d:List Decision):QQ (gX d)=true:=by unfold QQ;rw[Xap];intro x A;obtain⟨l,E,A⟩:=List.mem_flatten.1 A;obtain⟨a,_,rfl⟩:=Xao.1 E;unfold aO at A;simp only[List.mem_cons,List.not_mem_nil,or_false]at A;rcases A with rfl|rfl|rfl|rfl <;> rfl
def Re{H:aM}:∀{E:List AV} {D:List (List Decision)} {n:Nat},E.length=n->D.length=n->(∀(k:Nat) (d:List Decision),D[k]?=some d->∃x,E[k]?=some x/\B8 H x d)->ConvE H (E.map fun x=>[x]) (D.map Hd)
 | [],[],_,_,_,_=>.nil
 | [],d::D,_,h1,h2,_=>by grind
 | x::E,[],_,h1,h2,_=>by grind
 | x::E,d::D,n,h1,h2,h=>by simp at h1 h2;obtain⟨I,A,F⟩:=h 0 d rfl;simp at A;subst A;exact .cons _ _ _ _ (B8.conv F) (Re (n:=n-1) (by omega) (by omega) fun k d J=>by simpa using h (k+1) d (by grind))
def uZ.two{l:List TNode}{D:List (List Decision)}(J:PathsOf l D)(Z:zT l=true)(hc:uY TNode.leaf TNode.yes TNode.no l=true){V q:List Nat}{k y n:Nat}{a:TNode}(ha:l[k]?=some a)(Y:a.leaf=false)(hy:a.yes=(y:Int))(hn:a.no=(n:Int))
  {H:aM} {E:List AV} {F:List Decision} (A:D[k]?=some F) (hF:uZ D (V++k::q) H E) (ab:y≠n) (ac:y<E.length) (aa:n<E.length) {I O:Nat} (h1:H I=some (gX (F++[a.π]))) (h2:H O=some (gX (F++[Cm a.π]))):
  uZ D (V++[k]++(q++[y,n])) H ((E.set y (.os I)).set n (.os O)):=fun m hm d U=>by
 by_cases e1:m=y
 ·subst e1;have T:=Ks hc Z (J.way m d U) (.yes (J.way k F A) ha Y hy);subst T;exact⟨.os I,by grind,.inr ⟨I,rfl,h1⟩⟩
 by_cases e2:m=n
 ·subst e2;have T:=Ks hc Z (J.way m d U) (.no (J.way k F A) ha Y hn);subst T;exact⟨.os O,by grind,.inr ⟨O,rfl,h2⟩⟩
 ·have X:m∈V++k::q:=by grind
  obtain⟨x,hx,ae⟩:=hF m X d U
  grind
set_option maxHeartbeats 1000000 in
theorem Za (l:List TNode) (D:List (List Decision)) (ht:Dq l) (hD:PathsOf l D):PC prog 33 [.sl (l.map bY)] (.sl (D.map Hd)):=by
  obtain⟨b5,b2,F,ab,a8⟩:=ht
  have bb:l≠[]:=by grind
  refine pcb (fun t=>t == 10) func33 rfl rfl ?_
  simp only[go_sem]
  refine⟨by omega,aH fun Y bw=>?_⟩
  simp only[go_sem]
  refine aH fun j4 bo=>?_
  have bn:=aV (aB _ _ _) bo
  simp only[go_sem]
  refine XY (fun m ρ H=>∃(V q:List Nat) (j:Nat) (aa:List (List AV)) (Y:Nat) (E:List AV),m=l.length-V.length/\BIn l V q/\ρ 0=.sl (l.map bY)/\ρ 3=.os Y/\((ρ 4=.os j/\aa=[])\/ρ 4=.oz j aa.length (aa.length+q.length))/\aa.length<=V.length/\H j=some ⟨3,1,aa++qE q⟩/\H Y=some (E7 E)/\E.length=l.length/\uZ D (V++q) H E) _ ⟨[],[0],j4,[],Y,List.replicate l.length (.sl []),rfl,BInv.start bb,by rfl,by rfl,.inl ⟨by rfl,rfl⟩,Xaa _,aB _ _ _,?_,by simp,?_⟩ ?_
  . simp_all[aF,aB]
  . intro k hk d hd
    simp at hk
    subst hk
    have:=Ug ab (hD.way 0 d hd)
    subst this
    exact⟨.sl [],by grind,.inl rfl⟩
  clear bw bo bn
  rintro m ρ H ⟨V,q,j,aa,Y,E,rfl,hB,e0,e3,e4,b4,R,R3,ap,hF⟩ K hK
  have a0:=hB.len
  rw[Xar]at a0
  have aq:j≠Y:=fun e=>by grind
  rcases e4 with⟨e4,rfl⟩|e4
  . rw[Xbi]at R
    simp only[go_sem,e4,R,sF]
    refine aA (fun bd=>?_) (fun bz=>?_)
    . cases q with
      | nil=>simp at bd
      | cons k q=>
        have ar:=hB.lt k (by simp)
        obtain⟨a,ha⟩:=aK ar
        have b1:=inB ar
        simp only[Xag]at a0
        simp only[go_sem,e0,e4,R,qE,Xav,Xag,List.getD_cons_zero,aC ha,b1]
        refine⟨by omega,by omega,by omega,?_⟩
        generalize b3:[int (k:Nat)]::List.map (fun i:Nat=>[int (i:Nat)]) q=qr at *
        have U:=Sup.refl H
        refine aH fun i6 Z=>?_
        have J:j≠i6:=aV R Z
        have A:Y≠i6:=aV R3 Z
        simp only[go_sem,]
        refine aG (aB _ _ _) (by simp[lO]) ?_
        have af:=U.none Z
        generalize O:aI (aI _ i6 _) i6 _=HGi6
        replace U:=Sup.eq ((U.upd af _).upd af _) O
        replace R:=kpR O J J R
        replace R3:=kpR O A A R3
        have R6:HGi6 i6=some (⟨37,10,[bY a]⟩):=by rw[<-O,aB];try rfl
        clear O Z
        simp only[go_sem,R6,]
        apply aA <;> intro hf
        . simp only[go_sem,]
          refine hK (l.length-(V++[k]).length) _ _ (by grind) ⟨V++[k],q,j,[[int (k:Nat)]],Y,E,rfl,hB.leafStep ha hf,e0,e3,.inr (by simp only[go_sem];grind),by simp,by grind[qE],R3,ap,by rw[Xaw];exact hF.keep U⟩
        . obtain⟨T,aj⟩:=aK (show k<D.length by rw[hD.len];omega)
          obtain⟨x,bg,ah⟩:=hF.keep U k (by simp) T aj
          have b0:=inB (show k<E.length by omega)
          have au:T.length<=1048576:=by have:=hD.short T (Xab aj);omega
          obtain⟨y,n,hy,hn⟩:=Gk F ha hf
          obtain⟨a4,be⟩:=aaX F ha hf
          rw[<-ap]at a4 be
          have al:=hB.innerStep ab F ha hf hy hn
          have bv:n≠k:=fun e=>by
            have:=al.nd
            grind
          have bx:y≠k:=fun e=>by
            have:=al.nd
            grind
          have ba:y≠n:=fun e=>Fs ab F ha hf (by omega)
          simp only[go_sem,]
          refine oU [i6] (.q 0 (.q 1 (.q 2 (.q 3 (.q 4 (.q 8 (.q 9 (.a2 5 (.a2 6 (.a2 7 (.a1 10 (.a1 11 (.a1 12 (.a1 13 .nil)))) 10 (.a1 7 (.a1 11 (.a1 12 (.a1 13 .nil))))) 10 (.a1 6 (.a1 7 (.a1 11 (.a1 12 (.a1 13 .nil)))))) 10 (.a1 5 (.a1 6 (.a1 7 (.a1 11 (.a1 12 (.a1 13 .nil)))))))))))))) (fun I H'=>I 0=.sl (l.map bY)/\I 3=.os Y/\I 4=.oz j 1 (q.length+1)/\I 5=int (k:Nat)/\I 6=.op i6 0 0/\∃jA,H' Y=some (E7 (E.set y (.os jA)))/\H' jA=some (gX (T++[a.π]))/\∀i r,HGi6 i=some r->i≠Y->H' i=some r) (by grind) (by kernel_rfl) (fun K' ai Hp Hr hp hr _ bm=>?_) ?_
          . have P6:=(hp i6 (by simp)).trans R6
            have Q3:=(hr Y (by grind)).trans R3
            have ak:ConvL Hr [x] [.sl (T.map aO)]:=B8.conv (ah.keep fun i d X=>(hr i (by grind)).trans X)
            rcases ah with rfl|⟨i,rfl,X⟩
            all_goals
              simp only[go_sem,e3,P6]
              repeat' (first
                | refine jG ?_ ?_
                | refine NC.lent ak (Gm T au) (Fu T) (fun jn ao=>?_)
                | (refine aU (r := gX T) (aB _ _ _) ⟨rfl, rfl⟩ ⟨rfl, trivial⟩ (by simp; omega) (fun ac ae => ?_)
                   obtain⟨G3,Gn,am,GU⟩:=ayG (r2:=⟨35,4,(T.map aO)++[aO a.π]⟩) Q3 ao ae
                   generalize aI (aI (aI Hr jn _) jn none) ac _=HG at *)
                | (refine bP ajQ G3 (by simp;omega) ?_)
                | (refine⟨a4,?_⟩)
                | (refine⟨⟨by omega,rfl⟩,?_⟩)
                | (refine⟨⟨by omega,by omega⟩,?_⟩)
                | (refine⟨by omega,?_⟩)
                | simp only[go_sem,G3,Xac]
                | simp only[go_sem,Q3,aC bg,Xac])
            all_goals
              refine dO (fun h0 Hm h1 h2=>?_)
              obtain⟨a1,a2,a3⟩:=auI hr GU Gn am A h0 h1 h2
              refine ai _ _ ⟨e0,e3,by simp only[go_sem],rfl,rfl,ac,?_,?_,a3⟩
              . exact a1.trans (congrArg some (Rh (by rw[hy];rfl)))
              . exact a2.trans (congrArg some (by simp[gX]))
          . rintro ρ H2 ⟨e0,e3,e4,e5,e6,jA,A3,An,AU⟩
            have R':=AU j _ R aq
            have a5:=AU i6 _ R6 A.symm
            have hU:∀i d,HGi6 i=some (gX d)->H2 i=some (gX d):=fun i d X=>AU i _ X (wM X R3 (by simp))
            have a6:(E.set y (.os jA))[k]?=some x:=by grind
            have ag:=ah.keep hU
            have bc:=(hF.keep U).keepD hU
            have bp:(E.set y (AV.os jA)).length=E.length:=List.length_set
            have bi:y<E.length:=by omega
            have a9:n<E.length:=by omega
            have a7:0<=a.no/\a.no<((E.set y (AV.os jA)).length:Int):=by omega
            have bq:=inB (show k<(E.set y (AV.os jA)).length by omega)
            generalize bk:E.set y (AV.os jA)=E1 at *
            simp only[go_sem,]
            refine oU [i6] (.q 0 (.q 1 (.q 2 (.q 3 (.q 4 (.q 8 (.q 9 (.a1 5 (.a1 6 (.a1 7 (.a1 10 (.a1 11 (.a1 12 (.a1 13 (.a1 14 .nil))))))))))))))) (fun I H'=>I 0=.sl (l.map bY)/\I 3=.os Y/\I 4=.oz j 1 (q.length+1)/\I 6=.op i6 0 0/\∃jB,H' Y=some (E7 (E1.set n (.os jB)))/\H' jB=some (gX (T++[Cm a.π]))/\∀i r,H2 i=some r->i≠Y->H' i=some r) (by grind) (by kernel_rfl) (fun K' ai Hp Hr hp hr _ bm=>?_) ?_
            . have P6:=(hp i6 (by simp)).trans a5
              have Q3:=(hr Y (by grind)).trans A3
              have ak:ConvL Hr [x] [.sl (T.map aO)]:=B8.conv (ag.keep fun i d X=>(hr i (by grind)).trans X)
              rcases ag with rfl|⟨i,rfl,X⟩
              all_goals
                simp only[go_sem,e3,e5,e6,P6]
                repeat' (first
                  | refine aL (apV a.π) ?_
                  | refine NC.lent ak (Gm T au) (Fu T) (fun jn ao=>?_)
                  | (refine aU (r := gX T) (aB _ _ _) ⟨rfl, rfl⟩ ⟨rfl, trivial⟩ (by simp; omega) (fun ac ae => ?_)
                     obtain⟨G3,Gn,am,GU⟩:=ayG (r2:=⟨35,4,(T.map aO)++[aO (Cm a.π)]⟩) Q3 ao ae
                     generalize aI (aI (aI Hr jn _) jn none) ac _=HG at *)
                  | (refine bP ajQ G3 (by simp;omega) ?_)
                  | (refine⟨a7,?_⟩)
                  | (refine⟨⟨by omega,rfl⟩,?_⟩)
                  | (refine⟨⟨by omega,by omega⟩,?_⟩)
                  | (refine⟨by omega,?_⟩)
                  | simp only[go_sem,G3,Xac]
                  | simp only[go_sem,Q3,aC a6,Xac])
              all_goals
                refine dO (fun h0 Hm h1 h2=>?_)
                obtain⟨a1,a2,a3⟩:=auI hr GU Gn am A h0 h1 h2
                refine ai _ _ ⟨e0,e3,e4,e6,ac,?_,?_,a3⟩
                . exact a1.trans (congrArg some (Rh (by rw[hn];rfl)))
                . exact a2.trans (congrArg some (by simp[gX]))
            . rintro ρ H3 ⟨e0,e3,e4,e6,jB,B3,Bn,BU⟩
              have aw:=BU j _ R' aq
              have az:=BU i6 _ a5 A.symm
              have av:∀i d,H2 i=some (gX d)->H3 i=some (gX d):=fun i d X=>BU i _ X (wM X A3 (by simp))
              have bf:=av _ _ An
              have bh:=uZ.two hD F ab ha hf hy hn aj (bc.keepD av) ba bi a9 bf Bn
              simp only[go_sem,e4,e6,az]
              refine JP aw ⟨rfl,rfl⟩ (by simp) ⟨rfl,rfl,trivial⟩ (by simp[sF]) (by grind[sF]) (fun j' ax bu bt=>?_)
              simp only[go_sem,]
              have ay:∀i r,H3 i=some r->i≠j->∀rw,aI (aI H3 j none) j' (some rw) i=some r:=fun i r X bb rw=>by grind[aF]
              refine hK (l.length-(V++[k]).length) _ _ (by grind) ⟨V++[k],q++[y,n],j',ax,Y,E1.set n (.os jB),rfl,al,e0,e3,.inr (by simp only[go_sem];grind),by grind,?_,ay Y _ B3 aq.symm _,by grind,?_⟩
              . rw[aB];simp[qE,hy,hn]
              . rw[<-bk];exact bh.keepD fun i d X=>ay i _ X (wM X aw (by simp)) _
    . have bj:q=[]:=by simp_all
      subst bj
      have an:=hB.full.2 a8
      simp only[go_sem,e3]
      refine .row _ _ _ R3 (Re ap hD.len fun k d hd=>?_)
      refine hF k ?_ d hd
      have:=HS (by simpa using hB.nd) (by simpa using hB.lt) an k (by have:=(List.getElem?_eq_some_iff.1 hd).1;rw[hD.len]at this;omega)
      grind
  . simp only[go_sem,e4,Nat.add_sub_cancel_left]
    refine aA (fun bd=>?_) (fun bz=>?_)
    . cases q with
      | nil=>simp at bd
      | cons k q=>
        have ar:=hB.lt k (by simp)
        obtain⟨a,ha⟩:=aK ar
        have b1:=inB ar
        simp only[Xag]at a0
        have br:(aa++qE (k::q)).getD aa.length []=[int (k:Nat)]:=by simp[qE]
        simp only[go_sem,e0,e4,R,Xar,sF,Xag,Nat.add_sub_cancel_left,Nat.add_zero,br,aC ha,b1]
        refine⟨by omega,by omega,by omega,?_⟩
        have U:=Sup.refl H
        refine aH fun i6 Z=>?_
        have J:j≠i6:=aV R Z
        have A:Y≠i6:=aV R3 Z
        simp only[go_sem,]
        refine aG (aB _ _ _) (by simp[lO]) ?_
        have af:=U.none Z
        generalize O:aI (aI _ i6 _) i6 _=HGi6
        replace U:=Sup.eq ((U.upd af _).upd af _) O
        replace R:=kpR O J J R
        replace R3:=kpR O A A R3
        have R6:HGi6 i6=some (⟨37,10,[bY a]⟩):=by rw[<-O,aB];try rfl
        clear O Z
        simp only[go_sem,R6,]
        apply aA <;> intro hf
        . simp only[go_sem,]
          refine hK (l.length-(V++[k]).length) _ _ (by grind) ⟨V++[k],q,j,(aa++[[int (k:Nat)]]),Y,E,rfl,hB.leafStep ha hf,e0,e3,.inr (by simp only[go_sem];grind),by grind,by grind[qE],R3,ap,by rw[Xaw];exact hF.keep U⟩
        . obtain⟨T,aj⟩:=aK (show k<D.length by rw[hD.len];omega)
          obtain⟨x,bg,ah⟩:=hF.keep U k (by simp) T aj
          have b0:=inB (show k<E.length by omega)
          have au:T.length<=1048576:=by have:=hD.short T (Xab aj);omega
          obtain⟨y,n,hy,hn⟩:=Gk F ha hf
          obtain⟨a4,be⟩:=aaX F ha hf
          rw[<-ap]at a4 be
          have al:=hB.innerStep ab F ha hf hy hn
          have bv:n≠k:=fun e=>by
            have:=al.nd
            grind
          have bx:y≠k:=fun e=>by
            have:=al.nd
            grind
          have ba:y≠n:=fun e=>Fs ab F ha hf (by omega)
          simp only[go_sem,]
          refine oU [i6] (.q 0 (.q 1 (.q 2 (.q 3 (.q 4 (.q 8 (.q 9 (.a2 5 (.a2 6 (.a2 7 (.a1 10 (.a1 11 (.a1 12 (.a1 13 .nil)))) 10 (.a1 7 (.a1 11 (.a1 12 (.a1 13 .nil))))) 10 (.a1 6 (.a1 7 (.a1 11 (.a1 12 (.a1 13 .nil)))))) 10 (.a1 5 (.a1 6 (.a1 7 (.a1 11 (.a1 12 (.a1 13 .nil)))))))))))))) (fun I H'=>I 0=.sl (l.map bY)/\I 3=.os Y/\I 4=.oz j (aa.length+1) (aa.length+(q.length+1))/\I 5=int (k:Nat)/\I 6=.op i6 0 0/\∃jA,H' Y=some (E7 (E.set y (.os jA)))/\H' jA=some (gX (T++[a.π]))/\∀i r,HGi6 i=some r->i≠Y->H' i=some r) (by grind) (by kernel_rfl) (fun K' ai Hp Hr hp hr _ bm=>?_) ?_
          . have P6:=(hp i6 (by simp)).trans R6
            have Q3:=(hr Y (by grind)).trans R3
            have ak:ConvL Hr [x] [.sl (T.map aO)]:=B8.conv (ah.keep fun i d X=>(hr i (by grind)).trans X)
            rcases ah with rfl|⟨i,rfl,X⟩
            all_goals
              simp only[go_sem,e3,P6]
              repeat' (first
                | refine jG ?_ ?_
                | refine NC.lent ak (Gm T au) (Fu T) (fun jn ao=>?_)
                | (refine aU (r := gX T) (aB _ _ _) ⟨rfl, rfl⟩ ⟨rfl, trivial⟩ (by simp; omega) (fun ac ae => ?_)
                   obtain⟨G3,Gn,am,GU⟩:=ayG (r2:=⟨35,4,(T.map aO)++[aO a.π]⟩) Q3 ao ae
                   generalize aI (aI (aI Hr jn _) jn none) ac _=HG at *)
                | (refine bP ajQ G3 (by simp;omega) ?_)
                | (refine⟨a4,?_⟩)
                | (refine⟨⟨by omega,rfl⟩,?_⟩)
                | (refine⟨⟨by omega,by omega⟩,?_⟩)
                | (refine⟨by omega,?_⟩)
                | simp only[go_sem,G3,Xac]
                | simp only[go_sem,Q3,aC bg,Xac])
            all_goals
              refine dO (fun h0 Hm h1 h2=>?_)
              obtain⟨a1,a2,a3⟩:=auI hr GU Gn am A h0 h1 h2
              refine ai _ _ ⟨e0,e3,by simp only[go_sem],rfl,rfl,ac,?_,?_,a3⟩
              . exact a1.trans (congrArg some (Rh (by rw[hy];rfl)))
              . exact a2.trans (congrArg some (by simp[gX]))
          . rintro ρ H2 ⟨e0,e3,e4,e5,e6,jA,A3,An,AU⟩
            have R':=AU j _ R aq
            have a5:=AU i6 _ R6 A.symm
            have hU:∀i d,HGi6 i=some (gX d)->H2 i=some (gX d):=fun i d X=>AU i _ X (wM X R3 (by simp))
            have a6:(E.set y (.os jA))[k]?=some x:=by grind
            have ag:=ah.keep hU
            have bc:=(hF.keep U).keepD hU
            have bp:(E.set y (AV.os jA)).length=E.length:=List.length_set
            have bi:y<E.length:=by omega
            have a9:n<E.length:=by omega
            have a7:0<=a.no/\a.no<((E.set y (AV.os jA)).length:Int):=by omega
            have bq:=inB (show k<(E.set y (AV.os jA)).length by omega)
            generalize bk:E.set y (AV.os jA)=E1 at *
            simp only[go_sem,]
            refine oU [i6] (.q 0 (.q 1 (.q 2 (.q 3 (.q 4 (.q 8 (.q 9 (.a1 5 (.a1 6 (.a1 7 (.a1 10 (.a1 11 (.a1 12 (.a1 13 (.a1 14 .nil))))))))))))))) (fun I H'=>I 0=.sl (l.map bY)/\I 3=.os Y/\I 4=.oz j (aa.length+1) (aa.length+(q.length+1))/\I 6=.op i6 0 0/\∃jB,H' Y=some (E7 (E1.set n (.os jB)))/\H' jB=some (gX (T++[Cm a.π]))/\∀i r,H2 i=some r->i≠Y->H' i=some r) (by grind) (by kernel_rfl) (fun K' ai Hp Hr hp hr _ bm=>?_) ?_
            . have P6:=(hp i6 (by simp)).trans a5
              have Q3:=(hr Y (by grind)).trans A3
              have ak:ConvL Hr [x] [.sl (T.map aO)]:=B8.conv (ag.keep fun i d X=>(hr i (by grind)).trans X)
              rcases ag with rfl|⟨i,rfl,X⟩
              all_goals
                simp only[go_sem,e3,e5,e6,P6]
                repeat' (first
                  | refine aL (apV a.π) ?_
                  | refine NC.lent ak (Gm T au) (Fu T) (fun jn ao=>?_)
                  | (refine aU (r := gX T) (aB _ _ _) ⟨rfl, rfl⟩ ⟨rfl, trivial⟩ (by simp; omega) (fun ac ae => ?_)
                     obtain⟨G3,Gn,am,GU⟩:=ayG (r2:=⟨35,4,(T.map aO)++[aO (Cm a.π)]⟩) Q3 ao ae
                     generalize aI (aI (aI Hr jn _) jn none) ac _=HG at *)
                  | (refine bP ajQ G3 (by simp;omega) ?_)
                  | (refine⟨a7,?_⟩)
                  | (refine⟨⟨by omega,rfl⟩,?_⟩)
                  | (refine⟨⟨by omega,by omega⟩,?_⟩)
                  | (refine⟨by omega,?_⟩)
                  | simp only[go_sem,G3,Xac]
                  | simp only[go_sem,Q3,aC a6,Xac])
              all_goals
                refine dO (fun h0 Hm h1 h2=>?_)
                obtain⟨a1,a2,a3⟩:=auI hr GU Gn am A h0 h1 h2
                refine ai _ _ ⟨e0,e3,e4,e6,ac,?_,?_,a3⟩
                . exact a1.trans (congrArg some (Rh (by rw[hn];rfl)))
                . exact a2.trans (congrArg some (by simp[gX]))
            . rintro ρ H3 ⟨e0,e3,e4,e6,jB,B3,Bn,BU⟩
              have aw:=BU j _ R' aq
              have az:=BU i6 _ a5 A.symm
              have av:∀i d,H2 i=some (gX d)->H3 i=some (gX d):=fun i d X=>BU i _ X (wM X A3 (by simp))
              have bf:=av _ _ An
              have bh:=uZ.two hD F ab ha hf hy hn aj (bc.keepD av) ba bi a9 bf Bn
              simp only[go_sem,e4,e6,az]
              refine JP aw ⟨rfl,rfl⟩ (by simp) ⟨rfl,rfl,trivial⟩ (by simp[sF]) (by grind[sF]) (fun j' ax bu bt=>?_)
              simp only[go_sem,]
              have ay:∀i r,H3 i=some r->i≠j->∀rw,aI (aI H3 j none) j' (some rw) i=some r:=fun i r X bb rw=>by grind[aF]
              refine hK (l.length-(V++[k]).length) _ _ (by grind) ⟨V++[k],q++[y,n],j',ax,Y,E1.set n (.os jB),rfl,al,e0,e3,.inr (by simp only[go_sem];grind),by grind,?_,ay Y _ B3 aq.symm _,by grind,?_⟩
              . rw[aB];simp[qE,hy,hn]
              . rw[<-bk];exact bh.keepD fun i d X=>ay i _ X (wM X aw (by simp)) _
    . have bj:q=[]:=by simp_all
      subst bj
      have an:=hB.full.2 a8
      simp only[go_sem,e3]
      refine .row _ _ _ R3 (Re ap hD.len fun k d hd=>?_)
      refine hF k ?_ d hd
      have:=HS (by simpa using hB.nd) (by simpa using hB.lt) an k (by have:=(List.getElem?_eq_some_iff.1 hd).1;rw[hD.len]at this;omega)
      grind
def mC:List TNode->List (List Decision)->List (List Decision)
 | a::l,d::D=>if a.leaf=true then d::mC l D else mC l D
 | _,_=>[]
def Qt{l:List TNode}{D:List (List Decision)}:∀{k:Nat} {a:TNode} {d:List Decision},l[k]?=some a->D[k]?=some d->mC (l.take (k+1)) (D.take (k+1))=mC (l.take k) (D.take k)++(if a.leaf=true then[d]else[]):=by
 intro k;induction k generalizing l D with
 | zero=>
  intro a d A E;cases l <;> cases D <;> simp at A E
  grind[mC]
 | succ k ih=>
  intro a d A E;cases l with
  | nil=>grind
  | cons b l=>cases D<;>grind[mC]
def Il:∀(l:List TNode) (D:List (List Decision)),(mC l D).length<=l.length
 | [],_=>by simp[mC]
 | _::_,[]=>by simp[mC]
 | a::l,d::D=>by have:=Il l D;unfold mC;split <;> simp <;> omega
abbrev aaR(L:List (List Decision)):Row:=⟨31,1,L.map Hd⟩
def abD(p:Proof)(b:Bool)(hb:b=true↔Dq p.nodes)(D:List (List Decision))(hD:b=true->PathsOf p.nodes D)(hl:p.nodes.length<=1048576):
  PC prog 12 [.agg (iC p)] (.tup [.sl ((if b=true then mC p.nodes D else[]).map Hd),int (if b=true then 0 else 29)]):=by
 refine pcb (fun t=>t == 4) func12 rfl rfl ?_;simp only[go_sem];refine aL (asQ p.nodes b hb hl) ?_;simp only[go_sem];cases b with
 | false=>refine aA (fun h=>?_) (fun h=>by cases h);simp only[go_sem];exact .refl _
 | true=>
  have ht:=hb.1 rfl;have O:=hD rfl;refine aA (fun h=>by cases h) (fun h=>?_);refine eJ fun j X T (R:X j=some (aaR [])) N=>?_
  clear N T;simp only[go_sem];refine aL (Za p.nodes D ht O) ?_;simp only[go_sem];refine⟨fun ρ H=>∃(k:Nat) (j:Nat),k<=p.nodes.length/\ρ 1=.rp (iC p) 0/\ρ 13=.sl (D.map Hd)/\ρ 14=int (p.nodes.length:Nat)/\ρ 15=int k/\ρ 4=.os j/\H j=some (aaR (mC (p.nodes.take k) (D.take k))),fun ρ _=>p.nodes.length-aT (ρ 15),⟨0,j,Xaa _,by rfl,by rfl,by simp only[go_sem,O.len],(by rfl),by rfl,R⟩,?_⟩;rintro ρ H ⟨k,j,hk,U,I,F,E,e4,R⟩;simp only[go_sem,F,E];refine aA (fun A=>?_) (fun J=>?_)
  ·have A:=ltB (by omega);obtain⟨a,ha⟩:=aK A;obtain⟨d,hd⟩:=aK (show k<D.length by rw[O.len];omega);have b1:=inB A;have b2:=inB (show k<D.length by grind);have hs:=Qt ha hd;have Y:=Il (p.nodes.take k) (D.take k);rw[Xbj]at Y;generalize ab:mC (p.nodes.take k) (D.take k)=PL at *;simp only[go_sem,I,E,aC hd,b1,b2,Xac];have Z:Hd d=[.sl (d.map aO)]:=rfl;rw[Z];simp only[go_sem,U,aC ha,b1];apply aA <;> intro hf
   ·rw[if_pos hf]at hs;simp only[go_sem,e4];refine aU R ⟨rfl,rfl⟩ ⟨rfl,trivial⟩ (by grind) (fun j' aa=>?_);simp only[go_sem,U,I,F,E,aQ k];refine⟨⟨k+1,j',A,rfl,rfl,?_⟩,msr A⟩;simp_all[aB]
   ·rw[if_neg (by grind),Xat]at hs;simp only[go_sem,U,I,F,E,e4,aQ k];refine⟨⟨k+1,j,A,rfl,rfl,?_⟩,msr A⟩
    grind
  have J:=geB hk (by omega);subst J;rw[Xad,Xai (by rw[O.len];simp)]at R;simp only[go_sem,e4];exact .tup _ _ (.cons _ _ _ _ (.row _ _ _ R (ConvE.refl _)) (.cons _ _ _ _ (.refl _) .nil))
end Ve
namespace Dec
open Sq (xE Qx Fh lN okV)
abbrev gV(l:List Int):Row:=⟨3,1,l.map aP⟩
end Dec
namespace Ve
open Go.Ve Dec
open Go.Proofs.YtkfhgjihlbilpaaGreatDoor.Nu
end Ve
namespace Sq
open Go.Proofs.Tryz
open Go.Proofs.YtkfhgjihlbilpaaGreatDoor.Nu (ltB geB)
open Mv (bS bU aS)
def pM(x:Instance)(i:Int):List Visit:=match x.y5[i.toNat]? with|some o=>dL o i|none=>[]
def D0(x:Instance)(i:Int):(pM x i).length<=2:=by
 unfold pM;split
 ·grind[dL]
 simp
def acH(x:Instance)(i:Int)(E:0<=i/\i<(x.y5.length:Int)):PC prog 231 [.agg (aD x),int i] (.sl ((pM x i).map aN)):=by obtain⟨o,A⟩:=aK (show i.toNat<x.y5.length by omega);have:=Me x i o E A;unfold pM;rw[A];exact this
def Hi(x:Instance)(o:Int)(l:List Visit)(q:Pair):Bool:=q.b == o&&((decide (q.a<0)||decide (q.a>=(x.y5.length:Int)))|| !jP l (pM x q.a))
def uD(x:Instance)(o:Int)(l:List Visit):Bool:= !x.before.any (Hi x o l)
def adP(x:Instance)(o:Int)(l:List Visit)(hl:l.length<=1048576)(hb:x.before.length<=1048576):PC prog 230 [.agg (aD x),int o,.sl (l.map aN)] (boo (uD x o l)):=by
 refine pcd func230 rfl rfl ?_;simp only[go_sem];refine⟨fun ρ H=>∃(k:Nat),k<=x.before.length/\ρ 1=int o/\ρ 2=.sl (l.map aN)/\ρ 3=.rp (aD x) 0/\ρ 7=int k/\(∀q∈x.before.take k,Hi x o l q=false),fun ρ _=>x.before.length-aT (ρ 7),⟨0,Xaa _,rfl,rfl,rfl,(by rfl),by simp⟩,?_⟩;rintro ρ H ⟨k,hk,X,O,J,I,U⟩;simp only[go_sem,J,I];refine aA (fun A=>?_) (fun F=>?_)
 ·have A:=ltB (by omega);obtain⟨q,T⟩:=aK A;have Z:=inB A;have Y:=D0 x q.a;simp only[go_sem,X,O,J,I,aC T,Z];refine⟨by decide,by decide,.nf (.sl ((pM x q.a).map aN)),fun h=>(acH x q.a (by grind)).qn,?_⟩;simp only[go_sem];refine⟨boo (jP l (pM x q.a)),fun _=>(FA l (pM x q.a) hl (by omega)).q rfl,?_⟩;simp only[go_sem];apply aA <;> intro E
  ·have E:Hi x o l q=true:=E;simp only[go_sem]
   grind[bU,uD]
  ·have E:Hi x o l q=false:=E;simp only[go_sem,X,O,J,I,aQ k];exact⟨⟨k+1,A,rfl,aS (p:=fun q=>Hi x o l q=false) T E U⟩,msr A⟩
 have F:=geB hk (by omega);subst F;rw[Xad]at U;simp only[go_sem]
 grind[bU,uD]
def HC(a b:Visit):Bool:=decide (a.order<b.order)||((a.order == b.order&& !a.drop)&&b.drop)
def aeS(a b:Visit):PC prog 297 [.agg (aN a),.agg (aN b)] (boo (HC a b)):=by refine pcd func297 rfl rfl ?_;simp only[go_sem];exact .refl _
def Dt(l V:List Visit)(k:Nat):List Visit:=match V[k]? with
 | some v=>if(decide (cD l v<0)&&((k:Int) == 0||decide (cD l (V.getD 0 ⟨0,false⟩)>=0)))=true then[v]else[]
 | none=>[]
def EA(l V:List Visit)(m:Nat):List Visit:=(List.range m).flatMap (Dt l V)
def LR(x:Instance)(set:Int)(l:List Visit)(i:Nat):Bool:=(!uQ set i||Qu x i)|| !uD x i l
def AL(x:Instance)(set:Int)(l:List Visit)(i:Nat):List Visit:=if LR x set l i=true then[]else EA l (pM x i) (pM x i).length
def uP(x:Instance)(set:Int)(l:List Visit)(k:Nat):List Visit:=(List.range k).flatMap (AL x set l)
def zS(x:Instance)(set:Int)(l:List Visit):List Visit:=uP x set l x.y5.length
def Lc(l V:List Visit)(m:Nat):EA l V (m+1)=EA l V m++Dt l V m:=by grind[EA,Xas]
def ED(x:Instance)(set:Int)(l:List Visit)(k:Nat):uP x set l (k+1)=uP x set l k++AL x set l k:=by grind[uP,Xas]
def afB(l V:List Visit)(k:Nat):(Dt l V k).length<=1:=by grind[Dt]
def GG(l V:List Visit):∀m,(EA l V m).length<=m
 | 0=>Xae _
 | m+1=>by rw[Lc,Xar];have:=GG l V m;have:=afB l V m;omega
def Bh(x:Instance)(set:Int)(l:List Visit):∀k,(uP x set l k).length<=2*k
 | 0=>Xae _
 | k+1=>by
  rw[ED,Xar];have:=Bh x set l k;have A:(AL x set l k).length<=2:=by
   unfold AL;split
   ·simp
   ·exact Xaf (GG _ _ _) (D0 _ _)
  omega
def asC(x:Instance)(set:Int)(l:List Visit)(hl:l.length<=1048576)(hb:x.before.length<=1048576)(hx:x.y5.length<=100000):PC prog 165 [.agg (aD x),int set,.sl (l.map aN)] (.sl ((zS x set l).map aN)):=by
 refine pcb (fun t=>t == 7) func165 rfl rfl ?_;simp only[go_sem];refine eJ fun j ab ah (R:ab j=some (Qv [])) N=>?_
 simp only[go_sem];refine⟨fun ρ H=>∃(k:Nat) (j:Nat),k<=x.y5.length/\ρ 1=int set/\ρ 2=.sl (l.map aN)/\ρ 3=.rp (aD x) 0/\ρ 8=int k/\ρ 7=.os j/\H j=some (Qv (uP x set l k)),fun ρ _=>x.y5.length-aT (ρ 8),⟨0,j,Xaa _,rfl,rfl,rfl,(by rfl),rfl,R⟩,?_⟩;rintro ρ H ⟨k,j,hk,U,O,T,F,X,R⟩;simp only[go_sem,T,F];refine aA (fun A=>?_) (fun aa=>?_)
 ·have A:=ltB (by omega);obtain⟨o,ho⟩:=aK A;have b1:=inB A;have hs:=ED x set l k;have aj:=Bh x set l k;have ai:Qu x k=o.off:=by grind[Qu]
  have ae:LR x set l k=((!uQ set k||o.off)|| !uD x k l):=by grind[LR]
  have hA:AL x set l k=if LR x set l k=true then[]else EA l (pM x (k:Nat)) (pM x (k:Nat)).length:=rfl
  rw[hA,ae]at hs;generalize uP x set l k=L at *;simp only[go_sem,U,F];refine aL (D7 set (k:Nat)) ?_;simp only[go_sem,O,T,F,aC ho,b1];refine⟨boo (uD x (k:Nat) l),fun _=>(adP x (k:Nat) l hl hb).q rfl,?_⟩;simp only[go_sem];apply aA <;> intro hc
  ·rw[if_pos hc,Xat]at hs;simp only[go_sem,U,O,T,F,X,aQ k];refine⟨⟨k+1,j,A,rfl,rfl,?_⟩,msr A⟩
   grind
  rw[if_neg (by grind)]at hs;simp only[go_sem,T,F];refine aL (acH x (k:Nat) (by omega)) ?_;have hV:=D0 x (k:Nat);generalize pM x (k:Nat)=V at *;simp only[go_sem];refine⟨fun ρ H=>∃m j:Nat,m<=V.length/\ρ 1=int set/\ρ 2=.sl (l.map aN)/\ρ 3=.rp (aD x) 0/\ρ 8=int (k:Nat)/\ρ 9=.sl (V.map aN)/\ρ 10=int (m:Nat)/\ρ 7=.os j/\H j=some (Qv (L++EA l V m)),fun ρ _=>V.length-aT (ρ 10),⟨0,j,Xaa _,by simp only[go_sem,U,],by simp only[go_sem,O,],by simp only[go_sem,T,],F,by rfl,(by rfl),X,by grind[EA]⟩,?_⟩;rintro ρ H ⟨m,j,hm,U,O,T,F,Y,E,X,R⟩;simp only[go_sem,Y,E,Xac];refine aA (fun J=>?_) (fun Z=>?_)
  ·have J:=ltB (by omega);obtain⟨v,hv⟩:=aK J;obtain⟨v0,ac⟩:=aK (l:=V) (k:=0) (by omega);have b2:=inB J;have b3:(0:Int)<=0/\(0:Int)<((V.length:Nat):Int):=by omega
   have I:=Lc l V m;have am:=GG l V m;have al:V.getD 0 ⟨0,false⟩=v0:=by grind
   have af:Dt l V m=if(decide (cD l v<0)&&((m:Int) == 0||decide (cD l v0>=0)))=true then[v]else[]:=by grind[Dt]
   rw[af]at I;generalize EA l V m=SM at *;simp only[go_sem,O,Y,E,aC hv,b2];refine aL (sU l v hl) ?_;simp only[go_sem,O,Y,E,aC ac,b3,Xac];refine⟨_,fun _=>(sU l v0 hl).q rfl,?_⟩;simp only[go_sem];apply aA <;> intro ag
   ·rw[if_pos ag]at I;simp only[go_sem,X,Y,E,aC hv,b2,Xac];refine aU R ⟨rfl,rfl⟩ (by simp only[go_sem]) (by grind) (fun j2 ak=>?_);simp only[go_sem,U,O,T,F,Y,E,aQ m];refine⟨⟨m+1,j2,J,rfl,rfl,?_⟩,by grind[aJ]⟩;rw[I,<-Xaw,aB];simp
   ·rw[if_neg (by grind),Xat]at I;simp only[go_sem,U,O,T,X,F,Y,E,aQ m]
    grind[aJ]
  have Z:=geB hm (by omega);subst Z;simp only[go_sem,U,O,T,X,F,aQ k];refine⟨⟨k+1,j,A,rfl,rfl,?_⟩,msr A⟩
  grind
 have aa:=geB hk (by omega);subst aa;simp only[go_sem,X];exact .row _ _ _ R (ConvE.refl _)
def QI(u v:Visit):Bool:=u.order == v.order&&(u.drop == v.drop&&true)
def Aa:List Visit->List Visit->Bool
 | [],b=>decide (0<b.length)
 | _::_,[]=>false
 | u::l,v::m=>if(!QI u v)=true then HC u v else Aa l m
def VZ(a b:List Visit)(h:a=[]\/b=[]):Aa a b=decide (a.length<b.length):=by
 rcases h with rfl|rfl
 ·rfl
 ·cases a<;>grind[Aa]
def akB(a b:List Visit)(ha:a.length<=1048576)(hb:b.length<=1048576):PC prog 234 [.sl (a.map aN),.sl (b.map aN)] (boo (Aa a b)):=by
 refine pcd func234 rfl rfl ?_;simp only[go_sem];refine⟨fun ρ _=>∃k:Nat,k<=a.length/\k<=b.length/\ρ 0=.sl (a.map aN)/\ρ 1=.sl (b.map aN)/\ρ 5=int k/\Aa a b=Aa (a.drop k) (b.drop k),fun ρ _=>a.length-aT (ρ 5),⟨0,Xaa _,Xaa _,rfl,rfl,(by rfl),rfl⟩,?_⟩;rintro ρ H ⟨k,ab,aa,F,E,J,A⟩;simp only[go_sem,F,E,J,Xac];refine aA (fun O=>?_) (fun U=>?_)
 ·simp only[Xak,decide_eq_true_eq]at O;obtain⟨u,T⟩:=aK (l:=a) (k:=k) (by omega);obtain⟨v,X⟩:=aK (l:=b) (k:=k) (by omega);have Z:=inB (show k<a.length by omega);have Y:=inB (show k<b.length by omega);rw[uW T,uW X]at A;have A:Aa a b=if(!QI u v)=true then HC u v else Aa (a.drop (k+1)) (b.drop (k+1)):=A
  simp only[go_sem];refine dC ?_;simp only[go_sem,F,E,J,aC T,aC X,Z,Y,Xac];apply aA <;> intro I
  ·have I:(!QI u v)=true:=I;rw[if_pos I]at A;simp only[go_sem];refine dC ?_;simp only[go_sem,F,E,J,aC T,aC X,Z,Y,Xac];refine⟨_,(aeS u v).q rfl,?_⟩;simp only[go_sem];exact bU A.symm
  ·have I:(!QI u v)=false:=I;rw[if_neg (by grind)]at A;simp only[go_sem,F,E,J,aQ k]
   grind[aJ]
 ·have U:a.length<=k\/b.length<=k:=by grind
  have hn:a.drop k=[]\/b.drop k=[]:=by grind
  rw[VZ _ _ hn,List.length_drop,List.length_drop]at A;simp only[go_sem,F,E,Xac];refine bU ?_
  grind
end Sq
namespace Rx
open Go.Nu Go.So
open Sq (W gD fF dI NetOk gI)
open Nu (ltB geB B9 kR EY)
open Mv (bS bU aS)
end Rx
end Go.Proofs.YtkfhgjihlbilpaaGreatDoor
section
namespace Go.Aw
end Go.Aw
namespace Go.Proofs.YtkfhgjihlbilpaaGreatDoor.Rx
open Go.Aw Go.Aw.D Go.Proofs Ty Go.Nu Go.So
open Sq (W gD fF dI NetOk gI)
open Nu (ltB geB B9 kR EY)
open Mv (bS bU aS)
def stR(o:Order)(d:Bool):Stop:=if d=true then o.drop else o.pick
end Go.Proofs.YtkfhgjihlbilpaaGreatDoor.Rx
end
namespace Go.Proofs.YtkfhgjihlbilpaaGreatDoor
open Go.Aw Go.Aw.D Go.Proofs Ty
namespace Rx
open Go.Nu Go.So
open Sq (W gD fF dI NetOk)
open Nu (ltB geB)
open Mv (bS bU aS)
end Rx
namespace Rx
open Go.Nu Go.So
open Sq (W gD fF dI NetOk)
theorem DG{x:Instance}{o:Nat}(A:o<x.y5.length):gD x.y5 (o:Nat)=Sq.iE (gA x o) (o:Nat):=by
 have E:cH ((o:Nat):Int) x.y5.length=false:=by grind[cH]
 unfold gD;rw[if_neg (by grind)]
 grind[jN]
end Rx
namespace Rx
open Go.Nu Go.So
open Sq (W gD fF dI NetOk gI tO)
open Nu (ltB geB B9 kR EY)
open Mv (bS bU aS)
end Rx
namespace Rx
open Go.Nu Go.So
open Sq (W gD fF dI NetOk)
open Nu (ltB geB)
open Mv (bS bU aS)
end Rx
namespace Rx
open Go.Nu Go.So
open Sq (W gD fF dI NetOk gI tO)
open Nu (ltB geB B9 kR EY uO)
open Mv (bS bU aS)
end Rx
namespace Rx
open Sq
def dimN(x:Instance):Nat:=(mO x.types).toNat
end Rx
namespace Rx
open Sq
def both(t:VType)(l:List Clk):List Clk:=l.flatMap fun c=>[c,azM t c]
structure Cr(k:Nat)(cs:List Clk)(R:List Mom):Prop where
 sub:∀c∈cs,(⟨c.ready,c.since⟩:Mom)∈R
 dom:∀m∈R,∃c∈cs,c.ready=m.time/\c.since<=m.ν
 rng:∀m∈R,(0<=m.time/\m.time<=8192)/\ -(12288*(k:Int))<=m.ν/\m.ν<=4096
section
variable{n:Network}{t:VType}{place goal:Int}{k:Nat}{cs:List Clk}{R:List Mom}
end
end Rx
namespace Rx
open Sq
open Go.Nu (Az)
structure Rel(x:Instance)(t:VType)(p:Part)(q:RP):Prop where
 place:p.place=q.place
 memory:p.memory=q.memory
 board:p.board=q.board
 y7:p.y7=q.y7
 load:p.load=q.load
 ll:q.load.length=dimN x
 mem:q.memory<2^x.y5.length
 clk:∃R,Cr p.y7 p.clocks R/\q.moms=awX t R
section
variable{x:Instance}{k:Nat}{near:List Int}{du:Option (List ByteArray)}{dl:List ByteArray}{M:Nat}{cn:Int}{lim fnd:Bool}{le:ByteArray}{p:Part}{q:RP}{o:Nat}{d:Bool}
abbrev wOf(x:Instance)(k:Nat)(near:List Int)(du:Option (List ByteArray))(M:Nat):Wk:=⟨x,k,aAf x k,near,du,M⟩
end
end Rx
namespace Rx
open Go.Nu
def Mf(n:Int):qU (n:Rat)=zed n:=by rfl
end Rx
namespace Rx
open Sq
open Go.Nu
def azJ(w:Wk)(p:Part):List ByteArray:=if(awQ w p).2.2=true then[azY w p (awQ w p).1 (awQ w p).2.1]else[]
def azP(w:Wk)(vs:List Visit):Nat->Part->List ByteArray
 | 0,p=>azJ w p
 | f+1,p=>azJ w p++vs.flatMap fun v=>if(Zg w p v).2=true then azP w vs f (Zg w p v).1 else[]
section
variable{x:Instance}{k:Nat}{near:List Int}{du:Option (List ByteArray)}{dl:List ByteArray}{M:Nat}{cn:Int}{lim fnd:Bool}{le:ByteArray}{p p':Part}{q q':RP}{o:Nat}{dr:Bool}{v d:Rat}{o7:Int}
end
end Rx
namespace Rx
open Sq
open Go.Nu
section
variable{x:Instance}{k:Nat}{near:List Int}{du:Option (List ByteArray)}{dl:List ByteArray}{M:Nat}{cn:Int}{lim fnd:Bool}{le:ByteArray}{p p':Part}{q q':RP}{o:Nat}{dr:Bool}{v d:Rat}{o7:Int}
def axK{O:Order}{i:Nat}{v:Visit}(h:v∈iE O (i:Nat)):∃d,v=⟨(i:Nat),d⟩/\(stR O d).place>=0:=by grind[iE,stR]
end
end Rx
namespace Rx
open Sq
open Go.Nu
end Rx
namespace Rx
open Sq
open Go.Nu
section
variable{x:Instance}{k:Nat}{near:List Int}{du:Option (List ByteArray)}{dl:List ByteArray}{M:Nat}{cn:Int}{lim fnd:Bool}{le:ByteArray}{p p':Part}{q q':RP}{o:Nat}{dr:Bool}{v d:Rat}{o7:Int}
def Vis(x:Instance)(v:Visit):Prop:=∃i d,v=⟨(i:Nat),d⟩/\i<x.y5.length/\(stR (gA x i) d).place>=0/\(gA x i).off=false
end
end Rx
namespace Rx
open Sq
open Go.Nu
section
variable{x:Instance}{k:Nat}{near near':List Int}{du du':Option (List ByteArray)}{dl dl':List ByteArray}{M:Nat}{cn:Int}{lim fnd:Bool}{le:ByteArray}{p p':Part}{q q':RP}{o:Nat}{dr:Bool}{v d:Rat}{o7:Int}
end
end Rx
namespace Rx
open Sq
open Go.Nu
section
variable{x:Instance}{k:Nat}{near near':List Int}{du du':Option (List ByteArray)}{dl dl':List ByteArray}{M:Nat}{cn:Int}{lim fnd:Bool}{le:ByteArray}{p q:Part}{a b:RP}{o:Nat}{dr:Bool}{v d:Rat}{o7:Int}{fl:Bool}
end
end Rx
namespace Rx
open Sq
open Go.Nu
section
variable{x:Instance}{k:Nat}{near near':List Int}{du du':Option (List ByteArray)}{dl dl':List ByteArray}{M:Nat}{cn:Int}{lim fnd:Bool}{le:ByteArray}{p q:Part}{a b:RP}{o:Nat}{dr:Bool}{v d:Rat}{o7:Int}{fl:Bool}
end
end Rx
namespace Rx
open Go.Nu Go.So
open Sq (W gD fF dI NetOk)
open Nu (ltB geB uO)
open Mv (bS bU aS)
end Rx
namespace Rx
open Go.Nu Go.So
open Sq (W gD fF dI NetOk tO)
open Nu (ltB geB uO)
open Mv (bS bU aS)
abbrev Ix(x:Instance)(k:Nat)(near:List Int)(du:Option (List ByteArray)):List ByteArray:=azP (wOf x k near du (ayH x).length) (ayH x) (ayH x).length (aAh (wOf x k near du (ayH x).length))
end Rx
end Go.Proofs.YtkfhgjihlbilpaaGreatDoor
section
namespace Go.Aw.D
open Go.Aw Go.RowKit Go.Proofs Go.Proofs.YtkfhgjihlbilpaaGreatDoor Go.WideShapes Go.ChangeShapes
theorem axA{H:Type}{e:TypeId×Value->H}{P:Program}{W:World}{t:TypeId}{r:Reach}{I:Nat}{v:Value}{d:DataW H}{T:List MemPlace}(F:P.underlying t=some (.int .i64))
  (A:Value.okWide P W r I t v) (U:DataW.Trod e P W 0 (fun _=>true) true t v d T):∃x:Int,rep (Sw W) W (.v (.int .i64 x)) v/\∀n,BK H d<=n->lD n x:=by
 obtain⟨x,rfl⟩:=okWide_int F A;obtain⟨E,h⟩:=U;obtain⟨n,h1,_,O⟩:=DataW.trod_int F h;have J:(Value.int .i64 x)=.int .i64 n:=by grind[Value.cells]
 cases J;exact⟨x,by rfl,fun _ _=>bounds_i64 O⟩
def Q6:List (String×DataW Unit):=[("math/bits.deBruijn32tab",Go.Proofs.YtkfhgjihlbilpaaGreatDoor.Rows.laid_math_bits_deBruijn32tab),("math/bits.deBruijn64tab",Go.Proofs.YtkfhgjihlbilpaaGreatDoor.Rows.laid_math_bits_deBruijn64tab),("internal/strconv.uint64pow10",Go.Proofs.YtkfhgjihlbilpaaGreatDoor.Rows.laid_internal_strconv_uint64pow10)]
theorem arV:(Go.Proofs.YtkfhgjihlbilpaaGreatDoor.Rows.laid_math_bits_deBruijn64tab:DataW Unit)=Lib.tabData .u8 (Lib.deBruijn64tab.map fun z:Nat=>(z:Int)):=by rfl
theorem ajI:(Go.Proofs.YtkfhgjihlbilpaaGreatDoor.Rows.laid_internal_strconv_uint64pow10:DataW Unit)=Lib.tabData .u64 Lib.pow10Tab:=by rfl
theorem agI{W:World}(h:laidMetH Tryz.prog Q6 W):RA W:=by
 have h0:laidMet Tryz.prog Q6 W:=(Go.MakeChecks.laidMetH_plain Tryz.prog Q6 W (by rfl))▸h;have h1:=laidMet.tail h0;have A:=laidMet.tail h1;rw[arV]at h1;rw[ajI]at A;have b:=Lib.tabIs_of_head (g:=3) (by rfl) (by rfl) (t:=420) (e:=5) (n:=64) Tryz.underlying420 Tryz.underlying5 (by rfl) (by rfl) h1;have p:=Lib.tabIs_of_head (g:=1) (by rfl) (by rfl) (t:=403) (e:=379) (n:=20) Tryz.underlying403 Tryz.underlying379 (by rfl) (by rfl) A;unfold Lib.TabIs World.var? at b p;rw[show Tryz.prog.globalNamed "math/bits.deBruijn64tab" = some 3 by rfl]at b;rw[show Tryz.prog.globalNamed "internal/strconv.uint64pow10" = some 1 by rfl]at p;intro t E;simp only[aiN,List.mem_cons,List.not_mem_nil,or_false]at E;rcases E with rfl|rfl
 . exact p
 . have:akX=((Lib.deBruijn64tab.map fun z:Nat=>(z:Int)).map fun z=>Value.int .u8 z).toArray:=by rfl
   rw[this];exact b
end Go.Aw.D
end
