import Derived.Lib.ItoaMem
import Derived.Test.YtkfhgjihlbilpaaGreatDoorVl05
set_option linter.unusedSimpArgs false
set_option linter.unusedVariables false
set_option linter.defProp false
set_option maxRecDepth 100000
namespace Go.Proofs.YtkfhgjihlbilpaaGreatDoor
open Go.Aw Go.Aw.D Go.Proofs Ty
namespace Nu
open Go.Proofs.Tryz
open Go.Nu
open Go.RowKit (Below)
def Hz:∀l:List UInt8,Lib.indexByte l 47=if l.any (· == gC)=true then((l.takeWhile (· != gC)).length:Int)else -1
 | []=>rfl
 | c::l=>by
  have ih:=Hz l;unfold Lib.indexByte;by_cases h:c=gC
  all_goals simp_all[gC]
theorem JY{α:Type}(p:α->Bool):∀l:List α,l.take (l.takeWhile p).length=l.takeWhile p
 | []=>rfl
 | a::l=>by
  rw[List.takeWhile_cons];split
  ·rw[Xag,List.take_succ_cons,JY p l]
  ·rfl
def aaB{α:Type}(p:α->Bool):∀l:List α,l.drop ((l.takeWhile p).length+1)=(l.dropWhile p).drop 1
 | []=>rfl
 | a::l=>by
  rw[List.takeWhile_cons,List.dropWhile_cons];split
  ·rw[Xag,List.drop_succ_cons,aaB p l]
  ·rfl
def aB5{l:List UInt8}(h:l.any (· == gC)=true):(l.takeWhile (· != gC)).length<l.length:=by grind[JY,HD]
def arM(s:ByteArray):Int:=if mV s=true then(((bl s).takeWhile (· != gC)).length:Int)else -1
def atC(s:ByteArray):PC prog 321 [str s,str ⟨#[47]⟩] (int (arM s)):=by
 refine PC.lib (a:=[.string s,.string ⟨#[47]⟩]) (v:=.int .i64 (arM s)) (fun S w=>rfl) fun w _=>(Tryz.stringslite_Index_one s 47 w).mono fun e w' ⟨E,A⟩=>?_
 rw[A];exact⟨E.trans (by rw[show s.data.toList=bl s from rfl,Hz];rfl),Below.refl _ _⟩
def TC(s:ByteArray):PC prog 211 [str s,str ⟨#[47]⟩] (boo (mV s)):=by
 refine PC.lib (a:=[.string s,.string ⟨#[47]⟩]) (v:=.bool (mV s)) (fun S w=>rfl) fun w _=>(Tryz.strings_Contains_one s 47 w).mono fun e w' ⟨E,A⟩=>?_
 rw[A];refine⟨E.trans ?_,Below.refl _ _⟩;rw[show s.data.toList=bl s from rfl,Hz];unfold mV;simp_all;grind
def Qp(s:ByteArray):ByteArray:=⟨(((bl s).dropWhile (· != gC)).drop 1).toArray⟩
def aqE(s:ByteArray)(h:s.size<=1048576):PC prog 281 [str s,str ⟨#[47]⟩] (.tup (if mV s=true then[str (hJ s),str (Qp s),boo true]else[str s,str emp,boo false])):=by
 refine pcd func281 rfl rfl ?_;simp only[go_sem];refine aL (atC s) ?_;simp only[go_sem];have J:=eA s;apply aA <;> intro E
 ·have A : mV s = true := by
   have E:=of_decide_eq_true E
   grind[arM]
  have I:=aB5 A;rw[if_pos A,show arM s=(((bl s).takeWhile (· != gC)).length:Int)from if_pos A];simp only[go_sem];refine dC ?_;simp only[go_sem];have T:s.extract 0 ((bl s).takeWhile (· != gC)).length=hJ s:=mQ (by rw[gW,Xbg,JY];rfl);have F:s.extract (((bl s).takeWhile (· != gC)).length+1) s.size=Qp s:=mQ (by rw[gW,<-J,Xad,aaB];rfl);refine⟨⟨by omega,by omega⟩,?_⟩;have O:IntKind.i64.wrap ((((bl s).takeWhile (· != gC)).length:Int)+((#[47]:Array UInt8).size:Nat))=((((bl s).takeWhile (· != gC)).length+1:Nat):Int):=mT (by omega);simp only[O,Xal,T,F];refine⟨⟨by omega,by omega⟩,?_⟩;exact .refl _
 ·have A:¬mV s=true:=fun A=>by simp_all[arM]
  rw[if_neg A];simp only[go_sem];exact .refl _
def UY{s:ByteArray}(h:mV s=false):hJ s=s:=by grind[mQ,hJ,mY,BD,mV]
def aB9(s:ByteArray)(h:s.size<=1048576):PC prog 217 [str s,str ⟨#[47]⟩] (.tup (if mV s=true then[str (hJ s),str (Qp s),boo true]else[str s,str emp,boo false])):=by
 by_cases A:mV s=true
 ·have:=aqE s h;rw[if_pos A]at this |-;refine pcd func217 rfl rfl ?_;simp only[go_sem];refine aL this ?_;simp only[go_sem];exact .refl _
 ·have:=aqE s h;rw[if_neg A]at this |-;refine pcd func217 rfl rfl ?_;simp only[go_sem];refine aL this ?_;simp only[go_sem];exact .refl _
def GC(s:ByteArray)(h:s.size<=1048576):PC prog 152 [str s] (.tup [str (hJ s),str (iF s)]):=by
 have E:=aB9 s h;by_cases A:mV s=true
 ·rw[if_pos A]at E;refine pcd func152 rfl rfl ?_;simp only[go_sem];refine aL E ?_;simp only[go_sem];refine aA (fun F=>by cases F) (fun _=>?_);simp only[go_sem];rw[show iF s=Qp s from if_pos A];exact .refl _
 ·rw[if_neg A]at E;refine pcd func152 rfl rfl ?_;simp only[go_sem];refine aL E ?_;simp only[go_sem];refine aA (fun _=>?_) (fun F=>by cases F);simp only[go_sem];rw[show iF s=dec 1 from if_neg A,UY (by grind),<-FT];exact .refl _
def To(s:ByteArray):PC prog 210 [str s] (int (gG s).size):=by refine pcd func210 rfl rfl ?_;simp only[go_sem];refine aL (CB s) ?_;simp only[go_sem];exact .refl _
def DM(s:ByteArray):(hJ s).size<=s.size:=by grind[eA,hJ,mY,JY]
def Oo(s:ByteArray):(iF s).size<=max s.size 1:=by grind[iF,eA,mY,List.dropWhile_suffix,FT]
theorem YH:eQ (dec 1)=true:=oS 1
theorem Lg{s:ByteArray}(h:eQ s=true):gG s=s:=by rw[<-kU h,UM]
theorem Pc{s:ByteArray}(h:mV s=false):iF s=dec 1:=if_neg (by grind)
theorem K9{s:ByteArray}(E:(!fN (hJ s)||decide (((gG (hJ s)).size:Int)>4096)||decide (((gG (iF s)).size:Int)>4096))=true):bZ s=false:=by
 unfold bZ;rw[Bool.eq_false_iff];simp only[ne_eq,Xak,decide_eq_true_eq];rintro⟨⟨⟨⟨h1,A⟩,F⟩,I⟩,_⟩;rw[h1,Lg A]at E
 grind
theorem Cu{s:ByteArray}(E:(!fN (hJ s)||decide (((gG (hJ s)).size:Int)>4096)||decide (((gG (iF s)).size:Int)>4096))=false)(A:eQ (iF s)=true):
 (fN (hJ s)&&eQ (iF s)&&decide ((gG (hJ s)).size<=4096)&&decide ((iF s).size<=4096))=true/\fN (hJ s)=true/\(gG (hJ s)).size<=4096/\(iF s).size<=4096:=by grind[Lg]
def xA(s:ByteArray)(h:s.size<=1048576):PC prog 150 [str s] (boo (bZ s)):=by
 have hn:=DM s;have hd:=Oo s;have h1:(1:Nat)<=1048576:=by omega
 have O:=F2 (hJ s);have T:=F2 (iF s);refine pcd func150 rfl rfl ?_;simp only[go_sem];refine aL (GC s h) ?_;simp only[go_sem];refine aL (aqV (hJ s) (by omega)) ?_;simp only[go_sem];refine⟨_,fun _=>(To (hJ s)).q rfl,?_⟩;simp only[go_sem];refine⟨_,fun _=>(To (iF s)).q rfl,?_⟩;simp only[go_sem];apply aA <;> intro hb
 ·simp only[go_sem]
  grind[cB,K9]
 simp only[go_sem];refine aL (TC s) ?_;simp only[go_sem];apply aA <;> intro hs
 ·simp only[go_sem]
  grind[cB,Pc,YH,bZ,Cu]
 have h0:mV s=true:=by grind
 simp only[go_sem];refine aL (FW (iF s) (by omega)) ?_;simp only[go_sem,qK,Ha];apply aA <;> intro E
 ·simp only[go_sem];refine cB ?_;unfold bZ
  grind
 simp only[Xam,Xbw]at E;obtain⟨⟨⟨A,F⟩,X⟩,Y⟩:=E;obtain⟨f1,Z,J,I⟩:=Cu hb A;simp only[go_sem];refine aL (CB (hJ s)) ?_;simp only[go_sem];refine aL (aqQ (gG (hJ s)) (iF s) (by omega) (by omega)) ?_;simp only[go_sem,Ha];refine cB ?_;have fd:=HY Z;have v0:gU (iF s)≠0:=fun e=>pP.1 F (by grind[kU])
 have U:gU (iF s)<cN:=(E8 A).1 I;have e:Ce (gG (hJ s)) (iF s)=(dec (Nat.gcd (gU (gG (hJ s))) (gU (iF s))),0):=by unfold Ce;rw[if_pos (JS fd A J I),Bt (Nat.lt_of_le_of_lt (Nat.gcd_le_right _ (by omega)) U)]
 have ev:(jC (hJ s)).natAbs=gU (gG (hJ s)):=by grind[jC]
 rw[e];unfold bZ;rw[f1,h0,F,X,Y,ev];simp only[beq_self_eq_true,Xay,Xcc,Xbx,Xbl];rw[Xaz,nG,tE,Xau]
def Es(n:Int)(h0: -9223372036854775808<=n)(h1:n<=9223372036854775807):PC prog 100 [int n] (str (zed n)):=by refine pcd func100 rfl rfl ?_;simp only[go_sem];refine aL (aBY n h0 h1) ?_;simp only[go_sem];exact .refl _
def abJ(s:ByteArray)(h:s.size<=1048576):PC prog 96 [str s] (int (yY s)):=by
 have J:=DM s;refine pcd func96 rfl rfl ?_;simp only[go_sem];refine aL (xA s h) ?_;simp only[go_sem];apply aA <;> intro F
 ·simp only[go_sem];simp_all[cI,yY]
 ·have A:bZ s=true:=by grind
  simp only[go_sem];refine aL (GC s h) ?_;simp only[go_sem];refine aL (ayW (hJ s) (by omega)) ?_;simp only[go_sem];refine cI ?_;obtain⟨x,rfl,E,I,_⟩:=fH A;simp_all[yY,CL,xF,cV,gY]
def Q8(a b:ByteArray):List AV:=if(bZ a&&bZ b)=true then[str (hJ a),str (iF a),str (hJ b),str (iF b),int 0]else[str emp,str emp,str emp,str emp,int 3]
def Y8(a b:ByteArray)(E:a.size<=1048576)(A:b.size<=1048576):PC prog 157 [str a,str b] (.tup (Q8 a b)):=by
 refine pcd func157 rfl rfl ?_;simp only[go_sem];refine aL (xA a E) ?_;simp only[go_sem];refine⟨_,fun _=>(xA b A).q rfl,?_⟩;simp only[go_sem];apply aA <;> intro F
 ·simp only[go_sem];rw[show Q8 a b=[str emp,str emp,str emp,str emp,int 3]from if_neg (by grind)];exact .refl _
 ·simp only[go_sem];refine aL (GC a E) ?_;simp only[go_sem];refine aL (GC b A) ?_;simp only[go_sem];rw[show Q8 a b=_ from if_pos (by grind)];exact .refl _
def ajZ(n:Int)(d:Nat)(I:d≠0)(J:n.natAbs<cN)(A:d<cN):PC prog 279 [str (zed n),str (dec d)] (.tup [str (qU (mkRat n d)),int 0]):=by
 have O:=NA (n:=n) I A;have Y:=aaP (n:=n) I;have T:∀{m:Int},m.natAbs<cN->(zed m).size<=1048576:=fun {m} hm=>by grind[tJ,gG,eA,mY]
 have F:=F0 I J A;have U:nE (zed n) (dec (Nat.gcd n.natAbs d))=(zed (mkRat n d).num,zed (n.fmod (Nat.gcd n.natAbs d:Nat)),0):=by unfold nE;rw[<-dH,if_pos (sC J (by omega)),cV,cV,if_neg (by omega),Zw I]
 have X:nE (dec d) (dec (Nat.gcd n.natAbs d))=(dec (mkRat n d).den,zed ((d:Int).fmod (Nat.gcd n.natAbs d:Nat)),0):=by unfold nE;rw[<-dH,<-dH,if_pos (sC (by omega) (by omega)),cV,cV,if_neg (by omega),ZH I,dH]
 refine pcd func279 rfl rfl ?_;simp only[go_sem];refine aL (CB (zed n)) ?_;rw[lK];simp only[go_sem];refine aL (aqQ (dec n.natAbs) (dec d) (dV J) (dV A)) ?_;rw[show Ce (dec n.natAbs) (dec d)=(dec (Nat.gcd n.natAbs d),0)by simp_all[Ce,AS,eG,Bt]];simp only[go_sem];refine aA (fun E=>by cases E) (fun _=>?_);simp only[go_sem];refine aL (LK (zed n) (dec (Nat.gcd n.natAbs d)) (T J) (dV O)) ?_;rw[U];simp only[go_sem];refine aA (fun E=>by cases E) (fun _=>?_);simp only[go_sem];refine aL (LK (dec d) (dec (Nat.gcd n.natAbs d)) (dV A) (dV O)) ?_;rw[X];simp only[go_sem];refine aA (fun E=>by cases E) (fun _=>?_);simp only[go_sem,Ha];generalize mkRat n d=x at *;apply aA <;> intro E
 ·have h1:x.den=1:=tE.1 (nG.1 E);simp only[go_sem];rw[show qU x=zed x.num from if_pos h1];exact .refl _
 ·have h1:x.den≠1:=fun e=>pP.1 E (by rw[e])
  simp only[go_sem];have z1:=T F.1;have z2:=dV F.2;have Z:(zed x.num++slB).size=(zed x.num).size+1:=by rw[ByteArray.size_append];rfl
  refine⟨by simp_all;omega,?_⟩;refine⟨by simp_all;omega,?_⟩;rw[show qU x=zed x.num++slB++dec x.den from if_neg h1];exact .refl _
end Nu
namespace Nu
open Go.Proofs.Tryz
open Go.Nu
abbrev Pr:=ByteArray×ByteArray
def Er(p:Pr):List AV:=[str p.1,str p.2]
def Ok(p:Pr):(Er p).length=2:=(rfl)
def ayP(p:Pr):(Er p).getD 0 .any=str p.1:=(rfl)
def atK(p:Pr):(Er p).getD 1 .any=str p.2:=(rfl)
def afJ(p:Pr):(Er p).take 2=Er p:=(rfl)
attribute [go_sem] Ok ayP atK afJ
def prA(p:Pr):List AV:=[str (zR p.1 p.2).1]
def prE:List Pr->Int
 | []=>0
 | p::l=>if(zR p.1 p.2).2≠0 then(zR p.1 p.2).2 else prE l
def Tg:∀{l:List Pr},(∀p∈l,(zR p.1 p.2).2=0)->prE l=0
 | [],_=>rfl
 | p::l,h=>by unfold prE;rw[if_neg (by simp[h p (by simp)])];exact Tg fun q A=>h q (by simp[A])
def asO:∀{l:List Pr} {k:Nat} {p:Pr},l[k]?=some p->(∀q∈l.take k,(zR q.1 q.2).2=0)->(zR p.1 p.2).2≠0->prE l=(zR p.1 p.2).2
 | [],k,p,h,_,_=>by grind
 | a::l,0,p,h,_,h2=>by simp_all[prE]
 | a::l,k+1,p,h,h1,h2=>by unfold prE;rw[if_neg (by grind)];exact asO (k:=k) (by simpa using h) (fun q A=>h1 q (by simp[A])) h2
def avK(l:List (List AV)):Row:=⟨9,1,l⟩
def L4(l:List Pr)(hl:l.length<=1048576)(hs:∀p∈l,p.1.size<=1048576/\p.2.size<=1048576):PC prog 278 [.sl (l.map Er)] (.tup [.sl (if prE l=0 then l.map prA else[]),int (prE l)]):=by
 refine pcb (fun t=>t == 6||t == 11) func278 rfl rfl ?_;simp only[go_sem];refine⟨⟨⟨by omega,by omega⟩,by omega⟩,?_⟩;refine aH fun j hj=>?_
 simp only[go_sem];refine⟨fun ρ H=>∃(k j:Nat),k<=l.length/\ρ 12=.sl (l.map Er)/\ρ 13=int l.length/\ρ 4=.os j/\ρ 14=int k/\H j=some (avK ((l.take k).map prA))/\∀p∈l.take k,(zR p.1 p.2).2=0,fun ρ _=>l.length-aT (ρ 14),
  ⟨0,j,Xaa _,rfl,by simp only[go_sem],rfl,by simp only[go_sem];rfl,aB _ _ _,by simp⟩,?_⟩
 clear hj j;rintro ρ H ⟨k,j,hk,Y,T,h4,I,U,hz⟩;simp only[go_sem,T,I];refine aA (fun A=>?_) (fun J=>?_)
 ·have A:=ltB A;obtain⟨p,E⟩:=aK A;have b1:=inB A;have Z:=hs p (Xab E);simp only[go_sem,Y,I,aC E,b1];refine aH fun i hi=>?_
  have X:j≠i:=aV U hi;simp only[go_sem,];refine aG (aB _ _ _) (by simp[Ok]) ?_;generalize hG:aI (aI _ i _) i _=HG;have Ri:HG i=some (⟨316,2,[Er p]⟩:Row):=by rw[<-hG,aB];rfl
  have aa:HG j=some (avK ((l.take k).map prA)):=by rw[<-hG,aF _ _ _ _ X,aF _ _ _ _ X];exact U
  clear hG hi U;simp only[go_sem,Ri]
  repeat (refine⟨by first|decide|omega,?_⟩)
  refine aL (aBi p.1 p.2 Z.1 Z.2) ?_;simp only[go_sem,];refine aA (fun F=>?_) (fun F=>?_)
  ·have F:(zR p.1 p.2).2≠0:=by simpa using F
   simp only[go_sem];have e:prE l=(zR p.1 p.2).2:=asO E hz F;rw[e,if_neg F];exact .refl _
  ·have F:(zR p.1 p.2).2=0:=by simpa using F
   simp only[go_sem,h4];refine aU aa ⟨rfl,rfl⟩ ⟨rfl,trivial⟩ (by simp only[avK,Xac,Xbj,Xag,List.length_nil];omega) (fun j' ab=>?_);simp only[go_sem,Y,T,I,aQ k];refine⟨⟨k+1,j',A,rfl,rfl,?_,?_⟩,by simp only[aJ];omega⟩
   ·rw[aB];simp only[avK,aY E,Xaq,Xav,Xbn];rfl
   ·intro q O;rw[aY E]at O;rcases List.mem_append.1 O with O|O
    ·exact hz q O
    ·rw[Xbc.1 O];exact F
 ·have J:=geB hk J;subst J;rw[Xad]at U hz;simp only[go_sem,h4];have e:prE l=0:=Tg hz;rw[if_pos e,e];exact .tup _ _ (.cons _ _ _ _ (.row _ _ _ U (ConvE.refl _)) (ConvL.refl _))
def uN{m n:Int}(E:m.natAbs<cN)(A:n.natAbs<cN):zR (zed m) (zed n)=szZ (m*n):=by unfold zR;rw[if_pos (sC E A),cV,cV]
def RX{m n:Int}(E:m.natAbs<cN)(A:n.natAbs<cN):Fg (zed m) (zed n)=szZ (m+n):=by unfold Fg;rw[if_pos (sC E A),cV,cV]
def zZ{n:Int}(h:qD n=false):szZ n=(zed n,0):=if_pos (iU.1 h)
def tY{n:Int}(h:qD n=true):szZ n=(emp,4):=if_neg (fun A=>by rw[iU.2 A]at h;cases h)
theorem dP{m:Int}(A:m.natAbs<cN):(zed m).size<=1048576:=by
 have:=(tJ m).2 A;unfold gG at this;split at this
 ·rw[<-eA,mY,List.length_drop]at this;rw[<-eA];omega
 ·omega
def IZ{a b c d:Int}(E:a.natAbs<cN)(I:b.natAbs<cN)(A:c.natAbs<cN)(J:d.natAbs<cN):
  PC prog 278 [.sl [[str (zed a),str (zed b)],[str (zed c),str (zed d)]]] (if(qD (a*b)||qD (c*d))=true then .tup [.sl [],int 4]else .tup [.sl [[str (zed (a*b))],[str (zed (c*d))]],int 0]):=by
 have:=L4 [(zed a,zed b),(zed c,zed d)] (by simp) (by simp[dP,E,I,A,J]);simp only[prE,uN E I,uN A J,Xav,Xbn,prA,Er]at this;cases h1:qD (a*b)with
 | true=>rw[tY h1]at this;simpa using this
 | false=>
  rw[zZ h1]at this;cases F:qD (c*d)with
  | true=>rw[tY F]at this;simpa using this
  | false=>rw[zZ F]at this;simpa using this
def SX{a b:Int}(E:a.natAbs<cN)(A:b.natAbs<cN):
  PC prog 278 [.sl [[str (zed a),str (zed b)]]] (if qD (a*b)=true then .tup [.sl [],int 4]else .tup [.sl [[str (zed (a*b))]],int 0]):=by
 have:=L4 [(zed a,zed b)] (by simp) (by simp[dP,E,A]);simp only[prE,uN E A,Xav,Xbn,prA,Er]at this;cases h1:qD (a*b)with
 | true=>rw[tY h1]at this;simpa using this
 | false=>rw[zZ h1]at this;simpa using this
def fv(g:FuncId):AV:=.v (.func (.func g) #[] #[])
def amB(op:Int->Int->Int)(x y:Rat):ByteArray×Int:=
 if(qD (x.num*y.den)||qD (y.num*x.den)||qD (op (x.num*y.den) (y.num*x.den))||qD (x.den*y.den))=true then(emp,4)else(qU (mkRat (op (x.num*y.den) (y.num*x.den)) (x.den*y.den)),0)
def NP(op:Int->Int->Int)(a b:ByteArray):ByteArray×Int:=if(bZ a&&bZ b)=true then amB op (FE a) (FE b)else(emp,3)
def afU(g:FuncId)(op:Int->Int->Int)(aa:aE prog g=true)(hg:∀m n:Int,m.natAbs<cN->n.natAbs<cN->PC prog g [str (zed m),str (zed n)] (.tup [str (szZ (op m n)).1,int (szZ (op m n)).2]))
  (a b:ByteArray) (ha:a.size<=1048576) (E:b.size<=1048576):PC prog 280 [str a,str b,fv g] (.tup [str (NP op a b).1,int (NP op a b).2]):=by
 have A:=Y8 a b ha E;by_cases O:(bZ a&&bZ b)=true;rotate_left
 ·rw[show Q8 a b=_ from if_neg O]at A;rw[show NP op a b=(emp,3)from if_neg O];unfold fv;refine pcd func280 rfl rfl ?_;simp only[go_sem];refine aL A ?_;simp only[go_sem];refine aA (fun _=>?_) (fun E=>by cases E);simp only[go_sem];exact .refl _
 rw[show Q8 a b=_ from if_pos O]at A;rw[show NP op a b=_ from if_pos O];simp only[Xak]at O;obtain⟨x,rfl,Z,e1,e2⟩:=fH O.1;obtain⟨y,rfl,hy,e3,e4⟩:=fH O.2;rw[e1,e2,e3,e4]at A;rw[gY,gY];have xd:((x.den:Int)).natAbs<cN:=by rw[Xbm];exact Z.2
 have yd:((y.den:Int)).natAbs<cN:=by rw[Xbm];exact hy.2
 have U:=IZ Z.1 yd hy.1 xd;have X:=SX xd yd;rw[dH,dH]at U X;unfold fv;refine pcd func280 rfl rfl ?_;simp only[go_sem];refine aL A ?_;simp only[go_sem];refine aA (fun E=>by cases E) (fun _=>?_);simp only[go_sem];unfold amB;cases T:(qD (x.num*y.den)||qD (y.num*x.den))with
 | true=>rw[T,if_pos rfl]at U;refine aL U ?_;simp only[go_sem];refine aA (fun _=>?_) (fun E=>by cases E);exact .refl _
 | false=>
  rw[T]at U;simp only[Xbe,if_false]at U;refine aL U ?_;simp only[go_sem];refine aA (fun E=>by cases E) (fun _=>?_);simp only[go_sem];have F:=T;simp only[Xam]at F;have Y:=hg _ _ (iU.1 F.1) (iU.1 F.2);refine jD (by rfl) (by kernel_rfl) ?_;simp only[go_sem,Xag,List.length_nil]
  repeat (refine⟨by first|decide|omega,?_⟩)
  refine⟨_,Y.q rfl,?_⟩;simp only[go_sem];generalize hN:op (x.num*y.den) (y.num*x.den)=N;cases J:qD N with
  | true=>rw[tY J];refine aA (fun _=>?_) (fun E=>by cases E);simp only[go_sem,Bool.true_or];exact .refl _
  | false=>
   rw[zZ J];refine aA (fun E=>by cases E) (fun _=>?_);simp only[go_sem];cases I:qD ((x.den:Int)*y.den)with
   | true=>rw[I,if_pos rfl]at X;refine aL X ?_;simp only[go_sem];refine aA (fun _=>?_) (fun E=>by cases E);simp only[go_sem,];exact .refl _
   | false=>
    rw[I]at X;simp only[Xbe,if_false]at X;refine aL X ?_;simp only[go_sem];refine aA (fun E=>by cases E) (fun _=>?_);simp only[go_sem,Xag,List.length_nil]
    repeat (refine⟨by first|decide|omega,?_⟩)
    have hD:x.den*y.den<cN:=by rw[<-JC];exact iU.1 I
    have:=ajZ N (x.den*y.den) (Hu x y) (iU.1 J) hD;rw[<-dH,Int.natCast_mul]at this;refine aL this ?_;simp only[go_sem];exact .refl _
def adD(a b:ByteArray):NP (·+·) a b=Az a b:=by unfold NP Az amB rM;simp only[X5]
def CY(a b:ByteArray)(F:a.size<=1048576)(I:b.size<=1048576):PC prog 216 [str a,str b] (.tup [str (Az a b).1,int (Az a b).2]):=by have:=afU 156 (·+·) (by kernel_rfl) (fun m n A E=>by rw[<-RX A E];exact asU _ _ (dP A) (dP E)) a b F I;rw[adD]at this;unfold fv at this;refine pcd func216 rfl rfl ?_;simp only[go_sem];refine aL this ?_;simp only[go_sem];exact .refl _
def aAl(a b:ByteArray)(X:a.size<=1048576)(F:b.size<=1048576):PC prog 215 [str a,str b] (.tup [str (yE a b).1,int (yE a b).2]):=by
 have A:=Y8 a b X F;by_cases I:(bZ a&&bZ b)=true;rotate_left
 ·rw[show Q8 a b=_ from if_neg I]at A;rw[show yE a b=(emp,3)from if_neg I];refine pcd func215 rfl rfl ?_;simp only[go_sem];refine aL A ?_;simp only[go_sem];refine aA (fun _=>?_) (fun F=>by cases F);simp only[go_sem];exact .refl _
 rw[show Q8 a b=_ from if_pos I]at A;rw[show yE a b=_ from if_pos I];simp only[Xak]at I;obtain⟨x,rfl,O,Z,U⟩:=fH I.1;obtain⟨y,rfl,T,e3,e4⟩:=fH I.2;rw[Z,U,e3,e4]at A;rw[gY,gY];have Y:((x.den:Int)).natAbs<cN:=by rw[Xbm];exact O.2
 have yd:((y.den:Int)).natAbs<cN:=by rw[Xbm];exact T.2
 have J:=IZ O.1 T.1 Y yd;rw[dH,dH]at J;refine pcd func215 rfl rfl ?_;simp only[go_sem];refine aL A ?_;simp only[go_sem];refine aA (fun F=>by cases F) (fun _=>?_);simp only[go_sem];unfold Ip;cases E:(qD (x.num*y.num)||qD ((x.den:Int)*y.den))with
 | true=>rw[E,if_pos rfl]at J;refine aL J ?_;simp only[go_sem];refine aA (fun _=>?_) (fun F=>by cases F);exact .refl _
 | false=>
  rw[E]at J;simp only[Xbe,if_false]at J;refine aL J ?_;simp only[go_sem];refine aA (fun F=>by cases F) (fun _=>?_);simp only[go_sem];simp only[Xam]at E;have hD:x.den*y.den<cN:=by rw[<-JC];exact iU.1 E.2
  have:=ajZ (x.num*y.num) (x.den*y.den) (Hu x y) (iU.1 E.1) hD;rw[<-dH,Int.natCast_mul]at this;refine jD (by rfl) (by kernel_rfl) ?_;simp only[go_sem,Xag,List.length_nil]
  repeat (refine⟨by first|decide|omega,?_⟩)
  refine⟨_,this.q rfl,?_⟩;simp only[go_sem];rw[<-YI];exact .refl _
def F3{p q:Int}(F:0<q):(p.fdiv q).natAbs<=p.natAbs:=by
 obtain⟨e,h0,h1⟩:=sI (p:=p) F;generalize p.fdiv q=d at *;generalize p.fmod q=m at *;rcases Int.lt_or_le d 0 with A|A
 ·have E:(d+1)*q<=(d+1)*1:=Int.mul_le_mul_of_nonpos_left (by omega) (by omega)
  grind
 ·have E:d*1<=d*q:=Int.mul_le_mul_of_nonneg_left (by omega) A;omega
theorem AR{p q:Int}(E:p.natAbs<cN)(A:q.natAbs<cN)(h:0<q):nE (zed p) (zed q)=(zed (p.fdiv q),zed (p.fmod q),0):=by unfold nE;rw[if_pos (sC E A),cV,cV,if_neg (by omega)]
def Sx(i j:Int):TW (zed i) (zed j)=iH i j:=by simp[TW,xF,cV]
def Kf(i j:Int):iH i j= -1\/iH i j=0\/iH i j=1:=by grind[iH]
def aAk:AV->Nat
 | .v (.string s)=>(jC s).natAbs
 | _=>0
theorem RM(n:Int):aAk (str (zed n))=n.natAbs:=by show(jC (zed n)).natAbs=_;rw[cV]
def AG(n:Int):(bl (zed n) == [48])=decide (n=0):=by rw[qK,<-show zed ((0:Nat):Int)=dec 0 from dH 0,Xaz,nG,akL,decide_eq_true_iff];rfl
def azQ{a b:Int}(E:a=1\/a= -1)(A:b= -1\/b=0\/b=1):IntKind.i64.wrap (a*b)=a*b:=by rcases E with rfl|rfl <;> rcases A with rfl|rfl|rfl <;> rfl
def KG{a:Int}(A:a=1\/a= -1):IntKind.i64.wrap (0-a)= -a:=by rcases A with rfl|rfl <;> rfl
def xJ(a b:ByteArray)(ha:a.size<=1048576)(X:b.size<=1048576):PC prog 99 [str a,str b] (int (zX a b)):=by
 have A:=Y8 a b ha X;by_cases O:(bZ a&&bZ b)=true;rotate_left
 ·rw[show Q8 a b=_ from if_neg O]at A;rw[show zX a b=0 from if_neg O];refine pcd func99 rfl rfl ?_;simp only[go_sem];refine aL A ?_;simp only[go_sem];refine aA (fun _=>?_) (fun X=>by cases X);simp only[go_sem];exact .refl _
 rw[show Q8 a b=_ from if_pos O]at A;rw[show zX a b=_ from if_pos O];simp only[Xak]at O;obtain⟨x,rfl,hx,e1,e2⟩:=fH O.1;obtain⟨y,rfl,hy,e3,e4⟩:=fH O.2;rw[e1,e2,e3,e4]at A;rw[gY,gY];have xd:((x.den:Int)).natAbs<cN:=by rw[Xbm];exact hx.2
 have yd:((y.den:Int)).natAbs<cN:=by rw[Xbm];exact hy.2
 have x0:=x.den_nz;have y0:=y.den_nz;rw[<-dH,<-dH]at A;refine pcd func99 rfl rfl ?_;simp only[go_sem];refine aL A ?_;simp only[go_sem];refine aA (fun X=>by cases X) (fun _=>?_);simp only[go_sem];refine⟨fun ρ _=>∃(p q r s g:Int),ρ 5=str (zed p)/\ρ 6=str (zed q)/\ρ 7=str (zed r)/\ρ 8=str (zed s)/\ρ 10=int g/\(g=1\/g= -1)/\0<q/\0<s/\p.natAbs<cN/\q.natAbs<cN/\r.natAbs<cN/\s.natAbs<cN/\VC x y=g*Jh p q r s,fun ρ _=>aAk (ρ 6),
  ⟨x.num,x.den,y.num,y.den,1,rfl,rfl,rfl,rfl,rfl,.inl rfl,by omega,by omega,hx.1,xd,hy.1,yd,by rw[Int.one_mul,P3]⟩,?_⟩
 rintro ρ H ⟨p,q,r,s,g,h5,h6,h7,h8,F,hg,T,U,bp,bq,br,bs,E⟩;simp only[go_sem,h5,h6,];refine aL (LK (zed p) (zed q) (dP bp) (dP bq)) ?_;rw[AR bp bq T];simp only[go_sem,h7,h8];refine aL (LK (zed r) (zed s) (dP br) (dP bs)) ?_;rw[AR br bs U];simp only[go_sem,];have d1:=F3 (p:=p) T;have d2:=F3 (p:=r) U;refine aL (YD (zed (p.fdiv q)) (zed (r.fdiv s)) (dP (by omega)) (dP (by omega))) ?_;rw[Sx];simp only[go_sem,];obtain⟨_,m0,m1⟩:=sI (p:=p) T;obtain⟨_,n0,n1⟩:=sI (p:=r) U;have c3:=Kf (p.fdiv q) (r.fdiv s);refine aA (fun Z=>?_) (fun Z=>?_)
 ·have Z:iH (p.fdiv q) (r.fdiv s)≠0:=by grind
  simp only[go_sem,F,azQ hg c3]
  grind[cI,KE,vT]
 have Z:p.fdiv q=r.fdiv s:=GE.1 (by grind);have hX:=NK T U Z;generalize p.fmod q=m at *;generalize r.fmod s=n at *;simp only[go_sem,AG];refine aA (fun Y=>?_) (fun Y=>?_)
 ·have Y:m=0/\n=0:=by grind
  simp only[go_sem];refine cI ?_;rw[E,hX,Y.1,Y.2,Int.zero_mul,Int.zero_mul,vT rfl,Int.mul_zero]
 simp only[go_sem,AG];refine aA (fun J=>?_) (fun J=>?_)
 ·have J:m=0:=of_decide_eq_true J;have I:0<n:=by grind
  simp only[go_sem,F,KG hg];refine cI ?_;rw[E,hX,J,Int.zero_mul,mB (Int.mul_pos I T)];omega
 have J:0<m:=by grind
 simp only[go_sem,AG];refine aA (fun I=>?_) (fun I=>?_)
 ·have I:n=0:=of_decide_eq_true I;simp only[go_sem,F];refine cI ?_;rw[E,hX,I,Int.zero_mul,lZ (Int.mul_pos J U)];omega
 have I:0<n:=by grind
 simp only[go_sem,h6,h8,F,KG hg];refine⟨⟨q,m,s,n,-g,rfl,rfl,rfl,rfl,rfl,by omega,J,I,bq,by omega,bs,by omega,?_⟩,?_⟩
 all_goals grind[Pt,RM]
end Nu
end Go.Proofs.YtkfhgjihlbilpaaGreatDoor
section
namespace Go.Sb
def pop:Nat->Nat->Nat
 | 0,_=>0
 | w+1,s=>s%2+pop w (s/2)
end Go.Sb
end
section
namespace Go.Proofs.YtkfhgjihlbilpaaGreatDoor.Nu
open Go.Proofs.Tryz
open Go.Aw Go.Aw.D Go.Proofs Ty Go.Nu
def OZ{P:Program}{G:_}{t:TypeId}{a b:ByteArray}{k:AV->Prop}:kV P G .lss t (.v (.string a)) (.v (.string b)) k=k (.v (.bool (Op.bytesLess a.toList b.toList))):=(rfl)
attribute [go_sem ↓] OZ
attribute [go_sem] OZ
def aA5(s:ByteArray):s.toList=bl s:=ByteArray.toList_eq s
def Us:∀{l r:List UInt8},l.length=r.length->Op.bytesLess l r=decide (Lib.compareBytes l r= -1)
 | [],[],_=>rfl
 | [],_::_,h=>by rfl
 | _::_,[],h=>by rfl
 | a::l,b::r,h=>by
  simp only[Xag,Nat.add_right_cancel_iff]at h;have ih:=Us h;rw[Op.bytesLess,Lib.compareBytes,ih];by_cases h1:a<b
  ·simp[h1]
  ·by_cases A:b<a
   ·have : (a == b) = false := by rw[beq_eq_false_iff_ne];rintro rfl;exact absurd A h1
    simp[h1,A,this]
   ·have : a = b := by rw[UInt8.lt_iff_toNat_lt]at h1 A;exact UInt8.toNat_inj.1 (by omega)
    subst this;simp
theorem alO{m n:Nat}(h:(dec m).size=(dec n).size):Op.bytesLess (bl (dec m)) (bl (dec n))=decide (m<n):=by
 have A:=jY m;have E:=jY n;rw[kS,kS,Us (by omega),HR (uE m) (uE n) (by omega),uH,uH,decide_eq_decide]
 grind[iH]
def C5(s:ByteArray)(h:s.size<=4611686018427387904):PC prog 174 [str s] (boo (eQ s)):=by
 have U:=eA s;refine pcd func174 rfl rfl ?_;simp only[go_sem];refine⟨fun h=>⟨by omega,by grind⟩,?_⟩;have F:((s.size:Int) == 0||decide ((s.size:Int)>1)&&((bl s).getD 0 0).toNat == (48:Int))= !(bl s != []&&((bl s).length == 1||(bl s).getD 0 0 != 48)):=by
  rw[<-U];cases bl s with
  | nil=>rfl
  | cons c r=>
   have Y:(((c.toNat:Nat):Int) == 48)=(c == 48):=by
    rw[Xaz,Xau,Xau,<-UInt8.toNat_inj]
    grind
   grind
 rw[F];refine aA (fun T=>?_) (fun T=>?_)
 ·simp only[go_sem]
  grind[cB,eQ,fS]
 rw[Xbw]at T;simp only[go_sem];refine⟨fun ρ _=>∃k:Nat,k<=(bl s).length/\ρ 0=str s/\ρ 3=int k/\∀c∈(bl s).take k,isD c=true,fun ρ _=>(bl s).length-aT (ρ 3),⟨0,Xaa _,rfl,rfl,by simp⟩,?_⟩;rintro ρ H ⟨k,Z,h0,I,O⟩;simp only[go_sem,h0,I];refine aA (fun A=>?_) (fun E=>?_)
 ·have A:k<(bl s).length:=by grind
  obtain⟨c,F⟩:=aK A;have X:=vP F;simp only[go_sem,h0,I,X,QZ];refine⟨⟨by omega,by omega⟩,fun _=>⟨by omega,by omega⟩,aA (fun J=>?_) (fun J=>?_)⟩
  ·simp only[go_sem];refine cB ?_;unfold eQ fS
   grind
  ·simp only[go_sem,h0,I,aQ k];exact⟨⟨k+1,A,rfl,dW F (by grind) O⟩,by grind[aJ]⟩
 ·have E:k=(bl s).length:=by grind
  subst E;rw[Xad]at O;simp only[go_sem]
  grind[cB,eQ,fS]
def alK(a b:ByteArray):Int:=if(eQ a&&eQ b)=true then iH (gU a) (gU b)else 0
def Xh(a b:ByteArray)(X:a.size<=1048576)(E:b.size<=1048576):PC prog 299 [str a,str b] (int (alK a b)):=by
 refine pcd func299 rfl rfl ?_;simp only[go_sem];refine aL (C5 a (by omega)) ?_;simp only[go_sem];refine⟨_,fun _=>(C5 b (by omega)).q rfl,?_⟩;simp only[go_sem];refine aA (fun A=>?_) (fun A=>?_)
 ·simp only[go_sem];refine cI ?_;unfold alK;split
  ·rename_i F;simp only[Xak]at F;rw[F.1,F.2]at A;have:a=b:=nG.1 (by grind[eqB])
   grind[vT]
  ·rfl
 have A:eQ a=true/\eQ b=true/\eqB a b=false:=by simp only[Xam,Xbw]at A;exact⟨A.1.1,A.1.2,A.2⟩
 obtain⟨h1,U,O⟩:=A;rw[show alK a b=iH (gU a) (gU b)from if_pos (by grind)];rw[<-kU h1,<-kU U,pP]at *;generalize gU a=m at *;generalize gU b=n at *;have J:m≠n:=fun e=>O (by rw[e])
 have Y:=jY m;have Z:=jY n;have I:∀{p q:Nat},(Lib.decDigits p).length<(Lib.decDigits q).length->p<q:=fun {p q} h=>by
  have h1:=(lP (n:=p) (k:=(Lib.decDigits p).length) (mX p)).1 (Xae _)
  grind[Xbd,lP]
 simp only[go_sem,aA5];have T:(decide (((dec m).size:Int)<(dec n).size)||((dec m).size:Int) == (dec n).size&&Op.bytesLess (bl (dec m)) (bl (dec n)))=decide (m<n):=by grind[alO]
 rw[T];refine aA (fun E=>?_) (fun E=>?_)
 ·have:=of_decide_eq_true E;simp only[go_sem]
  grind[cI,eG,mB]
 ·have:=of_decide_eq_false E;simp only[go_sem]
  grind[cI,eG,lZ]
def Sj(a b:ByteArray)(J:a.size<=1048576)(O:b.size<=1048576):PC prog 236 [str a,str b] (int (kY a b)):=by
 refine pcd func236 rfl rfl ?_;simp only[go_sem];refine aL (C5 a (by omega)) ?_;simp only[go_sem];refine⟨_,fun _=>(C5 b (by omega)).q rfl,?_⟩;simp only[go_sem];unfold kY;refine aA (fun E=>?_) (fun E=>?_)
 ·simp only[go_sem];simp_all[cI]
 ·simp only[go_sem];have F:decide ((a.size:Int)>4096)=decide (a.size>4096):=by grind
  have A:decide ((b.size:Int)>4096)=decide (b.size>4096):=by grind
  rw[if_neg (by grind),F,A];refine aA (fun I=>?_) (fun I=>?_)
  ·simp only[go_sem];simp_all[cI]
  ·simp only[go_sem];simp_all[cI]
def Fi(d:Nat)(E:d<10):PC prog 301 [int d] (str (dec d)):=by
 refine pcd func301 rfl rfl ?_;simp only[go_sem];have F:IntKind.i64.wrap ((d:Int)+1)=((d+1:Nat):Int):=mT (by omega);rw[F];refine⟨⟨by omega,by omega,by simp_all;omega⟩,?_⟩;refine cS (mQ ?_);rw[gW,kS,Lib.decDigits_one E];have A:∀e:Fin 10,(List.take (e.val+1) (bl ⟨#[48,49,50,51,52,53,54,55,56,57]⟩)).drop e.val=[UInt8.ofNat (48+e.val)]:=by decide
 exact A ⟨d,E⟩
theorem aB8{l:List UInt8}{i:Nat}(h:i<l.length):(dl l).getD i 0=(l.getD (l.length-1-i) 0).toNat-48:=by grind[dl]
def Su(s:ByteArray)(J:(bl s).all isD=true)(i:Nat)(h:s.size<=1048576)(T:i<=1048576):PC prog 344 [str s,int i] (int ((dl (bl s)).getD i 0:Nat)):=by
 have I:=eA s;refine pcd func344 rfl rfl ?_;simp only[go_sem];refine aA (fun F=>?_) (fun F=>?_)
 ·simp only[go_sem];simp_all[cI,Kq]
 have F:i<s.size:=by grind
 have O:IntKind.i64.wrap (IntKind.i64.wrap ((s.size:Int)-1)-(i:Int))=((s.size-1-i:Nat):Int):=by grind[aW]
 obtain⟨c,A⟩:=aK (l:=bl s) (k:=s.size-1-i) (by omega);have E:=oB.1 (Xap.1 J c (Xab A));simp only[go_sem,O,Xal,vP A,u8w E.1 (by omega)]
 grind[cI,aB8,aW]
def Ql(s:ByteArray)(h:s.size<=1048576)(h0:bl s≠[])(Y:(bl s).all isD=true):PC prog 298 [str s] (str (dec (gU s))):=by
 refine pcd func298 rfl rfl ?_;simp only[go_sem];refine⟨fun ρ _=>∃t:ByteArray,ρ 0=str t/\bl t≠[]/\(bl t).all isD=true/\gU t=gU s/\t.size<=1048576,fun ρ _=>match ρ 0 with| .v (.string t)=>t.size|_=>0,⟨s,rfl,h0,Y,rfl,h⟩,?_⟩;rintro ρ H ⟨t,F,T,E,A,X⟩;simp only[go_sem,F];have I:=eA t;refine⟨fun h=>⟨by omega,by grind⟩,aA (fun J=>?_) (fun J=>?_)⟩
 ·have J:t.size>1/\((bl t).getD 0 0).toNat=48:=by grind
  simp only[go_sem,F];have O:bl (t.extract 1 t.size)=(bl t).drop 1:=by grind[gW]
  have Z:(t.extract 1 t.size).size=t.size-1:=by simp
  refine⟨⟨by omega,by omega⟩,?_⟩;refine⟨⟨t.extract 1 t.size,rfl,?_,?_,?_,by omega⟩,by omega⟩
  ·intro e;have:=congrArg List.length e
   grind
  ·grind
  ·rw[<-A];unfold gU;rw[O];cases U:bl t with
   | nil=>rfl
   | cons c r=>grind[lC]
 ·simp only[go_sem,F];refine cS ?_;have hR:eQ t=true:=by
   unfold eQ fS;rw[E,Xbk];have:(bl t != [])=true:=by grind
   rw[this,Xay,Bool.or_eq_true,Xau,bne_iff_ne];by_cases h1:t.size>1
   ·refine .inr fun e=>?_
    simp_all;omega
   grind
  grind[kU]
end Go.Proofs.YtkfhgjihlbilpaaGreatDoor.Nu
end
section
namespace Go.Nu
open Go Go.Lib
theorem dP{m:Int}(A:m.natAbs<cN):(zed m).size<=4097:=by grind[tJ,gG,eA,mY]
theorem adZ{x:Rat}(h:vG x):(qU x).size<=8194:=by
 have h1:=dP h.1;have A:=(kW x.den).2 h.2;unfold qU;split
 ·omega
 ·rw[ByteArray.size_append,ByteArray.size_append];have:slB.size=1:=rfl;omega
def uS{s:ByteArray}(h:bZ s=true):s.size<=8194:=by grind[fH,adZ]
def E9{a b:ByteArray}(h:(Az a b).2=0):bZ (Az a b).1=true:=by
 unfold Az at h |-;split at h
 all_goals simp_all[V9,rA]
def J7{a b:ByteArray}(h:(yE a b).2=0):bZ (yE a b).1=true:=by
 unfold yE at h |-;split at h
 all_goals simp_all[Vx,rA]
def pR:List (Int×ByteArray)->ByteArray->ByteArray×Int
 | [],t=>(t,0)
 | p :: l, t => if (yE (zed p.1) p.2).2 ≠ 0 then (emp, (yE (zed p.1) p.2).2) else
     if(Az t (yE (zed p.1) p.2).1).2≠0 then(emp,(Az t (yE (zed p.1) p.2).1).2)else pR l (Az t (yE (zed p.1) p.2).1).1
def eV(ns:List Int)(xs:List ByteArray):ByteArray×Int:=
 if ns.length≠xs.length then(emp,2)else if xs.any (fun x=> !bZ x)=true then(emp,3)else pR (ns.zip xs) (dec 0)
def Lj:bZ (dec 0)=true:=by have:dec 0=qU 0:=(dH 0).symm.trans (if_pos (show(0:Rat).den=1 from rfl)).symm;rw[this];exact rA ⟨avL,ET (k:=1) (by decide) (by decide)⟩
end Go.Nu
end
section
namespace Go.Proofs.YtkfhgjihlbilpaaGreatDoor.Nu
open Go.Proofs.Tryz
open Go.Aw Go.Aw.D Go.Proofs Ty Go.Nu
def Uj{p q:Nat}(h:p<=q):(dec p).size<=(dec q).size:=by
 rw[jY,jY];rcases Xbd (Lib.decDigits q).length (Lib.decDigits p).length with h1|h1
 ·exfalso;have A:=(lP (n:=q) (k:=(Lib.decDigits q).length) (mX q)).1 (Xae _);have:=(lP (n:=p) (k:=(Lib.decDigits q).length) (mX q)).2 (by omega);omega
 omega
theorem akG{d:Nat}(A:d<10)(o:List Nat):Lib.decDigits d++txt o=txt (o++[d]):=by grind[Lib.decDigits_one,txt]
theorem DZ(n:Nat):(bl (dec n)).all isD=true:=by grind[kS,uE]
def akU(n:Nat):ofL 10 (dl (bl (dec n)))=n:=by rw[Y3,kS,uH]
def avH(m n:Nat)(h:n<=m)(hm:(dec m).size<=1048576):PC prog 300 [str (dec m),str (dec n)] (str (dec (m-n))):=by
 have X:=Uj h;have dm:=DZ m;have dn:=DZ n;have vm:=akU m;have vn:=akU n;have lm:=V2 dm;have ln:=V2 dn;have zm:=eA (dec m);have zn:=eA (dec n);have ab:0<(dec m).size:=by grind[jY,mX]
 have xl:(dl (bl (dec m))).length=(dec m).size:=by grind[Kq]
 have yl:(dl (bl (dec n))).length=(dec n).size:=by grind[Kq]
 refine pcd func300 rfl rfl ?_;simp only[go_sem];refine⟨fun ρ _=>∃(i c:Nat) (t:ByteArray) (o:List Nat),i<=(dec m).size/\ρ 0=str (dec m)/\ρ 1=str (dec n)/\ρ 5=str t/\ρ 6=int c/\ρ 7=int i/\bl t=txt o/\Lim 10 o/\o.length=i/\c<=1/\ofL 10 o+ofL 10 ((dl (bl (dec n))).take i)=ofL 10 ((dl (bl (dec m))).take i)+10^i*c,fun ρ _=>(dec m).size-aT (ρ 7),
  ⟨0,0,emp,[],Xaa _,rfl,rfl,rfl,rfl,rfl,rfl,by simp[Lim],rfl,by omega,by rfl⟩,?_⟩
 rintro ρ H ⟨i,c,t,o,hi,h0,h1,T,h6,F,ag,ho,aa,Y,hv⟩;have ht:t.size=i:=by grind[eA,txt]
 simp only[go_sem,h0,F];refine jI hi (fun Z=>?_) (fun ae=>?_)
 ·have J:(dl (bl (dec m))).getD i 0<10:=lm.getD (by omega) i;have O:(dl (bl (dec n))).getD i 0<10:=ln.getD (by omega) i;have ac:=Io (b:=10) J O Y;have I:=A9 (b:=10) J O Y;have U:=EZ (b:=10) (x:=dl (bl (dec m))) (y:=dl (bl (dec n))) (c':=if(dl (bl (dec m))).getD i 0<(dl (bl (dec n))).getD i 0+c then 1 else 0) (d:=if(dl (bl (dec m))).getD i 0<(dl (bl (dec n))).getD i 0+c then(dl (bl (dec m))).getD i 0+10-((dl (bl (dec n))).getD i 0+c)else(dl (bl (dec m))).getD i 0-((dl (bl (dec n))).getD i 0+c)) aa hv I.1;simp only[go_sem,h0,F];refine aL (Su (dec m) dm i (by omega) (by omega)) ?_;simp only[go_sem,h1,F];refine aL (Su (dec n) dn i (by omega) (by omega)) ?_;generalize (dl (bl (dec m))).getD i 0=a at *;generalize (dl (bl (dec n))).getD i 0=yi at *;have e1:IntKind.i64.wrap (IntKind.i64.wrap ((a:Int)-(yi:Int))-(c:Int))=(a:Int)-yi-c:=by grind[aW]
  simp only[go_sem,h6,e1];refine bO (fun A H'=>A 0=str (dec m)/\A 1=str (dec n)/\A 5=str t/\A 7=int i/\A 8=int (if a<yi+c then a+10-(yi+c)else a-(yi+c):Nat)/\A 6=int (if a<yi+c then 1 else 0:Nat)) ?_ fun K hK=>aA (fun E=>?_) (fun E=>?_)
  rotate_left
  ·have E:a<yi+c:=by grind
   have e2:IntKind.i64.wrap ((a:Int)-yi-c+10)=((a+10-(yi+c):Nat):Int):=by grind[aW]
   simp only[go_sem,e2];exact hK _ _ ⟨h0,h1,T,F,by simp only[go_sem,if_pos E],by simp only[go_sem,if_pos E];rfl⟩
  ·have E:¬a<yi+c:=by grind
   simp only[go_sem,];refine hK _ _ ⟨h0,h1,T,F,?_,by simp only[go_sem,if_neg E];rfl⟩;simp only[go_sem,if_neg E]
   grind
  rintro ρ H ⟨h0,h1,T,F,h8,h6⟩;simp only[go_sem,h8];generalize (if a<yi+c then a+10-(yi+c)else a-(yi+c))=d at *;refine aL (Fi d I.2) ?_;have af:(dec d).size=1:=by grind[jY,CQ]
  simp only[go_sem,h0,h1,T,h6,F,aQ i];refine⟨by simp_all;omega,?_⟩;exact⟨⟨i+1,_,_,_,Z,rfl,rfl,rfl,by grind[wJ,kS,akG],ho.snoc I.2,by grind,by omega,U⟩,by grind[aJ]⟩
 ·simp only[go_sem,T];obtain⟨_,hV⟩:=HE (b:=10) (y:=dl (bl (dec n))) (by decide) ho lm (by omega) (by omega) (by omega) Y (by grind);refine aL (Ql t (by omega) (fun e=>by grind[eA]) (by grind[axH])) ?_;simp only[go_sem]
  grind[cS,gU,anR]
def avX{s:ByteArray}{k:Nat}{c:UInt8}(h:(bl s)[k]?=some c):bl (s.extract k (k+1))=[c]:=by grind[gW,aY]
def akP(m n:Nat):alK (dec m) (dec n)=iH m n:=by grind[alK,oS,eG]
def Qf{m n:Nat}:decide (iH m n>=0)=decide (n<=m):=by
 unfold iH
 grind
def aoE(r:Nat){c:UInt8}(E:isD c=true)(s:ByteArray)(A:bl s=[c]):(bl (dec r++s)).all isD=true/\bl (dec r++s)≠[]/\gU (dec r++s)=10*r+(c.toNat-48):=by grind[wJ,DZ,gU,rI,kS,uH]
def akE{K M R:Nat}(E:M=10^K)(A:R<10*M):(dec R).size<=K+1:=by simp_all[jY,lP,Xbo,Nat.mul_comm]
def aBy:∃K,K=4096/\cN=10^K:=⟨aqO,rfl,by unfold cN;rfl⟩
def atR{R:Nat}(A:R<10*cN):(dec R).size<=4097:=by obtain⟨K,E,e⟩:=aBy;have:=akE e A;omega
def aAH:AV->Nat
 | .v (.string s)=>gU s
 | _=>0
theorem U0(n:Nat):aAH (str (dec n))=n:=by show gU (dec n)=n;exact eG n
def aBn(a b:ByteArray)(ha:a.size<=1048576)(hb:b.size<=1048576):PC prog 237 [str a,str b] (.tup [str (Fl a b).1,str (Fl a b).2.1,int (Fl a b).2.2]):=by
 refine pcd func237 rfl rfl ?_;simp only[go_sem];refine aL (Sj a b ha hb) ?_;simp only[go_sem];apply aA <;> intro h
 ·have h:kY a b≠0:=by grind
  simp only[go_sem];rw[show Fl a b=(emp,emp,kY a b)from if_neg h];exact .refl _
 have h:kY a b=0:=by grind
 obtain⟨m,n,rfl,rfl,hm,hn⟩:=sX h;rw[show Fl (dec m) (dec n)=if n=0 then(emp,emp,10)else(dec (m/n),dec (m%n),0)by simp_all[Fl,eG]];simp only[go_sem,qK];apply aA <;> intro h0
 ·have h0:n=0:=tE.1 (nG.1 h0);simp only[go_sem];rw[if_pos h0];exact .refl _
 have h0:n≠0:=fun e=>pP.1 h0 (by rw[e])
 rw[if_neg h0];have zm:=eA (dec m);have dm:=DZ m;have ag:0<(dec m).size:=by grind[jY,mX]
 simp only[go_sem];refine⟨fun ρ _=>∃(k r:Nat) (q:ByteArray),k<=(dec m).size/\ρ 0=str (dec m)/\ρ 1=str (dec n)/\ρ 8=str q/\ρ 9=str (dec r)/\ρ 10=int k/\q.size=k/\(bl q).all isD=true/\r<n/\lC ((bl (dec m)).take k)=lC (bl q)*n+r,fun ρ _=>(dec m).size-aT (ρ 10),
  ⟨0,0,emp,Xaa _,rfl,rfl,by rfl,by simp only[go_sem];rw[uM],by rfl,rfl,rfl,by omega,by simp[lC,aBp]⟩,?_⟩
 rintro ρ H ⟨k,r,q,hk,A,h1,T,O,E,hq,ac,hr,U⟩;simp only[go_sem,A,E];refine jI hk (fun ab=>?_) (fun I=>?_)
 ·obtain⟨c,hc⟩:=aK (l:=bl (dec m)) (k:=k) (by omega);have Y:=Xap.1 dm c (Xab hc);have Z:=avX hc;obtain⟨d1,d2,d3⟩:=aoE r Y _ Z;have an:=oB.1 Y;have ak:=dV (Nat.lt_trans hr hn);have ai:((dec m).extract k (k+1)).size=1:=by simp_all;omega
  simp only[go_sem,A,O,E,aQ k,Xal];refine⟨⟨by omega,by omega,by omega⟩,by simp_all;omega,?_⟩;have af:=(kW r).2 (Nat.lt_trans hr hn);refine aL (Ql _ (by grind) d2 d1) ?_;rw[d3];generalize hR:10*r+(c.toNat-48)=R;have al:R<10*n:=by omega
  have aj:=atR (show R<10*cN by omega);simp only[go_sem,];refine⟨fun ρ _=>∃(d r':Nat),ρ 0=str (dec m)/\ρ 1=str (dec n)/\ρ 8=str q/\ρ 10=int k/\ρ 9=str (dec r')/\ρ 11=int d/\d*n+r'=R,fun ρ _=>aAH (ρ 9),
   ⟨0,R,A,h1,T,E,rfl,by rfl,by omega⟩,?_⟩
  rintro ρ H ⟨d,r',A,h1,T,E,O,X,hd⟩;have ah:=Uj (show r'<=R by omega);simp only[go_sem,h1,O,];refine aL (Xh (dec r') (dec n) (by omega) (dV hn)) ?_;rw[akP];simp only[go_sem,Qf];have F:d<10:=by
   rcases Xbd d 10 with h|h
   ·exact h
   ·have:=Xcb n h;omega
  have e0:∀{x y:Nat},decide ((y:Int)<=(x:Int))=decide (y<=x):=fun {x y}=>by simp
  refine aA (fun I=>?_) (fun J=>?_)
  ·have I:n<=r':=by grind
   simp only[go_sem,h1,O,];refine aL (avH r' n I (by omega)) ?_;simp only[go_sem,A,h1,T,E,X,aQ d];refine⟨⟨d+1,r'-n,rfl,rfl,by grind⟩,?_⟩
   grind[U0]
  ·have J:r'<n:=by grind
   simp only[go_sem,T,X];refine aL (Fi d F) ?_;have am:(dec d).size=1:=by grind[jY,CQ]
   simp only[go_sem,A,h1,O,E,aQ k];refine⟨by simp_all;omega,?_⟩;refine⟨⟨k+1,r',_,ab,rfl,rfl,rfl,by grind,?_,J,?_⟩,by grind[aJ]⟩
   ·grind[wJ,DZ]
   ·rw[aY hc,rI,U,wJ,kS,Lib.decDigits_one F,rI,qX F,show 48+d-48=d by omega,Nat.add_mul,Nat.mul_assoc];omega
 ·simp only[go_sem,T];refine aL (Ql q (by omega) (fun e=>by grind[eA]) ac) ?_;simp only[go_sem,O];rw[I,Xai (by omega),kS,uH]at U;have U:m=gU q*n+r:=U;have ae:m/n=gU q:=by rw[U,Nat.add_comm,Nat.add_mul_div_right _ _ (by omega),Nat.div_eq_of_lt hr,Xby]
  have aa:m%n=r:=by grind[Nat.add_mul_mod_self_right,Xbu]
  rw[ae,aa];exact .refl _
def anH(a b:ByteArray)(O:a.size<=1048576)(I:b.size<=1048576):PC prog 177 [str a,str b] (.tup [str (Ce a b).1,int (Ce a b).2]):=by
 refine pcd func177 rfl rfl ?_;simp only[go_sem];refine aL (Sj a b O I) ?_;simp only[go_sem];apply aA <;> intro h
 ·have h:kY a b≠0:=by grind
  simp only[go_sem];rw[show Ce a b=(emp,kY a b)from if_neg h];exact .refl _
 have h:kY a b=0:=by grind
 obtain⟨m,n,rfl,rfl,T,U⟩:=sX h;rw[show Ce (dec m) (dec n)=szN (Nat.gcd m n)by simp_all[Ce,eG]];simp only[go_sem];refine⟨fun ρ _=>∃(x y:Nat),ρ 0=str (dec x)/\ρ 1=str (dec y)/\x<cN/\y<cN/\Nat.gcd m n=Nat.gcd x y,fun ρ _=>aAH (ρ 1),⟨m,n,rfl,rfl,T,U,rfl⟩,?_⟩;rintro ρ H ⟨x,y,h0,h1,E,F,X⟩;simp only[go_sem,h1,qK];apply aA <;> intro I
 ·have A:y≠0:=fun e=>by grind[nG]
  simp only[go_sem,h0,h1];refine aL (aBn (dec x) (dec y) (dV E) (dV F)) ?_;rw[Vm E F A];simp only[go_sem,h1];have J:=Xbh x (show 0<y by omega)
  grind[U0,Nat.gcd_comm,Nat.gcd_rec]
 ·have A:y=0:=by grind[tE,nG]
  simp only[go_sem,h0];rw[X,A,Nat.gcd_zero_right,Bt E];exact .refl _
def Xp(c d:UInt8):(((c.toNat:Nat):Int) == ((d.toNat:Nat):Int))=(c == d):=by rw[Xaz,Xau,Xau,Int.ofNat_inj,UInt8.toNat_inj]
def CI(s:ByteArray):(decide ((s.size:Int)>0)&&(((bl s).getD 0 0).toNat:Int) == 45)=iI s:=by
 rw[<-eA];unfold iI;cases bl s with
 | nil=>rfl
 | cons c r=>rw[show decide ((((c::r).length:Nat):Int)>0)=true by simp];simp only[List.getD_cons_zero,List.head?_cons,Xay];rw[show(some c == some (45:UInt8))=(c == 45)from rfl];exact Xp c 45
def stN(s:ByteArray):Nat:=if iI s=true then 1 else 0
theorem yG(s:ByteArray):bl (gG s)=(bl s).drop (stN s):=by grind[gG,stN,mY]
def PI(s:ByteArray):stN s<=(bl s).length:=by
 unfold stN;split
 all_goals grind[iI]
def QL{s:ByteArray}{c:UInt8}(h1:(bl s)[stN s]?=some c)(A:((bl s).drop (stN s)).all isD=true):fN s=((c != 48)||bl s == [48]):=by
 obtain⟨O,J⟩:=List.getElem?_eq_some_iff.1 h1;have F:bl (gG s)=c::(bl s).drop (stN s+1):=by grind[yG,Xbq]
 have I:eqB (gG s) (dec 0)=(c::(bl s).drop (stN s+1) == [48]):=by grind[qK]
 have A:(c::(bl s).drop (stN s+1)).all isD=true:=by grind[yG]
 unfold fN eQ fS;rw[I,F];rw[A,Xbk,show((c::(bl s).drop (stN s+1)) != [])=true from rfl,Xay,List.getD_cons_zero];by_cases E:iI s=true
 ·grind[stN]
 ·have T:gG s=s:=if_neg E
  grind
def AM(s:ByteArray)(h:s.size<=1048576):PC prog 173 [str s] (boo (fN s)):=by
 have hs:=eA s;have ab:=PI s;refine pcd func173 rfl rfl ?_;simp only[go_sem];refine⟨fun h=>⟨by omega,by grind⟩,?_⟩;rw[CI];refine bO (fun I H'=>I 0=str s/\I 3=int (stN s:Nat)) ?_ fun K Y=>aA (fun hb=>?_) (fun hb=>?_)
 rotate_left
 ·simp only[go_sem];exact Y _ _ ⟨rfl,by simp only[go_sem];simp_all[stN]⟩
 ·simp only[go_sem];exact Y _ _ ⟨rfl,by simp only[go_sem];simp_all[stN]⟩
 rintro ρ H ⟨h0,E⟩;simp only[go_sem,h0,E];apply aA <;> intro hb
 ·simp only[go_sem];refine cB ?_;have he:s.size=stN s:=by grind
  grind[fN,eQ,fS,yG]
 have U:stN s<(bl s).length:=by grind
 simp only[go_sem,E];refine⟨fun ρ _=>∃k:Nat,stN s<=k/\k<=(bl s).length/\ρ 0=str s/\ρ 3=int (stN s:Nat)/\ρ 4=int k/\∀c∈((bl s).take k).drop (stN s),isD c=true,fun ρ _=>(bl s).length-aT (ρ 4),⟨stN s,Xae _,by omega,h0,E,rfl,by simp⟩,?_⟩;rintro ρ H ⟨k,aa,hk,h0,E,T,Z⟩;simp only[go_sem,h0,T];refine aA (fun A=>?_) (fun F=>?_)
 ·have A:k<(bl s).length:=by grind
  obtain⟨c,J⟩:=aK A;have hi:=vP J;simp only[go_sem,h0,T,hi,QZ];have X:((bl s).take (k+1)).drop (stN s)=((bl s).take k).drop (stN s)++[c]:=by grind[aY]
  refine⟨⟨by omega,by omega⟩,fun _=>⟨by omega,by omega⟩,aA (fun O=>?_) (fun O=>?_)⟩
  ·simp only[go_sem];refine cB ?_;unfold fN eQ fS;rw[yG];rw[akA (k:=k-stN s) (c:=c) (by grind) (by grind)];simp
  ·simp only[go_sem,h0,E,T,aQ k];refine⟨⟨k+1,by omega,A,rfl,?_⟩,msr A⟩
   grind
 ·have F:k=(bl s).length:=by grind
  subst F;rw[Xad]at Z;obtain⟨c,J⟩:=aK U;simp only[go_sem,h0,E,vP J];refine⟨⟨by omega,by omega⟩,?_⟩;refine cB ?_;rw[QL J (ZB Z)]
  congr 1
  rw[bne,bne,<-Xp c 48];rfl
def G9(s:ByteArray)(h:s.size<=1048576):PC prog 243 [str s] (int (gG s).size):=by
 have F:=eA s;refine pcd func243 rfl rfl ?_;simp only[go_sem];refine⟨fun h=>⟨by omega,by grind⟩,?_⟩;rw[CI];have I:(gG s).size=s.size-stN s:=by grind[eA,yG]
 have A:=PI s;apply aA <;> intro E
 ·have:stN s=1:=if_pos E;simp only[go_sem]
  grind[cI,aW]
 ·have:stN s=0:=if_neg (by grind);simp only[go_sem]
  grind[cI]
def Fm(a b:ByteArray)(E:a.size<=1048576)(F:b.size<=1048576):PC prog 182 [str a,str b] (int (lX a b)):=by
 refine pcd func182 rfl rfl ?_;simp only[go_sem];refine aL (AM a (by omega)) ?_;simp only[go_sem];refine⟨_,fun _=>(AM b (by omega)).q rfl,?_⟩;simp only[go_sem];unfold lX;apply aA <;> intro J
 ·simp only[go_sem];simp_all[cI]
 ·simp only[go_sem];refine aL (G9 a E) ?_;simp only[go_sem];refine⟨_,fun _=>(G9 b F).q rfl,?_⟩;simp only[go_sem];have I:decide (((gG a).size:Int)>4096)=decide ((gG a).size>4096):=by grind
  have A:decide (((gG b).size:Int)>4096)=decide ((gG b).size>4096):=by grind
  rw[if_neg (by grind),I,A];apply aA <;> intro O
  ·simp only[go_sem];simp_all[cI]
  ·simp only[go_sem];simp_all[cI]
def atF{n:Int}(h:(!decide (n.natAbs<cN))=true):szZ n=(emp,4):=if_neg (fun A=>by grind)
def Om(n:Int)(h:(zed n).size<=1048576):PC prog 238 [str (zed n)] (.tup [str (szZ n).1,int (szZ n).2]):=by
 refine pcd func238 rfl rfl ?_;simp only[go_sem];refine aL (G9 (zed n) h) ?_;simp only[go_sem];have A:decide (((gG (zed n)).size:Int)>4096)= !decide (n.natAbs<cN):=by
  rw[<-decide_not,decide_eq_decide]
  grind[tJ]
 rw[A];apply aA <;> intro E
 ·simp only[go_sem];rw[atF E];exact .refl _
 ·simp only[go_sem];rw[show szZ n=(zed n,0)from if_pos (by grind)];exact .refl _
def awU(l:List Nat)(h:l.length<=4611686018427387904):PC prog 188 [.sl (l.map gK)] (.sl ((pO l).map gK)):=by
 refine pcd func188 rfl rfl ?_;simp only[go_sem];refine⟨fun ρ _=>∃k:Nat,k<=l.length/\ρ 0=.sl (l.map gK)/\ρ 3=int k/\pO (l.take k)=pO l,fun ρ _=>aT (ρ 3),⟨l.length,Xae _,rfl,rfl,by rw[Xad]⟩,?_⟩;rintro ρ H ⟨k,Z,h0,A,J⟩;cases k with
 | zero=>
  have I:pO l=[]:=by rw[<-J];rfl
  have X:(IntKind.i64.wrap (((0:Nat):Int)-1)).toNat=0:=rfl;rw[I];cases l with
  | nil=>simp only[go_sem,h0,A,X,Xbn,List.getD_nil,show decide (((0:Nat):Int)>0)=false from rfl];refine aA (fun F=>by cases F) (fun _=>?_);simp only[go_sem,h0,A];exact⟨⟨by omega,by omega⟩,.refl _⟩
  | cons x l=>simp only[go_sem,h0,A,X,Xav,List.getD_cons_zero,show decide (((0:Nat):Int)>0)=false from rfl];refine aA (fun F=>by cases F) (fun _=>?_);simp only[go_sem,h0,A];exact⟨⟨by omega,by omega⟩,.refl _⟩
 | succ k=>
 have T:IntKind.i64.wrap (((k+1:Nat):Int)-1)=(k:Int):=by grind[aW]
 obtain⟨x,O⟩:=aK (show k<l.length by omega);have U:l.take (k+1)=l.take k++[x]:=aY O;have Y:=inB (show k<l.length by omega);simp only[go_sem,h0,A,T,aC O,Y,show decide (((k+1:Nat):Int)>0)=true from decide_eq_true (by omega)];apply aA <;> intro F
 ·have E:x=0:=by grind
  simp only[go_sem,h0,A,T];refine⟨⟨k,by omega,rfl,?_⟩,?_⟩
  all_goals simp_all[AP,aJ]
 ·have E:x≠0:=by grind
  simp only[go_sem,h0,A];rw[U,AP,if_neg E]at J;rw[<-List.map_take,U,J];exact⟨⟨by omega,by omega⟩,.refl _⟩
def uV(l:List Nat)(i:Nat)(I:i<=4611686018427387904)(h:l.length<=4611686018427387904):PC prog 244 [.sl (l.map gK),int i] (int (l.getD i 0:Nat)):=by
 refine pcd func244 rfl rfl ?_;simp only[go_sem];apply aA <;> intro A
 ·have A:i<l.length:=by grind
  obtain⟨x,F⟩:=aK A;have E:=inB A;simp only[go_sem,aC F,E]
  grind[cI]
 ·have A:l.length<=i:=by grind
  simp only[go_sem]
  grind[cI]
abbrev dg(n:Nat):AV:=.sl ((bB 10 n).map gK)
def Kz{l:List Nat}(A:Lim 10 l)(h:l.length<=4611686018427387904){n:Nat}(E:ofL 10 l=n):PC prog 188 [.sl (l.map gK)] (dg n):=by
 have:=awU l h
 rwa [P0 (by decide) A E]at this
def upN:AV->Nat
 | .v (.int _ n)=>(n+1).toNat
 | _=>0
theorem GA(k:IntKind)(n:Int):upN (.v (.int k n))=(n+1).toNat:=(rfl)
def atS(c:UInt8)(l:List UInt8):dl (c::l)=dl l++[c.toNat-48]:=by simp[dl]
def azV{k:Nat}(h:k<=4611686018427387904):IntKind.i64.wrap ((k:Int)-1-1)=(k:Int)-1-1:=aW (by omega)
def rS(n:Int)(h:(zed n).size<=1048576):PC prog 183 [str (zed n)] (.tup [boo (decide (n<0)),dg n.natAbs]):=by
 have hs:=eA (zed n);have hr:eQ (gG (zed n))=true:=by grind[lK,oS]
 have ag:=yG (zed n);have af:=PI (zed n);have A:((bl (zed n)).drop (stN (zed n))).all isD=true:=by grind[lK,DZ]
 have ac:stN (zed n)<(bl (zed n)).length:=by grind[lK,kS,mX]
 have hm:(((((bl (zed n)).getD 0 0).toNat:Nat):Int) == 45)=iI (zed n):=by rw[<-CI,show decide (((zed n).size:Int)>0)=true by grind,Xay]
 refine pcb (fun t=>t == 4) func183 rfl rfl ?_;simp only[go_sem];refine aH fun j hj=>?_
 simp only[go_sem,hm];refine⟨⟨by omega,by omega⟩,?_⟩;refine⟨fun ρ H=>∃(k j:Nat),k<=(bl (zed n)).length/\ρ 0=str (zed n)/\ρ 5=boo (iI (zed n))/\ρ 4=.os j/\ρ 6=int ((k:Int)-1)/\H j=some (cF (dl ((bl (zed n)).drop (max k (stN (zed n)))))),fun ρ _=>upN (ρ 6),
  ⟨(bl (zed n)).length,j,Xae _,rfl,rfl,rfl,by simp only[go_sem];grind[aW],?_⟩,?_⟩
 ·rw[aB,List.drop_of_length_le (by omega)];rfl
 clear hj j;rintro ρ H ⟨k,j,hk,h0,Z,O,I,U⟩;simp only[go_sem,I];refine aA (fun E=>?_) (fun aj=>?_)
 ·have E:0<k:=by grind
  obtain⟨c,hc⟩:=aK (l:=bl (zed n)) (k:=k-1) (by omega);have ei:((k:Int)-1).toNat=k-1:=by omega
  have T:(bl (zed n)).drop (k-1)=c::(bl (zed n)).drop k:=by grind[Xbq]
  simp only[go_sem,h0,I,ei,vP hc];refine⟨⟨by omega,by omega⟩,?_⟩;by_cases ai:k-1<stN (zed n)
  ·have X:iI (zed n)=true:=by grind[stN]
   have ae:stN (zed n)=1:=if_pos X;have aa:k=1:=by omega
   subst aa;have F:c=45:=by grind[iI]
   subst F;refine aA (fun hb=>by cases hb) (fun _=>?_);simp only[go_sem,h0,Z,O,I];refine⟨⟨0,j,by omega,rfl,rfl,?_⟩,?_⟩
   ·grind
   ·simp only[GA];decide
  ·have Y : isD c = true := Xap.1 A c (by refine Xab (i:=k-1-stN (zed n)) ?_;simp_all);have ak:=oB.1 Y;refine aA (fun _=>?_) (fun hb=>?_);rotate_left
   ·exfalso
    grind
   simp only[go_sem,h0,O,I,ei,vP hc];refine⟨⟨by omega,by omega⟩,?_⟩;have ab:IntKind.i64.wrap (IntKind.u8.wrap ((c.toNat:Int)-48))=((c.toNat-48:Nat):Int):=by grind[u8w,aW]
   rw[ab];refine aU U ⟨rfl,rfl⟩ ⟨rfl,trivial⟩ (by grind[cF,Kq]) (fun j' ah=>?_);simp only[go_sem,h0,Z,I,azV (show k<=4611686018427387904 by omega)];refine⟨⟨k-1,j',by omega,rfl,?_,?_⟩,?_⟩
   ·grind
   ·rw[show max k (stN (zed n))=k by omega,show max (k-1) (stN (zed n))=k-1 by omega,T,atS];exact sB
   grind[GA]
 ·have E:k=0:=by grind
  subst E;simp only[go_sem,Z,O];rw[Nat.max_eq_right (by omega)]at U;have J:=V2 A;refine PC.useF [j] (.cons _ _ _ _ (.row _ _ _ (by simp only[Xbc,if_true];exact U) (ConvE.refl _)) .nil) (Kz (n:=n.natAbs) J (by grind[Kq]) (by grind[Y3,lK,kS,uH])) ?_;simp only[go_sem,xQ];exact .refl _
def OY(l:List UInt8):Row:=⟨5,1,l.map fun c=>[.v (.int .u8 (c.toNat:Nat))]⟩
def ajC(l:List UInt8):wZ (l.map fun c=>[.v (.int .u8 (c.toNat:Nat))])=some (l.map fun c=>((c.toNat:Nat):Int)):=by induction l<;>grind[wZ]
def afD(l:List UInt8):bl (strOfNums (l.map fun c=>((c.toNat:Nat):Int)))=l:=by simp[strOfNums,mY,List.map_congr_left]
def acT(m:Bool)(l:List Nat)(hl:Lim 10 l)(h:l.length<=1048576):PC prog 123 [boo m,.sl (l.map gK)] (str (zed (sg m (ofL 10 l)))):=by
 have U:=Kz hl (by omega) rfl;have E:=cL (b:=10) (by decide) (ofL 10 l);have ae:(bB 10 (ofL 10 l)).length<=l.length:=iZ (by decide) (lE (by decide) hl);have aa:=cQ (b:=10) (by decide) (ofL 10 l);refine pcb (fun t=>t == 5||t == 32) func123 rfl rfl ?_;simp only[go_sem];refine aL U ?_;generalize ofL 10 l=n at *;simp only[go_sem,Xac];refine aA (fun J=>?_) (fun J=>?_)
 ·have h0 : n = 0 := by
   have:(bB 10 n).length=0:=by grind
   grind[tB]
  simp only[go_sem]
  grind[cS,uM,sg,dH]
 have h0:n≠0:=fun e=>by grind[eZ]
 simp only[go_sem];refine aH fun j hj=>?_
 simp only[go_sem];refine bO (fun F H'=>∃j,F 1=dg n/\F 5=.os j/\H' j=some (OY (if m=true then[45]else[]))) ?_ fun K Z=>aA (fun J=>?_) (fun J=>?_)
 rotate_left
 ·simp only[go_sem];refine aU (aB _ _ _) ⟨rfl,rfl⟩ ⟨rfl,trivial⟩ (by simp) (fun j' T=>?_);simp only[go_sem];exact Z _ _ ⟨j',rfl,rfl,by rw[aB,if_pos J];rfl⟩
 ·simp only[go_sem];exact Z _ _ ⟨j,rfl,rfl,by rw[aB,if_neg (by grind)];rfl⟩
 clear hj j;rintro ρ H ⟨j,h1,I,O⟩;simp only[go_sem,h1,Xac];refine⟨fun ρ H=>∃(k j:Nat),k<=(bB 10 n).length/\ρ 1=dg n/\ρ 5=.os j/\ρ 6=int ((k:Int)-1)/\H j=some (OY ((if m=true then[45]else[])++txt ((bB 10 n).drop k))),fun ρ _=>upN (ρ 6),
  ⟨(bB 10 n).length,j,Xae _,h1,I,by simp only[go_sem,];grind[aW],by grind[txt]⟩,?_⟩
 clear h1 I O j;rintro ρ H ⟨k,j,hk,h1,I,Y,O⟩;simp only[go_sem,Y];refine aA (fun A=>?_) (fun af=>?_)
 ·have A:0<k:=by grind
  obtain⟨x,hx⟩:=aK (l:=bB 10 n) (k:=k-1) (by omega);have ei:((k:Int)-1).toNat=k-1:=by omega
  have X:x<10:=E x (Xab hx);have ab:(bB 10 n).drop (k-1)=x::(bB 10 n).drop k:=by grind[Xbq]
  have b1:0<=(k:Int)-1/\(k:Int)-1<((bB 10 n).length:Nat):=by omega
  simp only[go_sem,h1,I,Y,ei,aC hx,b1,Xac];have ew:IntKind.u8.wrap (IntKind.i64.wrap (48+(x:Int)))=(((UInt8.ofNat (48+x)).toNat:Nat):Int):=by rw[qX X,show IntKind.i64.wrap (48+(x:Int))=48+(x:Int)from aW (by omega),show IntKind.u8.wrap (48+(x:Int))=(48+(x:Int))%256 from rfl];omega
  rw[ew];have ac:∀(p q:List UInt8),(OY (p++q)).es.length=p.length+q.length:=fun p q=>by simp[OY]
  refine aU O ⟨rfl,rfl⟩ ⟨rfl,trivial⟩ ?_ (fun j' T=>?_)
  ·grind[txt]
  simp only[go_sem,h1,Y,azV (show k<=4611686018427387904 by omega)];refine⟨⟨k-1,j',by omega,rfl,?_,?_⟩,?_⟩
  all_goals grind[aB,OY,txt,GA]
 ·have A:k=0:=by grind
  subst A;simp only[go_sem];refine Dz I O fun Hr _ _=>?_
  simp only[go_sem,OY,ajC];refine cS (mQ ?_);rw[afD,GV h0];unfold sg;cases m with
  | true=>rw[if_pos rfl,if_pos rfl,F4 (by omega),mY];rfl
  | false=>rfl
def aaC{l:List Nat}(h:Lim 10 l)(k:Nat):ofL 10 (l.take k)<10^k:=by have h1:=lE (b:=10) (by decide) (h.take k);have A:10^(l.take k).length<=10^k:=Xah (by decide) (by grind);omega
def asT{x y:List Nat}(E:Lim 10 x)(A:Lim 10 y)(k:Nat):iH (ofL 10 (x.take (k+1))) (ofL 10 (y.take (k+1)))=if x.getD k 0<y.getD k 0 then -1 else if y.getD k 0<x.getD k 0 then 1 else iH (ofL 10 (x.take k)) (ofL 10 (y.take k)):=by
 have h1:=aaC E k;have F:=aaC A k;rw[DI,DI];generalize ofL 10 (x.take k)=p at *;generalize ofL 10 (y.take k)=q at *;generalize x.getD k 0=a at *;generalize y.getD k 0=b at *;generalize 10^k=T at *;split
 ·rename_i h;have:T*(a+1)<=T*b:=Nat.mul_le_mul_left _ h
  grind[mB]
 ·split
  ·rename_i h;have:T*(b+1)<=T*a:=Nat.mul_le_mul_left _ h
   grind[lZ]
  grind[iH]
def BH(m n:Nat)(Z:(bB 10 m).length<=1048576)(hn:(bB 10 n).length<=1048576):PC prog 187 [dg m,dg n] (int (iH m n)):=by
 have om:=cQ (b:=10) (by decide) m;have on:=cQ (b:=10) (by decide) n;have Y:=cL (b:=10) (by decide) m;have X:=cL (b:=10) (by decide) n;simp only[dg];generalize bB 10 m=x at *;generalize bB 10 n=y at *;have I:fX (x.length:Int) (y.length:Int)=((max x.length y.length:Nat):Int):=by grind[fX]
 refine pcd func187 rfl rfl ?_;simp only[go_sem];simp only[I];refine⟨fun ρ _=>∃k:Nat,k<=max x.length y.length/\ρ 0=.sl (x.map gK)/\ρ 1=.sl (y.map gK)/\ρ 5=int ((k:Int)-1)/\iH m n=iH (ofL 10 (x.take k)) (ofL 10 (y.take k)),fun ρ _=>upN (ρ 5),
  ⟨max x.length y.length,Xae _,rfl,rfl,by simp only[go_sem];grind[aW],by grind[Xai]⟩,?_⟩
 rintro ρ H ⟨k,hk,h0,h1,E,T⟩;simp only[go_sem,E];refine aA (fun F=>?_) (fun U=>?_)
 ·obtain⟨i,rfl⟩:∃i,k=i+1:=⟨k-1,by grind⟩;have O:((i+1:Nat):Int)-1=(i:Int):=by omega
  rw[O]at E;rw[asT Y X i]at T;simp only[go_sem,h0,E,O];refine aL (uV x i (by omega) (by omega)) ?_;simp only[go_sem,h1,E];refine aL (uV y i (by omega) (by omega)) ?_;simp only[go_sem,];refine aA (fun J=>?_) (fun J=>?_)
  ·have J:=ltB J;simp only[go_sem];simp_all[cI]
  have J:¬x.getD i 0<y.getD i 0:=by grind
  simp only[go_sem,h0,E];refine aL (uV x i (by omega) (by omega)) ?_;simp only[go_sem,h1,E];refine aL (uV y i (by omega) (by omega)) ?_;simp only[go_sem,];refine aA (fun A=>?_) (fun A=>?_)
  ·have A:y.getD i 0<x.getD i 0:=by grind
   simp only[go_sem];simp_all[cI]
  have A:¬y.getD i 0<x.getD i 0:=by grind
  simp only[go_sem,h0,h1,E,show IntKind.i64.wrap ((i:Int)-1)=(i:Int)-1 from aW (by omega)];exact⟨⟨i,by omega,rfl,by omega⟩,by grind[GA]⟩
 ·have F:k=0:=by grind
  subst F;simp only[go_sem];exact cI (by rw[T];rfl)
def abS(m n:Nat)(hm:(bB 10 m).length<=1048576)(hn:(bB 10 n).length<=1048576):PC prog 185 [dg m,dg n] (dg (m+n)):=by
 have om:=cQ (b:=10) (by decide) m;have on:=cQ (b:=10) (by decide) n;have lm:=cL (b:=10) (by decide) m;have ln:=cL (b:=10) (by decide) n;have E:∀l:List Nat,Lim 10 l->l.length<=4611686018427387904->ofL 10 l=m+n->PC prog 188 [.sl (l.map gK)] (dg (m+n)):=fun l h1 h2 h3=>Kz h1 h2 h3
 simp only[dg]at E |-;generalize bB 10 m=x at *;generalize bB 10 n=y at *;generalize bB 10 (m+n)=z at *;refine pcb (fun t=>t == 5) func185 rfl rfl ?_;simp only[go_sem];refine aH fun j hj=>?_
 simp only[go_sem];refine⟨fun ρ H=>∃(i c j:Nat) (o:List Nat),i<=max x.length y.length+1/\ρ 0=.sl (x.map gK)/\ρ 1=.sl (y.map gK)/\ρ 5=.os j/\ρ 6=int c/\ρ 7=int i/\H j=some (cF o)/\Lim 10 o/\o.length=i/\c<=1/\(i=max x.length y.length+1->c=0)/\ofL 10 o+10^i*c=ofL 10 (x.take i)+ofL 10 (y.take i),fun ρ _=>max x.length y.length+1-aT (ρ 7),
  ⟨0,0,j,[],by omega,rfl,rfl,rfl,by rfl,by rfl,DR,by simp[Lim],rfl,by omega,by omega,by rfl⟩,?_⟩
 clear hj j;rintro ρ H ⟨i,c,j,o,hi,h0,h1,h5,h6,I,Y,ho,U,hc,aa,O⟩;simp only[go_sem,h0,h1,h6,I];refine aA (fun A=>?_) (fun A=>?_)
 ·have A:i<x.length\/i<y.length\/0<c:=by grind
  have T:i<max x.length y.length+1:=by omega
  have J:=Uc (b:=10) (by decide) (x:=x) (y:=y) U O;have ab:x.getD i 0<10:=lm.getD (by decide) i;have ae:y.getD i 0<10:=ln.getD (by decide) i;have F:i+1=max x.length y.length+1->(x.getD i 0+y.getD i 0+c)/10=0:=fun e=>by
   have X:x.getD i 0=0:=by simp only[List.getD,List.getElem?_eq_none (show x.length<=i by omega),Option.getD_none]
   have Z:y.getD i 0=0:=by simp only[List.getD,List.getElem?_eq_none (show y.length<=i by omega),Option.getD_none]
   omega
  simp only[go_sem,h0,I];refine aL (uV x i (by omega) (by omega)) ?_;simp only[go_sem,h1,I];refine aL (uV y i (by omega) (by omega)) ?_;generalize x.getD i 0=a at *;generalize y.getD i 0=b at *;have X:IntKind.i64.wrap (IntKind.i64.wrap ((a:Int)+(b:Int))+(c:Int))=((a+b+c:Nat):Int):=by grind[aW]
  simp only[go_sem,h5,h6,X];have Z:(((a+b+c:Nat):Int)).tmod 10=(((a+b+c)%10:Nat):Int):=rfl;have e3:(((a+b+c:Nat):Int)).tdiv 10=(((a+b+c)/10:Nat):Int):=rfl;rw[Z];refine⟨by decide,aU Y ⟨rfl,rfl⟩ ⟨rfl,trivial⟩ (by grind[cF]) (fun j' ac=>?_)⟩;simp only[go_sem,h0,h1,I,e3,aQ i];rw[show IntKind.i64.wrap (((a+b+c)/10:Nat):Int)=(((a+b+c)/10:Nat):Int)from aW (by omega)];exact⟨by decide,⟨i+1,_,j',_,T,rfl,rfl,rfl,sB,ho.snoc (Xbh _ (by decide)),by grind,by omega,F,J⟩,by grind[aJ]⟩
 ·have A:x.length<=i/\y.length<=i/\c=0:=by grind
  simp only[go_sem,h5];rw[A.2.2,Nat.mul_zero,Nat.add_zero,Xai A.1,Xai A.2.1,om,on]at O;refine PC.useF [j] (.cons _ _ _ _ (.row _ _ _ (by simp only[Xbc,if_true];exact Y) (ConvE.refl _)) .nil) (E o ho (by omega) O) ?_;simp only[go_sem];exact .refl _
def FI(m n:Nat)(hm:(bB 10 m).length<=1048576)(ac:n<=m):PC prog 186 [dg m,dg n] (dg (m-n)):=by
 have om:=cQ (b:=10) (by decide) m;have on:=cQ (b:=10) (by decide) n;have lm:=cL (b:=10) (by decide) m;have ln:=cL (b:=10) (by decide) n;have ae:=cO (b:=10) (by decide) ac;have U:∀l:List Nat,Lim 10 l->l.length<=4611686018427387904->ofL 10 l=m-n->PC prog 188 [.sl (l.map gK)] (dg (m-n)):=fun l h1 h2 h3=>Kz h1 h2 h3
 simp only[dg]at U |-;generalize bB 10 m=x at *;generalize bB 10 n=y at *;generalize bB 10 (m-n)=z at *;refine pcb (fun t=>t == 5) func186 rfl rfl ?_;simp only[go_sem];refine aH fun j hj=>?_
 simp only[go_sem];refine⟨fun ρ H=>∃(i j c:Nat) (o:List Nat),i<=x.length/\ρ 0=.sl (x.map gK)/\ρ 1=.sl (y.map gK)/\ρ 5=.os j/\ρ 6=int c/\ρ 7=int i/\H j=some (cF o)/\Lim 10 o/\o.length=i/\c<=1/\ofL 10 o+ofL 10 (y.take i)=ofL 10 (x.take i)+10^i*c,fun ρ _=>x.length-aT (ρ 7),
  ⟨0,j,0,[],Xaa _,rfl,rfl,rfl,by rfl,by rfl,DR,by simp[Lim],rfl,by omega,by rfl⟩,?_⟩
 clear hj j;rintro ρ H ⟨i,j,c,o,hi,h0,h1,T,Y,I,O,ho,X,hc,hv⟩;simp only[go_sem,h0,I,Xac];refine aA (fun E=>?_) (fun J=>?_)
 ·have E:=ltB E;obtain⟨a,ha⟩:=aK E;have ah:x.getD i 0=a:=by grind
  have b1:=inB E;have Z:a<10:=lm a (Xab ha);have ab:y.getD i 0<10:=ln.getD (by decide) i;simp only[go_sem,];refine jD (by rfl) (by kernel_rfl) ?_;simp only[go_sem,h0,h1,I,aC ha,b1,Xac];refine⟨_,(uV y i (by omega) (by omega)).q rfl,?_⟩;have af:=A9 (b:=10) Z ab hc;have aa:=EZ (b:=10) (x:=x) (y:=y) (c':=if a<y.getD i 0+c then 1 else 0) (d:=if a<y.getD i 0+c then a+10-(y.getD i 0+c)else a-(y.getD i 0+c)) X hv (by omega);generalize y.getD i 0=yi at *;have e1:IntKind.i64.wrap (IntKind.i64.wrap ((a:Int)-(yi:Int))-(c:Int))=(a:Int)-yi-c:=by grind[aW]
  simp only[go_sem,Y,e1];refine bO (fun A H'=>A 0=.sl (x.map gK)/\A 1=.sl (y.map gK)/\A 5=.os j/\A 7=int i/\H' j=some (cF o)/\A 8=int (if a<yi+c then a+10-(yi+c)else a-(yi+c):Nat)/\A 6=int (if a<yi+c then 1 else 0:Nat)) ?_ fun K hK=>aA (fun F=>?_) (fun F=>?_)
  rotate_left
  ·have F:a<yi+c:=by grind
   have e2:IntKind.i64.wrap ((a:Int)-yi-c+10)=((a+10-(yi+c):Nat):Int):=by grind[aW]
   simp only[go_sem,e2];exact hK _ _ ⟨h0,h1,T,I,O,by simp only[go_sem,if_pos F],by simp only[go_sem,if_pos F];rfl⟩
  ·have F:¬a<yi+c:=by grind
   simp only[go_sem,];refine hK _ _ ⟨h0,h1,T,I,O,?_,by simp only[go_sem,if_neg F];rfl⟩;simp only[go_sem,if_neg F]
   grind
  clear h0 h1 T Y I O;rintro ρ H ⟨h0,h1,T,I,O,h8,Y⟩;simp only[go_sem,T,h8];refine aU O ⟨rfl,rfl⟩ ⟨rfl,trivial⟩ (by grind[cF]) (fun j' ag=>?_);simp only[go_sem,h0,h1,Y,I,aQ i];exact⟨⟨i+1,j',_,_,E,rfl,rfl,rfl,sB,ho.snoc af.2,by grind,by omega,aa⟩,by grind[aJ]⟩
 ·have J:=geB hi J;subst J;simp only[go_sem,T];obtain⟨_,hV⟩:=HE (b:=10) (by decide) ho lm X ae (by omega) hc hv;refine PC.useF [j] (.cons _ _ _ _ (.row _ _ _ (by simp only[Xbc,if_true];exact O) (ConvE.refl _)) .nil) (U o ho (by omega) (hV.trans (by omega))) ?_;simp only[go_sem];exact .refl _
def aoW(m n:Nat)(hm:(bB 10 m).length<=1048576)(hn:(bB 10 n).length<=1048576):PC prog 239 [dg m,dg n] (dg (m*n)):=by
 have om:=cQ (b:=10) (by decide) m;have on:=cQ (b:=10) (by decide) n;have lm:=cL (b:=10) (by decide) m;have ln:=cL (b:=10) (by decide) n;have Y:∀l:List Nat,Lim 10 l->l.length<=4611686018427387904->ofL 10 l=m*n->PC prog 188 [.sl (l.map gK)] (dg (m*n)):=fun l h1 h2 h3=>Kz h1 h2 h3
 simp only[dg]at Y |-;generalize bB 10 m=x at *;generalize bB 10 n=y at *;generalize bB 10 (m*n)=z at *;have ew:IntKind.i64.wrap ((x.length:Int)+(y.length:Int))=((x.length+y.length:Nat):Int):=by grind[aW]
 refine pcb (fun t=>t == 15) func239 rfl rfl ?_;simp only[go_sem];simp only[ew];refine⟨by omega,aH fun j hj=>?_⟩;simp only[go_sem];refine⟨fun ρ H=>∃(i:Nat) (out:List Nat),i<=x.length/\ρ 0=.sl (x.map gK)/\ρ 1=.sl (y.map gK)/\ρ 5=.os j/\ρ 6=int i/\H j=some (cF out)/\Lim 10 out/\out.length=x.length+y.length/\ofL 10 out=ofL 10 (x.take i)*ofL 10 y,fun ρ _=>x.length-aT (ρ 6),
  ⟨0,List.replicate (x.length+y.length) 0,Xaa _,rfl,rfl,rfl,by rfl,?_,Lim.zeros (by decide) _,by simp,by simp[ofL,Oz]⟩,?_⟩
 ·rw[aB];simp only[cF,List.map_replicate];rfl
 rintro ρ H ⟨i,out,hi,h0,h1,T,U,I,ho,aj,hv⟩;simp only[go_sem,h0,U,Xac];refine aA (fun E=>?_) (fun O=>?_)
 ·have E:=ltB E;obtain⟨A,X⟩:=aK E;have b1:=inB E;have an:A<10:=lm A (Xab X);have ac:out[i+y.length]?=some 0:=by refine Zz (b:=10) (by decide) (q:=i+y.length) ?_ (Xae _) (by omega);rw[hv,Nat.pow_add];have h1:=lE (b:=10) (by decide) (lm.take i);rw[Xbj,Nat.min_eq_left hi]at h1;exact Nat.mul_lt_mul'' h1 (lE (b:=10) (by decide) ln)
  simp only[go_sem,];refine⟨fun ρ H=>∃(k c:Nat) (o:List Nat),k<=y.length+1/\ρ 0=.sl (x.map gK)/\ρ 1=.sl (y.map gK)/\ρ 5=.os j/\ρ 6=int i/\ρ 7=int c/\ρ 8=int k/\H j=some (cF o)/\Lim 10 o/\o.length=x.length+y.length/\c<10/\(k<=y.length->ofL 10 o+10^(i+k)*c=ofL 10 out+10^i*(A*ofL 10 (y.take k))/\o[i+y.length]?=some 0)/\(k=y.length+1->c=0/\ofL 10 o=ofL 10 out+10^i*(A*ofL 10 y)),fun ρ _=>y.length+1-aT (ρ 8),
   ⟨0,0,out,Xaa _,h0,h1,T,U,by rfl,by rfl,I,ho,aj,by omega,fun _=>⟨by rfl,ac⟩,by omega⟩,?_⟩
  rintro ρ H ⟨k,c,o,hk,h0,h1,T,U,h7,Z,I,hO,ak,hc,hV,hZ⟩;simp only[go_sem,h1,h7,Z,Xac];refine aA (fun hb=>?_) (fun hb=>?_)
  ·have hb:k<y.length\/0<c:=by grind
   have aa:k<=y.length:=by omega
   obtain⟨hV,hz⟩:=hV aa;obtain⟨v,J⟩:=aK (show i+k<o.length by omega);have ap:v<10:=hO v (Xab J);have b3:0<=((i+k:Nat):Int)/\((i+k:Nat):Int)<((cF o).es.length:Nat):=by grind[cF]
   have ei:IntKind.i64.wrap ((i:Int)+(k:Int))=((i+k:Nat):Int):=by grind[aW]
   have ag:(cF o).es.getD (i+k) []=gK v:=aC J;have ao:y.getD k 0<10:=ln.getD (by decide) k;have al:A*y.getD k 0<=9*9:=Nat.mul_le_mul (by omega) (by omega);have e1:IntKind.i64.wrap (IntKind.i64.wrap ((v:Int)+IntKind.i64.wrap ((A:Int)*((y.getD k 0:Nat):Int)))+(c:Int))=((v+A*y.getD k 0+c:Nat):Int):=by grind[aW]
   have hq:(v+A*y.getD k 0+c)/10<10:=by omega
   have e2:IntKind.i64.wrap ((((v+A*y.getD k 0+c:Nat):Int)).tdiv 10)=(((v+A*y.getD k 0+c)/10:Nat):Int):=by grind[aW]
   have e3:(((v+A*y.getD k 0+c:Nat):Int)).tmod 10=(((v+A*y.getD k 0+c)%10:Nat):Int):=rfl;simp only[go_sem,];refine jD (by rfl) (by kernel_rfl) ?_;simp only[go_sem,h0,h1,T,U,Z,ei,I,b3,ag,aC X,b1,Xac];have F:i+k<(cF o).es.length:=by omega
   refine⟨rfl,⟨F,Nat.zero_lt_one⟩,_,(uV y k (by omega) (by omega)).q rfl,?_⟩;simp only[go_sem,T,U,h7,Z,e1,ei,I,b3,e3];refine⟨by decide,rfl,bP so3 I ⟨F,rfl,Xae 1⟩ ?_⟩;generalize hP:aI H j _=HP;have ah:HP j=some (cF (o.set (i+k) ((v+A*y.getD k 0+c)%10))):=by rw[<-hP,aB];exact congrArg some (Dw (q:=(v+A*y.getD k 0+c)%10) J)
   simp only[go_sem,h0,h1,T,U,Z,e2,aQ k];refine⟨by decide,⟨k+1,_,_,by omega,rfl,rfl,ah,hO.set (Xbh _ (by decide)),by grind,hq,fun ae=>?_,fun ae=>?_⟩,by grind[aJ]⟩
   ·grind[Vn]
   ·have ai:k=y.length:=by omega
    subst ai;have af:v=0:=by grind
    have ab:y.getD y.length 0=0:=by simp
    rw[af,ab,Nat.mul_zero,Xby,Xbu hc]
    grind[Zq]
  ·have hb:y.length<=k/\c=0:=by grind
   have am:ofL 10 o=ofL 10 out+10^i*(A*ofL 10 y):=by grind
   simp only[go_sem,h0,h1,T,U,aQ i];refine⟨⟨i+1,o,E,rfl,I,hO,ak,?_⟩,by grind[aJ]⟩
   grind[lT]
 ·have O:=geB hi O;subst O;rw[Xad]at hv;simp only[go_sem,T];refine PC.useF [j] (.cons _ _ _ _ (.row _ _ _ (by simp only[Xbc,if_true];exact I) (ConvE.refl _)) .nil) (Y out ho (by omega) (by grind)) ?_;simp only[go_sem];exact .refl _
def ajN:AV->Nat
 | .sl es=>ofL 10 (es.map fun e=>match e with|[.v (.int _ z)]=>z.toNat|_=>0)
 | _=>0
theorem awK(n:Nat):ajN (dg n)=n:=by
 unfold ajN dg;simp only[List.map_map];have:(bB 10 n).map ((fun e=>match e with|[.v (.int _ z)]=>z.toNat|_=>0) ∘ gK)=bB 10 n:=by
  conv=>rhs;rw[<-List.map_id (bB 10 n)]
  rfl
 grind[cQ]
def aiV(m n:Nat)(hm:(bB 10 m).length<=1048570)(hn:0<n)(au:(bB 10 n).length<=1048570):PC prog 184 [dg m,dg n] (.tup [dg (m/n),dg (m%n)]):=by
 have om:=cQ (b:=10) (by decide) m;have lm:=cL (b:=10) (by decide) m;rw[show dg m=.sl ((bB 10 m).map gK)from rfl];generalize bB 10 m=x at *;refine pcb (fun t=>t == 12||t == 24) func184 rfl rfl ?_;simp only[go_sem];refine⟨by omega,aH fun j hj=>?_⟩;simp only[go_sem,Xac];refine⟨fun ρ H=>∃(k r:Nat) (A:List Nat),k<=x.length/\ρ 0=.sl (x.map gK)/\ρ 1=dg n/\ρ 6=.os j/\ρ 7=dg r/\ρ 8=int ((k:Int)-1)/\H j=some (cF A)/\Lim 10 A/\A.length=x.length/\r<n/\(∀i,i<k->A[i]?=some 0)/\ofL 10 (x.drop k)=ofL 10 (A.drop k)*n+r,fun ρ _=>upN (ρ 8),
  ⟨x.length,0,List.replicate x.length 0,Xae _,rfl,rfl,rfl,by simp only[go_sem,dg,eZ,Xbn],by simp only[go_sem];grind[aW],?_,Lim.zeros (by decide) _,by simp,hn,?_,?_⟩,?_⟩
 ·rw[aB];simp only[cF,List.map_replicate];rfl
 ·grind
 ·grind[ofL]
 rintro ρ H ⟨k,r,A,hk,h0,h1,X,U,F,O,Z,a0,hr,hz,hv⟩;simp only[go_sem,F];refine aA (fun aw=>?_) (fun a5=>?_)
 ·obtain⟨i,rfl⟩:∃i,k=i+1:=⟨k-1,by grind⟩;have ei:((i+1:Nat):Int)-1=(i:Int):=by omega
  rw[ei]at F;obtain⟨a,ha⟩:=aK (show i<x.length by omega);have am:a<10:=lm a (Xab ha);have b1:=inB (show i<x.length by omega);have ax:(bB 10 r).length<=(bB 10 n).length:=cO (by decide) (by omega);have ag:=cQ (b:=10) (by decide) r;have T:=cL (b:=10) (by decide) r;simp only[go_sem,h0,F,ei,aC ha,b1,Xac];obtain⟨hV,hQ,a4⟩:=Tc (b:=10) (a:=n) (by decide) ha am hr (show i<A.length by omega) hv;have al:ofL 10 (a::bB 10 r)=a+10*r:=by rw[ofL,ag]
  have ae:Lim 10 (a::bB 10 r):=fun y hy=>by
   rcases List.mem_cons.1 hy with rfl|hy
   ·omega
   ·exact T y hy
  have ar:(bB 10 (a+10*r)).length<=1048575:=by
   refine Xaf (iZ (b:=10) (k:=(bB 10 r).length+1) (by decide) ?_) (by omega)
   grind[lE]
  generalize az:a+10*r=R at *;refine aH fun j2 ab=>?_
  simp only[go_sem,U];have ac:=fA (r':=⟨3,1,[[int (a:Int)]]⟩) O ab;refine aU (aB _ _ _) ⟨rfl,rfl⟩ (aCe _) (by grind) (fun i2 Y=>?_);have av:=cM ac (aV O ab).symm Y (r':=⟨3,1,[[int (a:Int)]]++(bB 10 r).map gK⟩);have a6:j≠i2:=aV ac Y;simp only[go_sem,];refine PC.useF [i2] (.cons _ _ _ _ (.row _ _ _ (by simp only[Xbc,if_true];exact aB _ _ _) (ConvE.refl _)) .nil) (Kz ae (by grind) al) ?_;generalize ay:(fun k=>if k∈[i2]then none else _)=HN;have an:HN j=some (cF A):=by grind
  simp only[go_sem,];refine⟨fun ρ H=>∃(d r':Nat),ρ 0=.sl (x.map gK)/\ρ 1=dg n/\ρ 6=.os j/\ρ 7=dg r'/\ρ 8=int i/\H j=some (cF (A.set i d))/\d*n+r'=R,fun ρ _=>ajN (ρ 7),
   ⟨0,R,h0,h1,X,rfl,F,?_,by omega⟩,?_⟩
  ·rw[an];have h2:=hz i (by omega)
   grind[List.set_getElem_self]
  rintro ρ H ⟨d,r',h0,h1,X,U,F,O,hd⟩;have aq:=cO (b:=10) (by decide) (show r'<=R by omega);simp only[go_sem,h1,U];refine aL (BH r' n (by omega) (by omega)) ?_;simp only[go_sem,Qf];have aa:d<10:=by
   rcases Xbd d 10 with h|h
   ·exact h
   ·have:=Xcb n h;omega
  refine aA (fun J=>?_) (fun E=>?_)
  ·have J:n<=r':=by grind
   have hg:(A.set i d)[i]?=some d:=List.getElem?_set_self (by omega);have ai:(cF (A.set i d)).es.getD i []=gK d:=aC hg;have b3:0<=(i:Int)/\(i:Int)<((cF (A.set i d)).es.length:Nat):=by grind[cF]
   have I:i<(cF (A.set i d)).es.length:=by omega
   simp only[go_sem,h1,U];refine aL (FI r' n (by omega) J) ?_;simp only[go_sem,X,F,O,b3,ai,aQ d];refine⟨rfl,⟨I,Nat.zero_lt_one⟩,rfl,bP so3 O ⟨I,rfl,Xae 1⟩ ?_⟩;generalize hP:aI H j _=HP;have ak:HP j=some (cF (A.set i (d+1))):=by rw[<-hP,aB];refine(congrArg some (Dw (q:=d+1) hg)).trans ?_;rw[List.set_set]
   simp only[go_sem,h0,h1,X,F];refine⟨⟨d+1,r'-n,rfl,ak,by grind⟩,?_⟩;show ajN (dg (r'-n))<ajN (dg r')
   grind[awK]
  ·have E:r'<n:=by grind
   have ah:R/n=d:=by rw[<-hd,Nat.add_comm,Nat.add_mul_div_right _ _ hn,Nat.div_eq_of_lt E,Xby]
   have aj:R%n=r':=by grind[Nat.add_mul_mod_self_right,Xbu]
   rw[ah,aj]at hV;simp only[go_sem,h0,h1,X,U,F,show IntKind.i64.wrap ((i:Int)-1)=(i:Int)-1 from aW (by omega)];refine⟨⟨i,r',A.set i d,by omega,rfl,rfl,O,Z.set aa,by grind,E,fun q hq=>?_,hV⟩,by grind[GA]⟩
   grind
 ·have af:k=0:=by grind
  subst af;rw[Xbg,Xbg,om]at hv;have ap:m/n=ofL 10 A:=by simp_all[Nat.add_comm,Nat.add_mul_div_right]
  have ao:m%n=r:=by grind[Nat.add_mul_mod_self_right,Xbu]
  simp only[go_sem,X];refine PC.useF [j] (.cons _ _ _ _ (.row _ _ _ (by simp only[Xbc,if_true];exact O) (ConvE.refl _)) .nil) (Kz Z (by omega) ap.symm) ?_;simp only[go_sem,U,ao];exact .refl _
theorem Hy(m:Nat):(bB 10 m).length<=(dec m).size:=by
 by_cases h:m=0
 ·grind[eZ]
 ·have:=congrArg List.length (GV h)
  grind[jY,txt]
def tM{m:Nat}(h:m<cN):(bB 10 m).length<=4096:=by grind[Hy,kW]
def Bp(m:Bool)(n:Nat)(h:(bB 10 n).length<=1048576):PC prog 123 [boo m,dg n] (str (zed (sg m n))):=by
 have:=acT m (bB 10 n) (cL (by decide) n) h
 rwa [cQ (by decide)]at this
def atJ(s:ByteArray)(h:s.size<=1048576):PC prog 241 [str s] (int (CL s)):=by
 have T:=eA s;refine pcd func241 rfl rfl ?_;simp only[go_sem];refine aL (AM s h) ?_;simp only[go_sem,qK];apply aA <;> intro E
 ·simp only[go_sem]
  grind[cI,CL,nG,dH,cV]
 have A:fN s=true/\eqB s (dec 0)=false:=by grind
 obtain⟨A,h0⟩:=A;have O:0<s.size:=by grind[yG,fN,eQ,fS]
 simp only[go_sem];have F:=CI s;rw[show decide ((s.size:Int)>0)=true by grind,Xay]at F;rw[F];have U:zed (jC s)=s:=xR A;have I:iI s=decide (jC s<0):=by grind[xQ]
 have J:jC s≠0:=fun e=>pP.1 h0 (by grind[dH])
 refine⟨⟨by omega,by omega⟩,?_⟩;rw[I];apply aA <;> intro E
 ·have:=of_decide_eq_true E;simp only[go_sem];simp_all[cI,CL,Int.sign_eq_neg_one_of_neg]
 ·have:=of_decide_eq_false E;simp only[go_sem];exact cI (by unfold CL;grind)
def agA{s:ByteArray}:lX s s=0->∃n:Int,s=zed n/\n.natAbs<cN:=fun h=>by grind[tF]
def amN(s:ByteArray)(h:s.size<=1048576):PC prog 176 [str s] (.tup (if lX s s=0 then[str (dec (jC s).natAbs),int 0]else[str emp,int (lX s s)])):=by
 have A:=Fm s s h h;by_cases E:lX s s=0
 ·rw[if_pos E];rw[E]at A;obtain⟨n,rfl,I⟩:=agA E;have J:=tM I;refine pcd func176 rfl rfl ?_;simp only[go_sem];refine aL A ?_;simp only[go_sem];refine aA (fun F=>by cases F) (fun _=>?_);simp only[go_sem];refine aL (rS n h) ?_;simp only[go_sem];refine aL (Bp false n.natAbs (by omega)) ?_;simp only[go_sem];rw[cV,show sg false n.natAbs=((n.natAbs:Nat):Int)from rfl,dH];exact .refl _
 ·rw[if_neg E];refine pcd func176 rfl rfl ?_;simp only[go_sem];refine aL A ?_;simp only[go_sem];refine aA (fun _=>?_) (fun F=>absurd (by grind) E);simp only[go_sem];exact .refl _
def aBq(a b:Bool)(m n:Nat)(I:(bB 10 m).length<=1048570)(J:(bB 10 n).length<=1048570)(F:(bB 10 (m+n)).length<=1048576):PC prog 240 [boo a,dg m,boo b,dg n] (str (zed (sg a m+sg b n))):=by
 refine pcd func240 rfl rfl ?_;simp only[go_sem];apply aA <;> intro h
 ·have A:a=b:=by grind
  subst A;simp only[go_sem];refine aL (abS m n (by omega) (by omega)) ?_;simp only[go_sem];refine aL (Bp a (m+n) F) ?_;simp only[go_sem];rw[show sg a (m+n)=sg a m+sg a n by grind[sg]];exact .refl _
 have A:b= !a:=by cases a <;> cases b <;> simp_all
 subst A;simp only[go_sem];refine aL (BH m n (by omega) (by omega)) ?_;simp only[go_sem,Qf];apply aA <;> intro E
 ·have E:n<=m:=by grind
  simp only[go_sem];refine aL (FI m n (by omega) E) ?_;simp only[go_sem];have:=cO (b:=10) (by decide) (show m-n<=m by omega);refine aL (Bp a (m-n) (by omega)) ?_;simp only[go_sem];rw[show sg a (m-n)=sg a m+sg (!a) n by grind[sg]];exact .refl _
 ·have E:m<n:=by grind
  simp only[go_sem];refine aL (FI n m (by omega) (by omega)) ?_;simp only[go_sem];have:=cO (b:=10) (by decide) (show n-m<=n by omega);refine aL (Bp (!a) (n-m) (by omega)) ?_;simp only[go_sem];rw[show sg (!a) (n-m)=sg a m+sg (!a) n by grind[sg]];exact .refl _
def TI(a b:ByteArray)(ha:a.size<=1048570)(hb:b.size<=1048570):PC prog 122 [str a,str b] (int (TW a b)):=by
 refine pcd func122 rfl rfl ?_;simp only[go_sem];refine aL (AM a (by omega)) ?_;simp only[go_sem];refine⟨_,fun _=>(AM b (by omega)).q rfl,?_⟩;simp only[go_sem];apply aA <;> intro Y
 ·simp only[go_sem];refine cI ?_;unfold TW
  grind
 have F:fN a=true/\fN b=true:=by grind
 rw[show TW a b=iH (jC a) (jC b)from if_pos F];have O:=xR F.1;have U:=xR F.2;have X:(bB 10 (jC a).natAbs).length<=1048570:=by grind[Hy,F2,lK]
 have Z:(bB 10 (jC b).natAbs).length<=1048570:=by grind[Hy,F2,lK]
 have J:=rS (jC a) (by grind);have I:=rS (jC b) (by grind);rw[O]at J;rw[U]at I;generalize jC a=m at *;generalize jC b=n at *;simp only[go_sem];refine aL J ?_;simp only[go_sem];refine aL I ?_;simp only[go_sem];apply aA <;> intro T
 ·have T:m<0/\n<0:=by grind
  simp only[go_sem];refine aL (BH n.natAbs m.natAbs (by omega) (by omega)) ?_;simp only[go_sem]
  grind[cI,iH]
 ·simp only[go_sem];apply aA <;> intro E
  ·have E:m<0:=of_decide_eq_true E;have A:¬n<0:=fun h=>by grind
   simp only[go_sem]
   grind[cI,mB]
  ·have E:¬m<0:=of_decide_eq_false E;simp only[go_sem];apply aA <;> intro A
   ·have A:n<0:=of_decide_eq_true A;simp only[go_sem]
    grind[cI,lZ]
   ·have A:¬n<0:=of_decide_eq_false A;simp only[go_sem];refine aL (BH m.natAbs n.natAbs (by omega) (by omega)) ?_;simp only[go_sem]
    grind[cI]
def ZI{n:Int}{k:Nat}(h:(bB 10 n.natAbs).length<=k):(zed n).size<=k+2:=by
 have h1:(gG (zed n)).size=(dec n.natAbs).size:=by rw[lK]
 have A:(dec n.natAbs).size<=k+1:=by
  rw[jY];by_cases h0:n.natAbs=0
  ·grind[Lib.decDigits_one]
  ·have:=congrArg List.length (GV h0)
   grind[txt]
 grind[gG,eA,mY]
def acV(m n:Nat):(bB 10 (m+n)).length<=max (bB 10 m).length (bB 10 n).length+1:=by refine iZ (by decide) ?_;have h1:=lE (b:=10) (by decide) (cL (b:=10) (by decide) m);have A:=lE (b:=10) (by decide) (cL (b:=10) (by decide) n);rw[cQ (by decide)]at h1 A;have E:10^(bB 10 m).length<=10^max (bB 10 m).length (bB 10 n).length:=Xah (by decide) (by omega);have F:10^(bB 10 n).length<=10^max (bB 10 m).length (bB 10 n).length:=Xah (by decide) (by omega);omega
def auP(m n:Nat):(bB 10 (m*n)).length<=(bB 10 m).length+(bB 10 n).length:=by refine iZ (by decide) ?_;have h1:=lE (b:=10) (by decide) (cL (b:=10) (by decide) m);have A:=lE (b:=10) (by decide) (cL (b:=10) (by decide) n);simp_all[cQ,Nat.pow_add,Nat.mul_lt_mul'']
def aBl(a b:ByteArray)(E:a.size<=1048576)(I:b.size<=1048576):PC prog 180 [str a,str b] (.tup [str (Fg a b).1,int (Fg a b).2]):=by
 refine pcd func180 rfl rfl ?_;simp only[go_sem];refine aL (Fm a b E I) ?_;simp only[go_sem];apply aA <;> intro h
 ·have h:lX a b≠0:=by grind
  simp only[go_sem];rw[show Fg a b=(emp,lX a b)from if_neg h];exact .refl _
 have h:lX a b=0:=by grind
 rw[show Fg a b=szZ (jC a+jC b)from if_pos h];obtain⟨m,n,rfl,rfl,F,J⟩:=tF h;have U:=tM F;have T:=tM J;have O:=acV m.natAbs n.natAbs;have A:=cO (b:=10) (by decide) (show(m+n).natAbs<=m.natAbs+n.natAbs by omega);have X:=ZI (n:=m+n) (Xae _);rw[cV,cV];simp only[go_sem];refine aL (rS m (by omega)) ?_;simp only[go_sem];refine aL (rS n (by omega)) ?_;simp only[go_sem];refine aL (aBq _ _ m.natAbs n.natAbs (by omega) (by omega) (by omega)) ?_;rw[Lw,Lw];simp only[go_sem];refine aL (Om (m+n) (by omega)) ?_;simp only[go_sem];exact .refl _
def Md(a b:ByteArray)(E:a.size<=1048576)(I:b.size<=1048576):PC prog 179 [str a,str b] (.tup [str (zR a b).1,int (zR a b).2]):=by
 refine pcd func179 rfl rfl ?_;simp only[go_sem];refine aL (Fm a b E I) ?_;simp only[go_sem];apply aA <;> intro h
 ·have h:lX a b≠0:=by grind
  simp only[go_sem];rw[show zR a b=(emp,lX a b)from if_neg h];exact .refl _
 have h:lX a b=0:=by grind
 rw[show zR a b=szZ (jC a*jC b)from if_pos h];obtain⟨m,n,rfl,rfl,F,J⟩:=tF h;have U:=tM F;have T:=tM J;have O:=auP m.natAbs n.natAbs;have X:=ZI (n:=m*n) (k:=8192) (by grind[Int.natAbs_mul]);have A:sg (decide (m<0) != decide (n<0)) (m.natAbs*n.natAbs)=m*n:=by
  unfold sg
  grind
 rw[cV,cV];simp only[go_sem];refine aL (rS m (by omega)) ?_;simp only[go_sem];refine aL (rS n (by omega)) ?_;simp only[go_sem];refine aL (aoW m.natAbs n.natAbs (by omega) (by omega)) ?_;simp only[go_sem];refine aL (Bp _ (m.natAbs*n.natAbs) (by omega)) ?_;rw[show sg (!(decide (m<0) == decide (n<0))) (m.natAbs*n.natAbs)=m*n from A];simp only[go_sem];refine aL (Om (m*n) (by omega)) ?_;simp only[go_sem];exact .refl _
def aBJ:dg 1=.sl [[int 1]]:=by
 have:bB 10 1=[1]:=by grind[pB,eZ]
 simp only[dg,this];rfl
def RB(a b:ByteArray)(ha:a.size<=1048576)(E:b.size<=1048576):PC prog 121 [str a,str b] (.tup [str (nE a b).1,str (nE a b).2.1,int (nE a b).2.2]):=by
 refine pcd func121 rfl rfl ?_;simp only[go_sem];refine aL (Fm a b ha E) ?_;simp only[go_sem];apply aA <;> intro h
 ·have h:lX a b≠0:=by grind
  simp only[go_sem];rw[show nE a b=(emp,emp,lX a b)from if_neg h];exact .refl _
 have h:lX a b=0:=by grind
 obtain⟨m,n,rfl,rfl,hm,hn⟩:=tF h;have lm:=tM hm;have ln:=tM hn;have e:nE (zed m) (zed n)=if n=0 then(emp,emp,10)else(zed (m.fdiv n),zed (m.fmod n),0):=by simp_all[nE,cV]
 rw[e];simp only[go_sem];refine aL (rS m (by omega)) ?_;simp only[go_sem];refine aL (rS n (by omega)) ?_;simp only[go_sem,Xac];apply aA <;> intro aa
 ·have h0 : n = 0 := by
   have:(bB 10 n.natAbs).length=0:=by grind
   grind[tB]
  simp only[go_sem];rw[if_pos h0];exact .refl _
 have h0:n≠0:=fun e=>by simp_all[eZ]
 have I:0<n.natAbs:=by omega
 rw[if_neg h0];simp only[go_sem];refine aL (aiV m.natAbs n.natAbs (by omega) I (by omega)) ?_;simp only[go_sem,Xac];have F:=Xbh m.natAbs I;have lq:=cO (b:=10) (by decide) (Xbv m.natAbs n.natAbs);have lr:=cO (b:=10) (by decide) (Nat.le_of_lt F);have hz:decide (((bB 10 (m.natAbs%n.natAbs)).length:Int)>0)= !decide (m.natAbs%n.natAbs=0):=by
  rw[<-decide_not,decide_eq_decide]
  grind[bB]
 rw[hz];refine bO (fun A H'=>∃q r:Nat,A 8=boo (decide (m<0))/\A 10=boo (decide (n<0))/\A 12=dg q/\A 13=dg r/\(bB 10 q).length<=5000/\(bB 10 r).length<=5000/\sg (!(decide (m<0) == decide (n<0))) q=m.fdiv n/\sg (decide (n<0)) r=m.fmod n) ?_ fun K Y=>aA (fun E=>?_) (fun E=>?_)
 rotate_left
 ·have E:decide (m<0)≠decide (n<0)/\m.natAbs%n.natAbs≠0:=by grind
  obtain⟨T,O⟩:=I1 h0 E.1 E.2;have la:=acV (m.natAbs/n.natAbs) 1;have l1:(bB 10 1).length=1:=by grind[pB,eZ]
  have l2:=cO (b:=10) (by decide) (show n.natAbs-m.natAbs%n.natAbs<=n.natAbs by omega);have Z:=abS (m.natAbs/n.natAbs) 1 (by omega) (by omega);rw[aBJ]at Z;simp only[go_sem];refine aL Z ?_;simp only[go_sem];refine aL (FI n.natAbs (m.natAbs%n.natAbs) (by omega) (by omega)) ?_;simp only[go_sem];refine Y _ _ ⟨m.natAbs/n.natAbs+1,n.natAbs-m.natAbs%n.natAbs,rfl,rfl,rfl,rfl,by omega,by omega,?_,O.symm⟩;simp_all[sg]
 ·have E:decide (m<0)=decide (n<0)\/m.natAbs%n.natAbs=0:=by grind
  obtain⟨T,O⟩:=OA h0 E;simp only[go_sem];exact Y _ _ ⟨_,_,rfl,rfl,rfl,rfl,by omega,by omega,T.symm,O.symm⟩
 rintro ρ H ⟨q,r,h8,J,X,U,hq,hr,T,O⟩;simp only[go_sem,h8,J,X];refine aL (Bp _ q (by omega)) ?_;simp only[go_sem,J,U];refine aL (Bp _ r (by omega)) ?_;simp only[go_sem,T,O];exact .refl _
def aCh:AV->Nat
 | .v (.int _ z)=>z.natAbs
 | _=>0
theorem apJ(k:IntKind)(z:Int):aCh (.v (.int k z))=z.natAbs:=(rfl)
def aCu(n:Int)(h0: -9223372036854775808<=n)(h1:n<=9223372036854775807):PC prog 59 [int n] (str (zed n)):=by
 refine pcb (fun t=>t == 3) func59 rfl rfl ?_;simp only[go_sem];refine aH fun j hj=>?_
 simp only[go_sem];refine⟨fun ρ H=>∃(z:Int) (j:Nat) (o:List Nat),ρ 0=int z/\ρ 3=.os j/\ρ 4=boo (decide (n<0))/\H j=some (cF o)/\Lim 10 o/\o.length+(bB 10 z.natAbs).length=(bB 10 n.natAbs).length/\(z<0->n<0)/\(0<z->0<n)/\ -9223372036854775808<=z/\z<=9223372036854775807/\ofL 10 o+10^o.length*z.natAbs=n.natAbs,fun ρ _=>aCh (ρ 0),
  ⟨n,j,[],rfl,rfl,rfl,DR,by simp[Lim],by simp,id,id,h0,h1,by simp[ofL]⟩,?_⟩
 have ag:(bB 10 n.natAbs).length<=20:=iZ (by decide) (by omega);rintro ρ H ⟨z,j,o,F,O,T,I,ho,ai,ab,aa,b0,b1,X⟩;simp only[go_sem,F,];apply aA <;> intro E
 ·have hz:z≠0:=by grind
  have ac:z.natAbs≠0:=by omega
  have em:(z.tmod 10).natAbs=z.natAbs%10:=by simp
  have ed:(z.tdiv 10).natAbs=z.natAbs/10:=by grind
  have Z:z.tdiv 10<0->z<0:=fun h=>by grind
  have Y:0<z.tdiv 10->0<z:=fun h=>by grind
  have ae:ofL 10 (o++[z.natAbs%10])+10^(o++[z.natAbs%10]).length*(z.natAbs/10)=n.natAbs:=by
   rw[<-X,xV,Xar,Xag,List.length_nil,Xbo]
   grind[Nat.mod_add_div]
  have J:z.natAbs%10<10:=Xbh _ (by decide);have ah:(o++[z.natAbs%10]).length+(bB 10 (z.natAbs/10)).length=(bB 10 n.natAbs).length:=by grind[pB]
  have ew:IntKind.i64.wrap (z.tdiv 10)=z.tdiv 10:=aW (by omega);simp only[go_sem,F,];refine⟨by decide,?_⟩;refine bO (fun A H'=>A 0=int z/\A 3=.os j/\A 4=boo (decide (n<0))/\A 5=int (z.natAbs%10:Nat)/\H' j=some (cF o)) ?_ fun K hK=>aA (fun E=>?_) (fun E=>?_)
  rotate_left
  ·have E:=of_decide_eq_true E;have U:IntKind.i64.wrap (0-z.tmod 10)=((z.natAbs%10:Nat):Int):=by grind[aW]
   simp only[go_sem,U];exact hK _ _ ⟨F,O,T,rfl,I⟩
  ·have E:=of_decide_eq_false E;have U:z.tmod 10=((z.natAbs%10:Nat):Int):=by omega
   simp only[go_sem];exact hK _ _ ⟨F,O,T,by simp only[go_sem];rw[U],I⟩
  rintro ρ H ⟨F,O,T,e5,I⟩;simp only[go_sem,O,e5];refine aU I ⟨rfl,rfl⟩ ⟨rfl,trivial⟩ (by grind[cF]) (fun j' af=>?_);simp only[go_sem,F,T,ew];refine⟨by decide,⟨z.tdiv 10,j',_,rfl,rfl,sB,ho.snoc J,?_,fun h=>ab (Z h),fun h=>aa (Y h),by omega,by omega,?_⟩,?_⟩
  all_goals grind[apJ]
 ·have hz:z=0:=by grind
  subst hz;simp only[go_sem,O,T];rw[show(0:Int).natAbs=0 from rfl,Nat.mul_zero,Nat.add_zero]at X;have ht:=acT (decide (n<0)) o ho (by omega);rw[X,Lw]at ht;refine PC.useF [j] (.cons _ _ _ _ (.refl _) (.cons _ _ _ _ (.row _ _ _ (by simp only[Xbc,if_true];exact I) (ConvE.refl _)) .nil)) ht ?_;simp only[go_sem];exact .refl _
def Oq(s:ByteArray)(h:s.size<=1048576):PC prog 175 [str s] (int (gG s).size):=by
 have F:=eA s;refine pcd func175 rfl rfl ?_;simp only[go_sem];refine⟨fun h=>⟨by omega,by grind⟩,?_⟩;rw[CI];have I:(gG s).size=s.size-stN s:=by grind[eA,yG]
 have A:=PI s;apply aA <;> intro E
 ·have:stN s=1:=if_pos E;simp only[go_sem]
  grind[cI,aW]
 ·have:stN s=0:=if_neg (by grind);simp only[go_sem]
  grind[cI]
def aCg{l:List UInt8}{k:Nat}{c:UInt8}(F:∀x∈l.take k,(x != gC)=true)(A:l[k]?=some c)(h:c=gC):l.any (· == gC)=true/\l.takeWhile (· != gC)=l.take k/\(l.dropWhile (· != gC)).drop 1=l.drop (k+1):=by
 obtain⟨E,e⟩:=List.getElem?_eq_some_iff.1 A;have I:l=l.take k++gC::l.drop (k+1):=by grind[Xbt,Xbq]
 grind[O6,OP]
def U5(s:ByteArray)(h:s.size<=1048576):PC prog 172 [str s] (.tup [str (hJ s),str (iF s),boo (mV s)]):=by
 have Z:=eA s;refine pcd func172 rfl rfl ?_;simp only[go_sem];refine⟨fun ρ _=>∃k:Nat,k<=(bl s).length/\ρ 0=str s/\ρ 5=int k/\∀c∈(bl s).take k,(c != gC)=true,fun ρ _=>(bl s).length-aT (ρ 5),⟨0,Xaa _,rfl,rfl,by simp⟩,?_⟩;rintro ρ H ⟨k,hk,h0,J,I⟩;simp only[go_sem,h0,J];refine aA (fun E=>?_) (fun F=>?_)
 ·have E:k<(bl s).length:=by grind
  obtain⟨c,O⟩:=aK E;simp only[go_sem,h0,J,vP O];refine⟨⟨by omega,by omega⟩,?_⟩;rw[show(((c.toNat:Nat):Int) == 47)=(c == gC)from Xp c gC];apply aA <;> intro T
  ·have T:c=gC:=by grind
   obtain⟨t1,Y,X⟩:=aCg I O T;have e1:s.extract 0 k=hJ s:=mQ (by rw[gW,Xbg,<-Y];rfl);have A:mV s=true:=t1;have U:s.extract (k+1) s.size=iF s:=mQ (by rw[gW,<-Z,Xad,<-X];simp_all[iF,mY]);simp only[go_sem];refine dC ?_;simp only[go_sem,h0,J,aQ k,Xal,e1,U];rw[A];exact⟨⟨by omega,by omega⟩,⟨by omega,by omega⟩,.refl _⟩
  ·have T:c≠gC:=by grind
   simp only[go_sem,h0,J,aQ k];exact⟨⟨k+1,E,rfl,dW O (by grind) I⟩,by grind[aJ]⟩
 ·have F:k=(bl s).length:=by grind
  subst F;rw[Xad]at I;have A:mV s=false:=J9 I;simp only[go_sem,h0];rw[A,Pc A,UY A,<-FT];exact .refl _
def B9(n:Int)(h0: -9223372036854775808<=n)(h1:n<=9223372036854775807):PC prog 21 [int n] (str (zed n)):=by refine pcd func21 rfl rfl ?_;simp only[go_sem];refine aL (aCu n h0 h1) ?_;simp only[go_sem];exact .refl _
def uO(s:ByteArray)(h:s.size<=1048576):PC prog 116 [str s] (boo (bZ s)):=by
 have hn:=DM s;have hd:=Oo s;have h1:(1:Nat)<=1048576:=by omega
 refine pcd func116 rfl rfl ?_;simp only[go_sem];refine aL (U5 s h) ?_;simp only[go_sem];refine aL (AM (hJ s) (by omega)) ?_;simp only[go_sem];refine⟨_,fun _=>(C5 (iF s) (by omega)).q rfl,?_⟩;simp only[go_sem];refine⟨_,fun _=>(Oq (hJ s) (by omega)).q rfl,?_⟩;simp only[go_sem];refine⟨_,fun _=>(Oq (iF s) (by omega)).q rfl,?_⟩;simp only[go_sem];apply aA <;> intro hb
 ·simp only[go_sem]
  grind[cB,K9,bZ]
 have A:eQ (iF s)=true:=by grind
 have E:(!fN (hJ s)||decide (((gG (hJ s)).size:Int)>4096)||decide (((gG (iF s)).size:Int)>4096))=false:=by grind
 obtain⟨f1,f2,f3,U⟩:=Cu E A;simp only[go_sem];apply aA <;> intro hs
 ·simp only[go_sem]
  grind[cB,bZ]
 have h0:mV s=true:=by grind
 simp only[go_sem,qK,Ha];apply aA <;> intro F
 ·simp only[go_sem];refine cB ?_;unfold bZ
  grind
 simp only[Xam]at F;obtain⟨⟨h5,O⟩,h4⟩:=F;have v0:gU (iF s)≠0:=fun e=>pP.1 O (by grind[kU])
 have Z:gU (iF s)<cN:=(E8 A).1 U;have X:lX (hJ s) (hJ s)=0:=by grind[lX]
 have I:=amN (hJ s) (by omega);rw[if_pos X]at I;have J:(jC (hJ s)).natAbs<cN:=by grind[tJ,xR]
 have Y:=kU A;have T:=anH (dec (jC (hJ s)).natAbs) (iF s) (dV J) (by omega);have e:Ce (dec (jC (hJ s)).natAbs) (iF s)=(dec (Nat.gcd (jC (hJ s)).natAbs (gU (iF s))),0):=by unfold Ce;rw[if_pos (JS (oS _) A ((kW _).2 J) U),eG,Bt (Nat.lt_of_le_of_lt (Nat.gcd_le_right _ (by omega)) Z)]
 rw[e]at T;simp only[go_sem];refine aL I ?_;simp only[go_sem];refine aL T ?_;simp only[go_sem,Ha];refine cB ?_;unfold bZ;rw[f1,h0,O,h4,h5];simp only[beq_self_eq_true,Xay,Xcc,Xbx,Xbl];rw[Xaz,nG,tE,Xau]
def TA(s:ByteArray)(h:s.size<=1048576):PC prog 120 [str s] (.tup (if bZ s=true then[str (hJ s),str (iF s),int 0]else[str emp,str emp,int 3])):=by
 by_cases A:bZ s=true
 ·rw[if_pos A];refine pcd func120 rfl rfl ?_;simp only[go_sem];refine aL (uO s h) ?_;simp only[go_sem,A];refine aA (fun E=>by cases E) (fun _=>?_);simp only[go_sem];refine aL (U5 s h) ?_;simp only[go_sem];exact .refl _
 ·rw[if_neg A];have A:bZ s=false:=by grind
  refine pcd func120 rfl rfl ?_;simp only[go_sem];refine aL (uO s h) ?_;simp only[go_sem,A];refine aA (fun _=>?_) (fun E=>by cases E);simp only[go_sem];exact .refl _
def JI{α:Type}{l:List α}{k:Nat}{x:α}(h:l[k]?=some x):l.drop k=x::l.drop (k+1):=by grind[Xbq]
def U2(ns:List Int)(xs:List ByteArray)(hn:∀n∈ns,-9223372036854775808<=n/\n<=9223372036854775807)(hl:xs.length<=1048576)(hs:∀s∈xs,s.size<=1048576):
  PC prog 151 [.sl (ns.map aP),.sl (xs.map Go.Aw.D.dK)] (.tup [str (eV ns xs).1,int (eV ns xs).2]):=by
 refine pcd func151 rfl rfl ?_;simp only[go_sem];refine aA (fun U=>?_) (fun aa=>?_)
 ·have U:ns.length≠xs.length:=neN U;simp only[go_sem];rw[show eV ns xs=(emp,2)from if_pos U];exact .refl _
 have aa:ns.length=xs.length:=eqN aa;have e0:eV ns xs=if xs.any (fun x=> !bZ x)=true then(emp,3)else pR (ns.zip xs) (dec 0):=if_neg (by omega)
 rw[e0];simp only[go_sem,Xac];refine⟨fun ρ H=>∃(k:Nat),k<=xs.length/\ρ 0=.sl (ns.map aP)/\ρ 1=.sl (xs.map Go.Aw.D.dK)/\ρ 18=.sl (xs.map Go.Aw.D.dK)/\ρ 19=int xs.length/\ρ 20=int k/\∀s∈xs.take k,bZ s=true,fun ρ _=>xs.length-aT (ρ 20),
  ⟨0,Xaa _,rfl,rfl,rfl,by rfl,by rfl,by simp⟩,?_⟩
 rintro ρ H ⟨k,hk,h0,h1,Y,X,J,hz⟩;simp only[go_sem,X,J];refine aA (fun A=>?_) (fun F=>?_)
 ·have A:=ltB A;obtain⟨s,E⟩:=aK A;have b1:=inB A;simp only[go_sem,Y,J,aC E,b1];refine aL (xA s (hs s (Xab E))) ?_;simp only[go_sem,];refine aA (fun O=>?_) (fun O=>?_)
  ·simp only[go_sem];rw[if_pos (FM E O)];exact .refl _
  ·simp only[go_sem,h0,h1,Y,X,J,aQ k];exact⟨⟨k+1,A,rfl,dW E (by grind) hz⟩,by grind[aJ]⟩
 have F:=geB hk F;subst F;rw[Xad]at hz;have hR:xs.any (fun s=> !bZ s)=false:=CG fun s hs=>by grind
 rw[hR];simp only[go_sem,h1,Xac];refine⟨fun ρ H=>∃(k:Nat) (t:ByteArray),k<=xs.length/\ρ 0=.sl (ns.map aP)/\ρ 28=.sl (xs.map Go.Aw.D.dK)/\ρ 29=int xs.length/\ρ 8=str t/\ρ 30=int k/\t.size<=1048576/\pR (ns.zip xs) (dec 0)=pR ((ns.zip xs).drop k) t,fun ρ _=>xs.length-aT (ρ 30),
  ⟨0,dec 0,Xaa _,h0,rfl,by rfl,by simp only[go_sem];rw[uM],by rfl,by rw[<-uM];decide,rfl⟩,?_⟩
 clear h0 h1 Y X J;rintro ρ H ⟨k,t,hk,h0,Z,ac,h8,T,ht,af⟩;rw[af];have aj:(ns.zip xs).length=xs.length:=by grind
 simp only[go_sem,ac,T];refine aA (fun A=>?_) (fun F=>?_)
 ·have A:=ltB A;obtain⟨s,E⟩:=aK A;obtain⟨n,ae⟩:=aK (l:=ns) (k:=k) (by omega);have b1:=inB A;have b2:=inB (show k<ns.length by omega);have ag:=hs s (Xab E);have ab:=hn n (Xab ae);have ah:(ns.zip xs)[k]?=some (n,s):=by grind
  have ai:n.natAbs<cN:=ET (k:=20) (by omega) (by decide);have ak:=Go.Nu.dP ai;rw[JI ah,pR];simp only[go_sem,h0,Z,T,aC E,aC ae,b1,b2];refine aL (Es n ab.1 ab.2) ?_;simp only[go_sem,];refine aL (aAl (zed n) s (by omega) ag) ?_;simp only[go_sem,];refine aA (fun O=>?_) (fun O=>?_)
  ·have O:(yE (zed n) s).2≠0:=by grind
   simp only[go_sem];rw[if_pos O];exact .refl _
  have O:(yE (zed n) s).2=0:=by grind
  have hm:=uS (J7 O);rw[if_neg (by omega)];generalize (yE (zed n) s).1=m at *;simp only[go_sem,h8];refine aL (CY t m ht (by omega)) ?_;simp only[go_sem,];refine aA (fun I=>?_) (fun I=>?_)
  ·have I:(Az t m).2≠0:=by grind
   simp only[go_sem];rw[if_pos I];exact .refl _
  have I:(Az t m).2=0:=by grind
  have ha:=uS (E9 I);rw[if_neg (by omega)];simp only[go_sem,h0,Z,ac,T,aQ k]
  grind[aJ]
 ·have F:=geB hk F;subst F;rw[List.drop_of_length_le (by omega)];simp only[go_sem,h8];exact .refl _
def NU(n:Int)(d:Nat)(O:d≠0)(E:n.natAbs<cN)(A:d<cN):PC prog 181 [str (zed n),str (dec d)] (str (qU (mkRat n d))):=by
 have Z:=NA (n:=n) O A;have aa:=aaP (n:=n) O;have F:=F0 O E A;have zn:=dP E;have T:=dV A;have eg:nE (zed n) (dec (Nat.gcd n.natAbs d))=(zed (mkRat n d).num,zed (n.fmod (Nat.gcd n.natAbs d:Nat)),0):=by unfold nE;rw[<-dH,if_pos (sC E (by omega)),cV,cV,if_neg (by omega),Zw O]
 have ed:nE (dec d) (dec (Nat.gcd n.natAbs d))=(dec (mkRat n d).den,zed ((d:Int).fmod (Nat.gcd n.natAbs d:Nat)),0):=by unfold nE;rw[<-dH,<-dH,if_pos (sC (by omega) (by omega)),cV,cV,if_neg (by omega),ZH O,dH]
 have hE:lX (zed n) (zed n)=0:=sC E E;have X:=amN (zed n) zn;rw[if_pos hE,cV]at X;have U:CL (dec d)=1:=by unfold CL;rw[<-dH,if_pos (xF _),cV,Int.sign_eq_one_of_pos (by omega)]
 have Y:=atJ (dec d) T;rw[U]at Y;have J:=anH (dec n.natAbs) (dec d) (dV E) T;rw[show Ce (dec n.natAbs) (dec d)=(dec (Nat.gcd n.natAbs d),0)by simp_all[Ce,AS,eG,Bt]]at J;refine pcd func181 rfl rfl ?_;simp only[go_sem];refine aL Y ?_;simp only[go_sem];refine aA (fun I=>by cases I) (fun _=>?_);simp only[go_sem];refine aL X ?_;simp only[go_sem];refine aL J ?_;simp only[go_sem];refine aL (RB (zed n) (dec (Nat.gcd n.natAbs d)) zn (dV Z)) ?_;rw[eg];simp only[go_sem];refine aL (RB (dec d) (dec (Nat.gcd n.natAbs d)) T (dV Z)) ?_;rw[ed];simp only[go_sem,Ha];generalize mkRat n d=x at *;refine aA (fun I=>?_) (fun I=>?_)
 ·have h1:x.den=1:=tE.1 (nG.1 I);simp only[go_sem];rw[show qU x=zed x.num from if_pos h1];exact .refl _
 ·have h1:x.den≠1:=fun e=>pP.1 I (by rw[e])
  simp only[go_sem];have z1:=dP F.1;have z2:=dV F.2;have z3:(zed x.num++slB).size=(zed x.num).size+1:=by rw[ByteArray.size_append];rfl
  refine⟨by simp_all;omega,?_⟩;refine⟨by simp_all;omega,?_⟩;rw[show qU x=zed x.num++slB++dec x.den from if_neg h1];exact .refl _
def Eu(a b:ByteArray):List AV:=if(bZ a&&bZ b)=true then[str (hJ a),str (iF a),str (hJ b),str (iF b)]else[str emp,str emp,str emp,str emp]
def MR(a b:ByteArray):Int:=if(bZ a&&bZ b)=true then 0 else 3
def XK(a b:ByteArray)(O:a.size<=1048576)(A:b.size<=1048576):PC prog 57 [str a,str b] (.tup [.agg (Eu a b),int (MR a b)]):=by
 have T:=TA a O;have I:=TA b A;refine pcd func57 rfl rfl ?_;simp only[go_sem];refine aH fun j Y=>?_
 have R:=aB bN j (some ⟨135,4,[[str emp,str emp,str emp,str emp]]⟩);have R:(aI bN j (some { e:=135,sz:=4,es:=[[AV.v (Value.string ByteArray.empty),AV.v (Value.string ByteArray.empty),AV.v (Value.string ByteArray.empty),AV.v (Value.string ByteArray.empty)]] })) j=some ⟨135,4,[[str emp,str emp,str emp,str emp]]⟩:=R;generalize aI bN j _=H1 at R |-;simp only[go_sem];refine aL T ?_;cases h1:bZ a with
 | false=>
  simp only[Xbe,if_false];simp only[go_sem];refine aL I ?_;have X:Eu a b=[str emp,str emp,str emp,str emp]:=if_neg (by grind);have J:MR a b=3:=if_neg (by grind);rw[X,J];cases U:bZ b with
  | false=>
   simp only[Xbe,if_false];simp only[go_sem];refine aA (fun _=>?_) (fun A=>by cases A);simp only[go_sem];refine aG R (by simp) ?_;generalize E:aI H1 j _=HP;have F:HP j=some (⟨135,4,[[str emp,str emp,str emp,str emp]]⟩:Row):=by rw[<-E,aB];rfl
   simp only[go_sem,F];exact .refl _
  | true=>
   simp only[if_true];simp only[go_sem];refine aA (fun _=>?_) (fun A=>by cases A);simp only[go_sem];refine aG R (by simp) ?_;generalize E:aI H1 j _=HP;have F:HP j=some (⟨135,4,[[str emp,str emp,str emp,str emp]]⟩:Row):=by rw[<-E,aB];rfl
   simp only[go_sem,F];exact .refl _
 | true=>
  simp only[if_true];simp only[go_sem];refine aL I ?_;cases U:bZ b with
  | false=>
   simp only[Xbe,if_false];simp only[go_sem];refine aA (fun _=>?_) (fun A=>by cases A);simp only[go_sem];rw[show Eu a b=[str emp,str emp,str emp,str emp]from if_neg (by grind),show MR a b=3 from if_neg (by grind)];refine aG R (by simp) ?_;generalize E:aI H1 j _=HP;have F:HP j=some (⟨135,4,[[str emp,str emp,str emp,str emp]]⟩:Row):=by rw[<-E,aB];rfl
   simp only[go_sem,F];exact .refl _
  | true=>
   simp only[if_true];simp only[go_sem];refine aA (fun A=>by cases A) (fun _=>?_);simp only[go_sem];rw[show Eu a b=[str (hJ a),str (iF a),str (hJ b),str (iF b)]from if_pos (by grind),show MR a b=0 from if_pos (by grind)];refine aG R (by simp) ?_;generalize E:aI H1 j _=HP;have F:HP j=some (⟨135,4,[[str (hJ a),str (iF a),str (hJ b),str (iF b)]]⟩:Row):=by rw[<-E,aB];rfl
   simp only[go_sem,F];exact .refl _
def aA6(x y:Rat)(E:vG x)(F:vG y):PC prog 178 [str (zed x.num),str (zed y.num),str (dec x.den),str (dec y.den)] (.tup [str (Ip x y).1,int (Ip x y).2]):=by
 have O:((x.den:Int)).natAbs<cN:=by rw[Xbm];exact E.2
 have U:((y.den:Int)).natAbs<cN:=by rw[Xbm];exact F.2
 have I:=Md (zed x.num) (zed y.num) (dP E.1) (dP F.1);have J:=Md (zed x.den) (zed y.den) (dP O) (dP U);rw[uN E.1 F.1]at I;rw[uN O U,dH,dH]at J;unfold Ip;refine pcd func178 rfl rfl ?_;simp only[go_sem];refine aL I ?_;simp only[go_sem];refine aL J ?_;simp only[go_sem];cases h1:qD (x.num*y.num)with
 | true=>rw[tY h1];refine aA (fun _=>?_) (fun A=>by cases A);simp only[go_sem];exact .refl _
 | false=>
  rw[zZ h1];cases T:qD ((x.den:Int)*y.den)with
  | true=>rw[tY T];refine aA (fun _=>?_) (fun A=>by cases A);simp only[go_sem];exact .refl _
  | false=>
   rw[zZ T];have X:x.den*y.den<cN:=by grind[iU]
   have:=NU (x.num*y.num) (x.den*y.den) (Hu x y) (iU.1 h1) X;rw[<-dH,Int.natCast_mul]at this;refine aA (fun A=>by cases A) (fun _=>?_);simp only[go_sem];refine aL this ?_;simp only[go_sem];rw[<-YI];exact .refl _
def aBD(a b:ByteArray)(J:a.size<=1048576)(F:b.size<=1048576):PC prog 118 [str a,str b] (.tup [str (yE a b).1,int (yE a b).2]):=by
 have A:=XK a b J F;by_cases E:(bZ a&&bZ b)=true;rotate_left
 ·rw[show Eu a b=_ from if_neg E,show MR a b=_ from if_neg E]at A;rw[show yE a b=(emp,3)from if_neg E];refine pcd func118 rfl rfl ?_;simp only[go_sem];refine aL A ?_;simp only[go_sem];refine aH fun j Y=>?_
  simp only[go_sem];refine aG (aB _ _ _) (by simp) ?_;simp only[go_sem];refine aA (fun _=>?_) (fun F=>by cases F);simp only[go_sem];exact .refl _
 rw[show Eu a b=_ from if_pos E,show MR a b=_ from if_pos E]at A;rw[show yE a b=_ from if_pos E];simp only[Xak]at E;obtain⟨x,rfl,O,U,I⟩:=fH E.1;obtain⟨y,rfl,T,e3,e4⟩:=fH E.2;rw[U,I,e3,e4]at A;rw[gY,gY];have X:=aA6 x y O T;refine pcd func118 rfl rfl ?_;simp only[go_sem];refine aL A ?_;simp only[go_sem];refine aH fun j Y=>?_
 simp only[go_sem];refine aG (aB _ _ _) (by simp) ?_;generalize Z:aI (aI _ j _) j _=HP;have R2:HP j=some (⟨135,4,[[str (zed x.num),str (dec x.den),str (zed y.num),str (dec y.den)]]⟩:Row):=by rw[<-Z,aB];rfl
 simp only[go_sem];refine aA (fun F=>by cases F) (fun _=>?_);simp only[go_sem,R2]
 repeat (refine⟨by first|decide|omega,?_⟩)
 refine aL X ?_;simp only[go_sem];exact .refl _
def EY(a b:ByteArray)(ha:a.size<=1048576)(E:b.size<=1048576):PC prog 119 [str a,str b] (.tup [str (Az a b).1,int (Az a b).2]):=by
 have A:=XK a b ha E;by_cases F:(bZ a&&bZ b)=true;rotate_left
 ·rw[show Eu a b=_ from if_neg F,show MR a b=_ from if_neg F]at A;rw[show Az a b=(emp,3)from if_neg F];refine pcd func119 rfl rfl ?_;simp only[go_sem];refine aL A ?_;simp only[go_sem];refine aH fun j hj=>?_
  simp only[go_sem];refine aG (aB _ _ _) (by simp) ?_;simp only[go_sem];refine aA (fun _=>?_) (fun E=>by cases E);simp only[go_sem];exact .refl _
 rw[show Eu a b=_ from if_pos F,show MR a b=_ from if_pos F]at A;rw[show Az a b=_ from if_pos F];simp only[Xak]at F;obtain⟨x,rfl,T,e1,e2⟩:=fH F.1;obtain⟨y,rfl,U,e3,e4⟩:=fH F.2;rw[e1,e2,e3,e4]at A;rw[gY,gY];have I:((x.den:Int)).natAbs<cN:=by rw[Xbm];exact T.2
 have O:((y.den:Int)).natAbs<cN:=by rw[Xbm];exact U.2
 have Z:=Md (zed x.num) (zed y.den) (dP T.1) (dP O);have m2:=Md (zed y.num) (zed x.den) (dP U.1) (dP I);have m3:=Md (zed x.den) (zed y.den) (dP I) (dP O);rw[uN T.1 O,dH]at Z;rw[uN U.1 I,dH]at m2;rw[uN I O,dH,dH]at m3;unfold rM;refine pcd func119 rfl rfl ?_;simp only[go_sem];refine aL A ?_;simp only[go_sem];refine aH fun j hj=>?_
 simp only[go_sem];refine aG (aB _ _ _) (by simp) ?_;generalize hP:aI (aI _ j _) j _=HP;have Y:HP j=some (⟨135,4,[[str (zed x.num),str (dec x.den),str (zed y.num),str (dec y.den)]]⟩:Row):=by rw[<-hP,aB];rfl
 simp only[go_sem];refine aA (fun E=>by cases E) (fun _=>?_);simp only[go_sem,Y]
 repeat (refine⟨by first|decide|omega,?_⟩)
 refine aL Z ?_;simp only[go_sem,Y]
 repeat (refine⟨by first|decide|omega,?_⟩)
 refine aL m2 ?_;simp only[go_sem,Y]
 repeat (refine⟨by first|decide|omega,?_⟩)
 refine aL m3 ?_;simp only[go_sem];cases h1:qD (x.num*y.den)with
 | true=>rw[tY h1];refine aA (fun _=>?_) (fun E=>by cases E);simp only[go_sem];exact .refl _
 | false=>
 rw[zZ h1];cases J:qD (y.num*x.den)with
 | true=>rw[tY J];refine aA (fun _=>?_) (fun E=>by cases E);simp only[go_sem];exact .refl _
 | false=>
 rw[zZ J];cases h3:qD ((x.den:Int)*y.den)with
 | true=>rw[tY h3];refine aA (fun _=>?_) (fun E=>by cases E);simp only[go_sem,Bool.or_true];exact .refl _
 | false=>
 rw[zZ h3];refine aA (fun E=>by cases E) (fun _=>?_);simp only[go_sem];have m4:=aBl (zed (x.num*y.den)) (zed (y.num*x.den)) (dP (iU.1 h1)) (dP (iU.1 J));rw[RX (iU.1 h1) (iU.1 J)]at m4;refine aL m4 ?_;simp only[go_sem];rw[X5];generalize x.num*y.den+y.num*x.den=N at *;cases X:qD N with
 | true=>rw[tY X];refine aA (fun _=>?_) (fun E=>by cases E);simp only[go_sem];exact .refl _
 | false=>
 rw[zZ X];refine aA (fun E=>by cases E) (fun _=>?_);simp only[go_sem];have hD:x.den*y.den<cN:=by grind[iU]
 have:=NU N (x.den*y.den) (Hu x y) (iU.1 X) hD;rw[<-dH,Int.natCast_mul]at this;refine aL this ?_;simp only[go_sem];exact .refl _
end Go.Proofs.YtkfhgjihlbilpaaGreatDoor.Nu
end
