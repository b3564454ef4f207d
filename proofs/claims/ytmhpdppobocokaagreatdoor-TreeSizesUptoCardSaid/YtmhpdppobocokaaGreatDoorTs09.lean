import Derived.Test.YtmhpdppobocokaaGreatDoorTs07
import Derived.Test.YtmhpdppobocokaaGreatDoorTs08
set_option linter.unusedSimpArgs false
set_option linter.unusedVariables false
set_option linter.defProp false
set_option maxRecDepth 100000
namespace Go.Proofs.YtmhpdppobocokaaGreatDoor
open Go.Aw Go.Aw.D Go.Proofs Ty
namespace Nu
open Go.Proofs.Tryz
open Go.Nu
def lE(x y:Rat):ByteArray×Int:=if y.num=0 then(emp,10)else if(gV (x.num*y.den)||gV (x.den*y.num))=true then(emp,4)else(lI (x/y),0)
def gI(a b:ByteArray):ByteArray×Int:=if(bP a&&bP b)=true then lE (fL a) (fL b)else(emp,3)
def SR{n:Int}(h:n.natAbs<cE):An [zed n]=0:=by have e:=mJ h h;rw[<-A7]at e;unfold An at e |-;simp only[List.any_cons,List.any_nil,Bool.or_false,Bool.or_self]at e |-;exact e
def Uw(n:Int):sg (!decide (n<0)) n.natAbs= -n:=by
 unfold sg;by_cases h:n<0
 ·simp[h];omega
 ·simp[h];omega
def OG(n:Int)(h:n.natAbs<cE):PC prog 333 [str (zed n)] (.tup [str (zed (-n)),int 0]):=by
 have u:=LA [zed n] (by simp) (by simp[cX h]);have J:=SR h;unfold zL at u;rw[J,if_pos rfl]at u;simp only[Xar,Xay,GV]at u;have E:=EB (!decide (n<0)) n.natAbs (dE h);rw[Uw]at E;refine pcd func333 rfl rfl ?_;simp only[go_sem];refine aN u ?_;simp only[go_sem];refine aA (fun F=>by cases F) (fun F=>?_);simp only[go_sem];refine eZ (by rfl) (by kernel_rfl) ?_;simp only[go_sem,Xae,List.length_nil,fQ]
 repeat (refine⟨by first|decide|omega,?_⟩)
 refine⟨_,E.q rfl,?_⟩;simp only[go_sem];exact .refl _
def Qq{n:Int}:AX (zed n)=n.sign:=by unfold AX;rw[iY,if_pos rfl,cG]
def Mh(p q:Int)(E:q≠0):mkRat (if q<0 then -p else p) q.natAbs=(p:Rat)/(q:Rat):=by
 rw[Rat.mkRat_eq_div];have u:(q:Rat)≠0:=fun e=>E (Rat.intCast_eq_zero_iff.1 e)
 by_cases h:q<0
 ·rw[if_pos h];have e:((q.natAbs:Nat):Rat)= -(q:Rat):=by
   have:((q.natAbs:Nat):Int)= -q:=by omega
   rw[<-Rat.intCast_natCast,this,Rat.intCast_neg]
  rw[e,Rat.intCast_neg]
  grind
 ·rw[if_neg h];have e:((q.natAbs:Nat):Rat)=(q:Rat):=by
   have:((q.natAbs:Nat):Int)=q:=by omega
   rw[<-Rat.intCast_natCast,this]
  rw[e]
def Jp(p q:Int)(O:p.natAbs<cE)(J:q.natAbs<cE)(h0:q≠0):PC prog 303 [str (zed p),str (zed q)] (.tup [str (lI ((p:Rat)/(q:Rat))),int 0]):=by
 have M:=Mk (zed q) (cX J);rw[Qq]at M;have E:=KV (if q<0 then -p else p) q.natAbs (by omega) (by split <;> omega) J;rw[Mh p q h0]at E;have L:=OG p O;have F:=OG q J;refine pcd func303 rfl rfl ?_;simp only[go_sem];refine aN M ?_;simp only[go_sem];refine aA (fun u=>?_) (fun u=>?_)
 ·have u:q<0:=by simpa[Int.sign_neg_iff]using u
  rw[if_pos u]at E;have e:dec q.natAbs=zed (-q):=by rw[<-dG];congr 1;omega
  rw[e]at E;simp only[go_sem];refine aN L ?_;simp only[go_sem];refine aN F ?_;simp only[go_sem];refine aN E ?_;simp only[go_sem];exact .refl _
 ·have u:¬q<0:=by simpa[Int.sign_neg_iff]using u
  rw[if_neg u]at E;have e:dec q.natAbs=zed q:=by rw[<-dG];congr 1;omega
  rw[e]at E;simp only[go_sem];refine aN E ?_;simp only[go_sem];exact .refl _
def Ep{x y:Rat}(h0:y.num≠0):((x.num*(y.den:Int):Int):Rat)/(((x.den:Int)*y.num:Int):Rat)=x/y:=by
 have u:(x.num:Rat)/((x.den:Int):Rat)=x:=by rw[<-Rat.divInt_eq_div,Rat.num_divInt_den]
 have E:(y.num:Rat)/((y.den:Int):Rat)=y:=by rw[<-Rat.divInt_eq_div,Rat.num_divInt_den]
 have F:((x.den:Int):Rat)≠0:=fun e=>x.den_nz (by have:=Rat.intCast_eq_zero_iff.1 e;omega)
 have J:((y.den:Int):Rat)≠0:=fun e=>y.den_nz (by have:=Rat.intCast_eq_zero_iff.1 e;omega)
 have L:(y.num:Rat)≠0:=fun e=>h0 (Rat.intCast_eq_zero_iff.1 e)
 rw[Rat.intCast_mul,Rat.intCast_mul];generalize ((x.den:Int):Rat)=p at *;generalize ((y.den:Int):Rat)=q at *;generalize (x.num:Rat)=m at *;generalize (y.num:Rat)=n at *;rw[<-u,<-E];clear u E
 grind
def kK(a b:ByteArray)(ha:a.size<=1048576)(E:b.size<=1048576):PC prog 278 [str a,str b] (.tup [str (gI a b).1,int (gI a b).2]):=by
 have u:=EL a b ha E;by_cases J:(bP a&&bP b)=true;rotate_left
 ·rw[show Bo a b=_ from if_neg J]at u;rw[show gI a b=(emp,3)from if_neg J];refine pcd func278 rfl rfl ?_;simp only[go_sem];refine aN u ?_;simp only[go_sem];refine aA (fun _=>?_) (fun E=>by cases E);simp only[go_sem];exact .refl _
 rw[show Bo a b=_ from if_pos J]at u;rw[show gI a b=_ from if_pos J];simp only[Xav]at J;obtain⟨x,rfl,M,e1,e2⟩:=eL J.1;obtain⟨y,rfl,O,e3,Z⟩:=eL J.2;rw[e1,e2,e3,Z]at u;rw[iM,iM];have xd:((x.den:Int)).natAbs<cE:=by rw[Xbh];exact M.2
 have yd:((y.den:Int)).natAbs<cE:=by rw[Xbh];exact O.2
 have L:=sZ M.1 yd xd O.1;rw[dG,dG]at L;refine pcd func278 rfl rfl ?_;simp only[go_sem];refine aN u ?_;simp only[go_sem];refine aA (fun E=>by cases E) (fun _=>?_);simp only[go_sem];have hz:(bl (zed y.num) == [48])=decide (y.num=0):=by rw[oB,<-show zed ((0:Nat):Int)=dec 0 from dG 0,Xbf,lQ,J7,decide_eq_true_iff];rfl
 rw[hz];unfold lE;refine aA (fun E=>?_) (fun E=>?_)
 ·rw[if_pos (by simpa using E)];simp only[go_sem];exact .refl _
 have h0:y.num≠0:=by simpa using E
 rw[if_neg h0];simp only[go_sem];cases F:(gV (x.num*y.den)||gV ((x.den:Int)*y.num))with
 | true=>rw[F,if_pos rfl]at L;refine aN L ?_;simp only[go_sem];refine aA (fun _=>?_) (fun E=>by cases E);exact .refl _
 | false=>
  rw[F]at L;simp only[Xax,if_false]at L;refine aN L ?_;simp only[go_sem];refine aA (fun E=>by cases E) (fun _=>?_);simp only[go_sem];simp only[Xbq]at F;have hD:((x.den:Int)*y.num)≠0:=Int.mul_ne_zero (by have:=x.den_nz;omega) h0;have:=Jp (x.num*y.den) (x.den*y.num) (fW.1 F.1) (fW.1 F.2) hD;have ev:=Ep (x:=x) h0;rw[ev]at this;refine eZ (by rfl) (by kernel_rfl) ?_;simp only[go_sem,Xae,List.length_nil]
  repeat (refine⟨by first|decide|omega,?_⟩)
  refine⟨_,this.q rfl,?_⟩;simp only[go_sem];exact .refl _
end Nu
namespace Si
open Go.Proofs.Tryz
open Go.Nu
open Go.Proofs.YtmhpdppobocokaaGreatDoor.Nu (ltB geB cB gI kK iZ jM jT fS dW)
abbrev z0:ByteArray:=⟨#[48]⟩
abbrev z1:ByteArray:=⟨#[49]⟩
def bC(a b c d e:AV)(cols vars err:Int):Row:=⟨251,8,[[a,b,c,d,e,int cols,int vars,int err]]⟩
def bI(e n:Int):Int:=if e=0 then n else e
def pW(e:Int):bI e 0=e:=by unfold bI;split <;> simp_all
def cY{H:aD}{j:Nat}{r:Row}(h:H j=some r):aE H j (some r)=H:=by
 funext i;by_cases e:i=j
 ·subst e;rw[aB,h]
 ·rw[aC _ _ _ _ e]
def cK(H:aD)(j:Nat)(a b:Option Row):aE (aE H j a) j b=aE H j b:=by
 funext i;by_cases h:i=j
 ·subst h;rw[aB,aB]
 ·rw[aC _ _ _ _ h,aC _ _ _ _ h,aC _ _ _ _ h]
def is0(a:ByteArray):Bool:=bl a == [48]
def eT(a b:ByteArray):ByteArray×Int:=if(is0 a||is0 b)=true then(z0,0)else qO a b
def fB(a b:ByteArray):ByteArray×Int:=if is0 b=true then(a,0)else tG a b
section
variable{a b c d e:AV}{cols vars err:Int}{j:Nat}{H0:aD}{K:AV->aD->Prop}
def Et(n:Int)(F:H0 j=some (bC a b c d e cols vars err))(u:∀r,K r (aE H0 j (some (bC a b c d e cols vars (bI err n))))):aI prog 139 [.op j 0 0,int n] H0 K:=by
 unfold bC at F;refine aI.body (c:=f139.body.getD .skip) (fun _=>false) mixed func139 rfl (by kernel_rfl) ?_;unfold f139;simp only[Xag];simp only[go_sem];simp only[go_sem,F];refine aA (fun E=>?_) (fun E=>?_)
 ·have E:err=0:=by simpa using E
  simp only[go_sem];refine cC ⟨_,rfl,rfl⟩ F (by simp) ?_;have u:=u (.tup []);unfold bI at u;rw[if_pos E]at u;simp only[go_sem];exact u
 ·have E:err≠0:=by simpa using E
  have u:=u (.tup []);unfold bI at u;rw[if_neg E]at u;rw[cY (by exact F)]at u;simp only[go_sem];exact u
def DV(x y:ByteArray)(J:x.size<=1048576)(L:y.size<=1048576)(F:H0 j=some (bC a b c d e cols vars err))(E:K (str (fB x y).1) (aE H0 j (some (bC a b c d e cols vars (bI err (fB x y).2))))):aI prog 199 [.op j 0 0,str x,str y] H0 K:=by
 have M:=iZ x y J L;unfold fB is0 at E;refine aI.body (c:=f199.body.getD .skip) (fun _=>false) mixed func199 rfl (by kernel_rfl) ?_;unfold f199;simp only[Xag];simp only[go_sem];refine aA (fun u=>?_) (fun u=>?_)
 ·have u:(bl y == [48])=true:=u;rw[if_pos u]at E;rw[pW,cY F]at E;simp only[go_sem];exact E
 ·have u:¬(bl y == [48])=true:=by have u:(bl y == [48])=false:=u;rw[u];simp
  rw[if_neg u]at E;simp only[go_sem];refine aN M ?_;simp only[go_sem];refine Et _ F fun r=>?_
  simp only[go_sem];exact E
def QB(x y:ByteArray)(J:x.size<=1048576)(L:y.size<=1048576)(F:H0 j=some (bC a b c d e cols vars err))(E:K (str (eT x y).1) (aE H0 j (some (bC a b c d e cols vars (bI err (eT x y).2))))):aI prog 200 [.op j 0 0,str x,str y] H0 K:=by
 have M:=jM x y J L;unfold eT is0 at E;refine aI.body (c:=f200.body.getD .skip) (fun _=>false) mixed func200 rfl (by kernel_rfl) ?_;unfold f200;simp only[Xag];simp only[go_sem];refine aA (fun u=>?_) (fun u=>?_)
 ·have u:(bl x == [48]||bl y == [48])=true:=u;rw[if_pos u]at E;rw[pW,cY F]at E;simp only[go_sem];exact E
 ·have u:¬(bl x == [48]||bl y == [48])=true:=by have u:(bl x == [48]||bl y == [48])=false:=u;rw[u];simp
  rw[if_neg u]at E;simp only[go_sem];refine aN M ?_;simp only[go_sem];refine Et _ F fun r=>?_
  simp only[go_sem];exact E
def TR(x y:ByteArray)(F:x.size<=1048576)(J:y.size<=1048576)(E:H0 j=some (bC a b c d e cols vars err))(u:K (str (gI x y).1) (aE H0 j (some (bC a b c d e cols vars (bI err (gI x y).2))))):aI prog 247 [.op j 0 0,str x,str y] H0 K:=by
 have L:=kK x y F J;refine aI.body (c:=f247.body.getD .skip) (fun _=>false) mixed func247 rfl (by kernel_rfl) ?_;unfold f247;simp only[Xag];simp only[go_sem];refine aN L ?_;simp only[go_sem];refine Et _ E fun r=>?_
 simp only[go_sem];exact u
def iN(s n:Int):ByteArray×Int:=if s<0 then fB z0 (zed n)else(zed n,0)
def pI(s n:Int)(h0: -9223372036854775808<=n)(h1:n<=9223372036854775807)(F:H0 j=some (bC a b c d e cols vars err))(u:K (str (iN s n).1) (aE H0 j (some (bC a b c d e cols vars (bI err (iN s n).2))))):aI prog 198 [.op j 0 0,int s,int n] H0 K:=by
 have J:=jT n h0 h1;have L:(zed n).size<=4097:=Go.Nu.cX (sQ (k:=20) (by omega) (by omega));unfold iN at u;refine aI.body (c:=f198.body.getD .skip) (fun _=>false) mixed func198 rfl (by kernel_rfl) ?_;unfold f198;simp only[Xag];simp only[go_sem];refine aA (fun E=>?_) (fun E=>?_)
 ·rw[if_pos (by simpa using E)]at u;simp only[go_sem];refine aN J ?_;simp only[go_sem];refine DV z0 (zed n) (by decide) (by omega) F ?_;simp only[go_sem];exact u
 ·rw[if_neg (by simpa using E)]at u;rw[pW,cY F]at u;simp only[go_sem];refine aN J ?_;simp only[go_sem];exact u
end
end Si
namespace Si
open Go.Nu
open Go.Proofs.YtmhpdppobocokaaGreatDoor.Nu (ltB geB cB gI lE kK iZ jM jT fS dW)
def qK{P:Program}{C:gW}{PC:FuncId->List AV->aD->AV->Prop}{mt:Nat->Bool}{ops:List Oper}{K:Env->aD->Prop}{m:Nat}{ρ:Env}{H:aD}(t:Mx)(J:Env->aD->Prop)(hB:AH ops.toArray t=true)
  (h:∀K':Env->aD->Prop,(∀u H',J u H'->K' u H')->∀Hp:aD,fR P C PC mt ops.toArray (kQ [] H K') Hp t ρ H)
  (E:∀u H',J u H'->K u H'):rQ P C PC mt ops.toArray K m ρ H:=oF [] t (by simp) hB fun Hp F _ L _ _=>by
 obtain rfl:F=H:=funext fun k=>L k (by simp)
 exact h K E Hp
def mV{H:aD}{K:Env->aD->Prop}{u:Env}{H':aD}(h:K u H'):kQ [] H K u H':=eK fun _ E _ F=>by
 obtain rfl:E=H':=funext fun k=>F k (by simp)
 exact h
def nC{l:List Nat}{H F:aD}{K:Env->aD->Prop}{u:Env}(L:∀k,k∉l->F k=H k)(h:K u H):kQ l H K u F:=eK fun _ J h1 M=>by
 obtain rfl:J=H:=funext fun k=>by
  by_cases E:k∈l
  ·exact h1 k E
  ·rw[M k E];exact L k E
 exact h
def Pe(a b:ByteArray):(qO a b).1.size<=1048576:=by
 by_cases h:(qO a b).2=0
 ·have:=eW (A8 h);omega
 ·unfold qO Ei at h |-;split at h
  ·split at h
   ·next h1 h2=>rw[if_pos h1,if_pos h2];decide
   ·exact absurd rfl h
  ·next h1=>rw[if_neg h1];decide
def PJ(a b:ByteArray):(tG a b).1.size<=1048576:=by
 by_cases h:(tG a b).2=0
 ·have : bP (tG a b).1 = true := by
   unfold tG at h |-;split at h
   ·next h1=>rw[if_pos h1];obtain⟨e,s⟩:=vC h;rw[e];exact jD s
   ·cases h
  have:=eW this;omega
 ·unfold tG GB at h |-;split at h
  ·split at h
   ·next h1 h2=>rw[if_pos h1,if_pos h2];decide
   ·exact absurd rfl h
  ·next h1=>rw[if_neg h1];decide
def L7{n:Int}(h:gV n=false):n.natAbs<cE:=fW.1 h
def Kj{x y:Rat}(h:(lE x y).2=0):lE x y=(lI (x/y),0)/\vM (x/y):=by
 unfold lE at h |-;split at h
 ·cases h
 next h0=>
 split at h
 ·cases h
 next h1=>
 rw[if_neg h0,if_neg h1];refine⟨rfl,?_⟩;have h1:(gV (x.num*y.den)||gV (x.den*y.num))=false:=by simpa using h1
 simp only[Xbq]at h1;have F:=L7 h1.1;have E:=L7 h1.2;have e:x/y=mkRat (if(x.den:Int)*y.num<0 then -(x.num*y.den)else x.num*y.den) ((x.den:Int)*y.num).natAbs:=by have u:((x.den:Int)*y.num)≠0:=Int.mul_ne_zero (by have:=x.den_nz;omega) h0;rw[Nu.Mh _ _ u,Nu.Ep h0]
 rw[e];have u:((x.den:Int)*y.num)≠0:=Int.mul_ne_zero (by have:=x.den_nz;omega) h0;exact wJ (by omega) (by split <;> omega) E
def Bx(a b:ByteArray):(gI a b).1.size<=1048576:=by
 by_cases h:(gI a b).2=0
 ·have : bP (gI a b).1 = true := by
   unfold gI at h |-;split at h
   ·next h1=>rw[if_pos h1];obtain⟨e,s⟩:=Kj h;rw[e];exact jD s
   ·cases h
  have:=eW this;omega
 ·unfold gI lE at h |-;split at h
  ·next h1=>
   rw[if_pos h1];split at h
   ·next u=>rw[if_pos u];decide
   next u=>
   rw[if_neg u];split at h
   ·next E=>rw[if_pos E];decide
   ·exact absurd rfl h
  ·next h1=>rw[if_neg h1];decide
def yJ(a b:ByteArray):(eT a b).1.size<=1048576:=by unfold eT;split;decide;exact Pe a b
def mA(a b:ByteArray)(h:a.size<=1048576):(fB a b).1.size<=1048576:=by unfold fB;split;exact h;exact PJ a b
def SzL(l:List ByteArray):Prop:=∀s∈l,s.size<=1048576
def SzL.at{l:List ByteArray}(h:SzL l)(k:Nat):(l.getD k z0).size<=1048576:=by
 rw[List.getD];cases u:l[k]? with
 | none=>decide
 | some s=>exact h s (Xaf u)
def SzL.set{l:List ByteArray}(h:SzL l)(k:Nat){s:ByteArray}(E:s.size<=1048576):SzL (l.set k s):=fun t u=>by
 rcases List.mem_or_eq_of_mem_set u with h1|rfl
 ·exact h t h1
 ·exact E
structure Tab where
 rows:List (List ByteArray)
 price:List ByteArray
 base:List Int
 unit:List Int
 turned:List Bool
 cols:Int
 vars:Int
 err:Int
structure Pts where
 jr:Nat
 jp:Nat
 jb:Nat
 ju:Nat
 jt:Nat
 f:Nat->Nat
abbrev aQ(l:List ByteArray):Row:=⟨59,1,l.map Go.Aw.D.cQ⟩
abbrev dB(l:List Int):Row:=⟨3,1,l.map aP⟩
abbrev oI(l:List Bool):Row:=⟨4,1,l.map gU⟩
def ozE(f:Nat->Nat)(R:List (List ByteArray)):List (List AV):=R.mapIdx fun i r=>[.oz (f i) 0 r.length]
abbrev Gb(f:Nat->Nat)(R:List (List ByteArray)):Row:=⟨48,1,ozE f R⟩
def Pts.all(p:Pts)(j:Nat):List Nat:=[j,p.jr,p.jp,p.jb,p.ju,p.jt]
structure TabH(H:aD)(j:Nat)(p:Pts)(T:Tab):Prop where
 hT:H j=some (bC (.os p.jr) (.os p.jp) (.os p.jb) (.os p.ju) (.os p.jt) T.cols T.vars T.err)
 hR:H p.jr=some (Gb p.f T.rows)
 hP:H p.jp=some (aQ T.price)
 hB:H p.jb=some (dB T.base)
 hU:H p.ju=some (dB T.unit)
 hN:H p.jt=some (oI T.turned)
 hF:∀i r,T.rows[i]?=some r->H (p.f i)=some (aQ r)
 nd:(p.all j).Nodup
 nf:∀i,i<T.rows.length->∀k∈p.all j,p.f i≠k
 inj:∀i k,i<T.rows.length->k<T.rows.length->p.f i=p.f k->i=k
def RW(f:Nat->Nat){R:List (List ByteArray)}{i:Nat}{r r':List ByteArray}(h:R[i]?=some r)(F:r'.length=r.length):ozE f (R.set i r')=ozE f R:=by
 unfold ozE;refine List.ext_getElem? fun k=>?_
 rw[List.getElem?_mapIdx,List.getElem?_mapIdx];by_cases E:k=i
 ·subst E;have u:=(List.getElem?_eq_some_iff.1 h).1;rw[List.getElem?_set_self u,h];simp[F]
 ·rw[List.getElem?_set_ne (Ne.symm E)]
def Ud{f:Nat->Nat}{R:List (List ByteArray)}{i:Nat}{r:List ByteArray}(h:R[i]?=some r):(ozE f R)[i]?=some [.oz (f i) 0 r.length]:=by unfold ozE;rw[List.getElem?_mapIdx,h];rfl
def dS(f:Nat->Nat)(R:List (List ByteArray)):(ozE f R).length=R.length:=by unfold ozE;rw[List.length_mapIdx]
section
variable{H:aD}{j:Nat}{p:Pts}{T:Tab}
def mQ(h:(p.all j).Nodup):(j≠p.jr/\j≠p.jp/\j≠p.jb/\j≠p.ju/\j≠p.jt)/\(p.jr≠p.jp/\p.jr≠p.jb/\p.jr≠p.ju/\p.jr≠p.jt)/\(p.jp≠p.jb/\p.jp≠p.ju/\p.jp≠p.jt)/\(p.jb≠p.ju/\p.jb≠p.jt)/\p.ju≠p.jt:=by unfold Pts.all at h;simp only[List.nodup_cons,Xao,List.not_mem_nil,or_false,not_or,not_false_eq_true,List.nodup_nil,and_true]at h;exact h
def iP{n:Nat}(h:∀i,i<n->∀k∈p.all j,p.f i≠k){i:Nat}(hi:i<n):p.f i≠j/\p.f i≠p.jr/\p.f i≠p.jp/\p.f i≠p.jb/\p.f i≠p.ju/\p.f i≠p.jt:=by have:=h i hi;unfold Pts.all at this;simp only[Xao,List.not_mem_nil,or_false,forall_eq_or_imp,forall_eq]at this;exact this
def TabH.setErr(h:TabH H j p T)(n:Int):TabH (aE H j (some (bC (.os p.jr) (.os p.jp) (.os p.jb) (.os p.ju) (.os p.jt) T.cols T.vars n))) j p { T with err:=n }:=by
 obtain⟨⟨a1,a2,a3,F,E⟩,_⟩:=mQ h.nd;refine⟨aB _ _ _,?_,?_,?_,?_,?_,fun i r u=>?_,h.nd,h.nf,h.inj⟩
 ·rw[aC _ _ _ _ (Ne.symm a1)];exact h.hR
 ·rw[aC _ _ _ _ (Ne.symm a2)];exact h.hP
 ·rw[aC _ _ _ _ (Ne.symm a3)];exact h.hB
 ·rw[aC _ _ _ _ (Ne.symm F)];exact h.hU
 ·rw[aC _ _ _ _ (Ne.symm E)];exact h.hN
 ·rw[aC _ _ _ _ (iP h.nf (List.getElem?_eq_some_iff.1 u).1).1];exact h.hF i r u
def TabH.setPrice(h:TabH H j p T)(l:List ByteArray):TabH (aE H p.jp (some (aQ l))) j p { T with price:=l }:=by
 obtain⟨⟨a1,a2,a3,Z,L⟩,⟨J,O,b3,M⟩,⟨E,c2,F⟩,_⟩:=mQ h.nd;refine⟨?_,?_,aB _ _ _,?_,?_,?_,fun i r u=>?_,h.nd,h.nf,h.inj⟩
 ·rw[aC _ _ _ _ a2];exact h.hT
 ·rw[aC _ _ _ _ J];exact h.hR
 ·rw[aC _ _ _ _ (Ne.symm E)];exact h.hB
 ·rw[aC _ _ _ _ (Ne.symm c2)];exact h.hU
 ·rw[aC _ _ _ _ (Ne.symm F)];exact h.hN
 ·rw[aC _ _ _ _ (iP h.nf (List.getElem?_eq_some_iff.1 u).1).2.2.1];exact h.hF i r u
def TabH.setBase(h:TabH H j p T)(l:List Int):TabH (aE H p.jb (some (dB l))) j p { T with base:=l }:=by
 obtain⟨⟨a1,a2,a3,a4,M⟩,⟨b1,F,b3,O⟩,⟨E,c2,Z⟩,⟨J,L⟩,_⟩:=mQ h.nd;refine⟨?_,?_,?_,aB _ _ _,?_,?_,fun i r u=>?_,h.nd,h.nf,h.inj⟩
 ·rw[aC _ _ _ _ a3];exact h.hT
 ·rw[aC _ _ _ _ F];exact h.hR
 ·rw[aC _ _ _ _ E];exact h.hP
 ·rw[aC _ _ _ _ (Ne.symm J)];exact h.hU
 ·rw[aC _ _ _ _ (Ne.symm L)];exact h.hN
 ·rw[aC _ _ _ _ (iP h.nf (List.getElem?_eq_some_iff.1 u).1).2.2.2.1];exact h.hF i r u
def TabH.setRow(h:TabH H j p T){i:Nat}{r r':List ByteArray}(hi:T.rows[i]?=some r)(Z:r'.length=r.length):TabH (aE H (p.f i) (some (aQ r'))) j p { T with rows:=T.rows.set i r' }:=by
 have E:=(List.getElem?_eq_some_iff.1 hi).1;obtain⟨a1,a2,a3,a4,O,M⟩:=iP h.nf E;refine⟨?_,?_,?_,?_,?_,?_,fun k L F=>?_,h.nd,fun k u=>h.nf k (by simpa using u),fun k m u hm=>h.inj k m (by simpa using u) (by simpa using hm)⟩
 ·rw[aC _ _ _ _ (Ne.symm a1)];exact h.hT
 ·rw[aC _ _ _ _ (Ne.symm a2),h.hR];show some (⟨_,_,ozE p.f T.rows⟩:Row)=some ⟨_,_,ozE p.f (T.rows.set i r')⟩;rw[RW p.f hi Z]
 ·rw[aC _ _ _ _ (Ne.symm a3)];exact h.hP
 ·rw[aC _ _ _ _ (Ne.symm a4)];exact h.hB
 ·rw[aC _ _ _ _ (Ne.symm O)];exact h.hU
 ·rw[aC _ _ _ _ (Ne.symm M)];exact h.hN
 ·have F:(T.rows.set i r')[k]?=some L:=F;by_cases u:k=i
  ·subst u;rw[List.getElem?_set_self E]at F;rw[aB,Option.some.inj F]
  ·rw[List.getElem?_set_ne (Ne.symm u)]at F;have J:=(List.getElem?_eq_some_iff.1 F).1;rw[aC _ _ _ _ fun e=>u (h.inj k i J E e)];exact h.hF k L F
end
def Off(p:Pts)(j n k:Nat):Prop:=k≠j/\k≠p.jp/\k≠p.jb/\∀i,i<n->k≠p.f i
def eJ(p:Pts)(j n:Nat)(H H':aD):Prop:=∀k r,Off p j n k->H k=some r->H' k=some r
def eJ.refl(p:Pts)(j n:Nat)(H:aD):eJ p j n H H:=fun k r _ h=>h
def eJ.upd{p:Pts}{j n:Nat}{H H':aD}(h:eJ p j n H H'){i:Nat}(hi:¬Off p j n i)(a:Option Row):eJ p j n H (aE H' i a):=fun k r u E=>by rw[aC _ _ _ _ fun e=>hi (by rw[<-e];exact u)];exact h k r u E
def eJ.trans{p:Pts}{j n:Nat}{H G M:aD}(h:eJ p j n H G)(F:eJ p j n G M):eJ p j n H M:=fun k r u E=>F k r u (h k r u E)
def zA{p:Pts}{j n:Nat}:¬Off p j n j:=fun h=>h.1 rfl
def U9{p:Pts}{j n:Nat}:¬Off p j n p.jp:=fun h=>h.2.1 rfl
def Vz{p:Pts}{j n:Nat}:¬Off p j n p.jb:=fun h=>h.2.2.1 rfl
def TL{p:Pts}{j n i:Nat}(hi:i<n):¬Off p j n (p.f i):=fun h=>h.2.2.2 i hi rfl
def aS{σ:Type}(f:σ->Nat->σ)(n:Nat)(s:σ):σ:=(List.range n).foldl f s
def bV{u:Type}(f:u->Nat->u)(k:Nat)(s:u):aS f (k+1) s=f (aS f k s) k:=by unfold aS;rw[List.range_succ,List.foldl_append];rfl
def cJ{u:Type}{f:u->Nat->u}{I:u->Prop}(E:∀s k,I s->I (f s k)):∀(n:Nat) (s:u),I s->I (aS f n s)
 | 0,s,h=>h
 | n+1,s,h=>by rw[bV];exact E _ _ (cJ E n s h)
def kD(y:ByteArray)(r:List ByteArray)(s:List ByteArray×Int)(k:Nat):List ByteArray×Int:=
 if is0 (r.getD k z0)=true then s else
   (s.1.set k (fB (s.1.getD k z0) (eT y (r.getD k z0)).1).1,bI (bI s.2 (eT y (r.getD k z0)).2) (fB (s.1.getD k z0) (eT y (r.getD k z0)).1).2)
def wN(l r:List ByteArray)(col:Nat)(e:Int):List ByteArray×Int:=if is0 (l.getD col z0)=true then(l,e)else aS (kD (l.getD col z0) r) r.length (l,e)
def Be(y:ByteArray)(r:List ByteArray)(s:List ByteArray×Int)(k:Nat):(kD y r s k).1.length=s.1.length:=by unfold kD;split <;> simp
def EA{y:ByteArray}{r:List ByteArray}{s:List ByteArray×Int}{k:Nat}(h:SzL s.1):SzL (kD y r s k).1:=by
 unfold kD;split
 ·exact h
 ·exact h.set k (mA _ _ (h.at k))
def IZ(l r:List ByteArray)(col:Nat)(e:Int):(wN l r col e).1.length=l.length:=by
 unfold wN;split
 ·rfl
 ·exact cJ (I:=fun s:List ByteArray×Int=>s.1.length=l.length) (fun s k h=>(Be _ r s k).trans h) _ _ rfl
def L0{l r:List ByteArray}{col:Nat}{e:Int}(h:SzL l):SzL (wN l r col e).1:=by
 unfold wN;split
 ·exact h
 ·exact cJ (I:=fun s:List ByteArray×Int=>SzL s.1) (fun s k h=>EA h) _ _ h
end Si
namespace Si
open Go.Proofs.Tryz
open Go.Nu
open Go.Proofs.YtmhpdppobocokaaGreatDoor.Nu (ltB geB cB gI lE kK iZ jM jT fS dW)
attribute [go_sem] Nat.sub_zero Nat.zero_add
def A6{α:Type}{l:List α}{i:Nat}{a:α}(h:l[i]?=some a):l.set i a=l:=by
 refine List.ext_getElem? fun k=>?_
 by_cases u:k=i
 ·subst u;rw[List.getElem?_set_self (List.getElem?_eq_some_iff.1 h).1,h]
 ·rw[List.getElem?_set_ne (Ne.symm u)]
def ozD{f:Nat->Nat}{R:List (List ByteArray)}{i:Nat}{r:List ByteArray}(h:R[i]?=some r):(ozE f R).getD i []=[.oz (f i) 0 r.length]:=by rw[List.getD,Ud h];rfl
def dN{l:List ByteArray}{k:Nat}(h:k<l.length):(l.map Go.Aw.D.cQ).getD k []=[str (l.getD k z0)]:=by simp[List.getD,h,Go.Aw.D.cQ]
def fK{s:List ByteArray}{k:Nat}(h:k<s.length)(v:ByteArray):({ aQ s with es:=(aQ s).es.set k (kI ((aQ s).es.getD k []) 0 [str v]) }:Row)=aQ (s.set k v):=by have e:(aQ s).es.getD k []=[str (s.getD k z0)]:=dN h;rw[e];show(⟨_,1,(s.map Go.Aw.D.cQ).set k [str v]⟩:Row)=⟨_,1,(s.set k v).map Go.Aw.D.cQ⟩;rw[List.map_set];rfl
section
variable{H0:aD}{j:Nat}{p:Pts}{T:Tab}{K:AV->aD->Prop}
def Qz{L row col:Nat}{l r:List ByteArray}(hT:TabH H0 j p T)(hi:T.rows[L]?=some l)(hr:T.rows[row]?=some r)(an:L≠row)(hl:l.length=r.length)(hc:col<l.length)(h1:l.length<=1048576)(h2:T.rows.length<=1048576)(sl:SzL l)(sr:SzL r)
   (hK:∀q H',TabH H' j p { T with rows:=T.rows.set L (wN l r col T.err).1,err:=(wN l r col T.err).2 }->eJ p j T.rows.length H0 H'->K q H'):aI prog 248 [.op j 0 0,.oz (p.f L) 0 l.length,int row,int col] H0 K:=by
 have ae:=(List.getElem?_eq_some_iff.1 hi).1;have au:=(List.getElem?_eq_some_iff.1 hr).1;have Rl:=hT.hF L l hi;have Rr:=hT.hF row r hr;have Rt:=hT.hR;have Rj:=hT.hT;unfold bC at Rj;refine aI.body (c:=f248.body.getD .skip) (fun _=>false) mixed func248 rfl (by kernel_rfl) ?_;unfold f248;simp only[Xag];simp only[go_sem];simp only[go_sem,Rl];refine⟨⟨by omega,by omega⟩,hc,?_⟩;simp only[go_sem,dN hc];unfold wN at hK;refine aA (fun J=>?_) (fun J=>?_)
 . have J:is0 (l.getD col z0)=true:=J;rw[if_pos J]at hK;simp only[go_sem];refine hK _ _ ?_ (.refl _ _ _ _);have e:T.rows.set L l=T.rows:=A6 hi;rw[e];exact hT
 have J:¬is0 (l.getD col z0)=true:=by have J:is0 (l.getD col z0)=false:=J;rw[J];simp
 rw[if_neg J]at hK;have hy:=sl.at col;generalize l.getD col z0=y at *;simp only[go_sem,Rj,Rt];refine⟨⟨by omega,by rw[dS];omega⟩,by rw[dS];omega,?_⟩;have eo:=ozD (f:=p.f) hr;simp only[go_sem,eo];have am:TabH H0 j p { T with rows:=T.rows.set L (aS (kD y r) 0 (l,T.err)).1,err:=(aS (kD y r) 0 (l,T.err)).2 }:=by show TabH H0 j p { T with rows:=T.rows.set L l,err:=T.err };rw[A6 hi];exact hT
 refine⟨fun ρ H=>∃(k:Nat),k<=r.length/\ρ 0=.op j 0 0/\ρ 1=.oz (p.f L) 0 l.length/\ρ 8=str y/\ρ 23=.oz (p.f row) 0 r.length/\ρ 24=int (r.length:Nat)/\ρ 25=int k/\TabH H j p { T with rows:=T.rows.set L (aS (kD y r) k (l,T.err)).1,err:=(aS (kD y r) k (l,T.err)).2 }/\eJ p j T.rows.length H0 H,fun ρ _=>r.length-aW (ρ 25),⟨0,Xab _,by simp only[go_sem],by simp only[go_sem],by simp only[go_sem],by simp only[go_sem],by simp only[go_sem,Xaa],(by simp only[go_sem];rfl),am,.refl _ _ _ _⟩,?_⟩;rintro ρ H ⟨k,hk,M,Z,O,F,E,u,hS,ag⟩;simp only[go_sem,M,Z,O,F,E,u];refine aA (fun ab=>?_) (fun ah=>?_)
 . have ab:=ltB (by simpa using ab);have al:(aS (kD y r) k (l,T.err)).1.length=l.length:=cJ (I:=fun s:List ByteArray×Int=>s.1.length=l.length) (fun s k h=>(Be _ r s k).trans h) _ _ rfl;have aj:SzL (aS (kD y r) k (l,T.err)).1:=cJ (I:=fun s:List ByteArray×Int=>SzL s.1) (fun s k h=>EA h) _ _ sl;have ac:aS (kD y r) (k+1) (l,T.err)=kD y r (aS (kD y r) k (l,T.err)) k:=bV _ _ _;generalize aS (kD y r) k (l,T.err)=S at *;obtain⟨s,e⟩:=S;simp only at hS al aj;have Rl:=hS.hF L s (List.getElem?_set_self ae);have Rr:=hS.hF row r (by rw[List.getElem?_set_ne an];exact hr);have Rj:=hS.hT;have hv:=sr.at k;have hx:=aj.at k;have af:k<s.length:=by omega
   simp only[go_sem,M,Z,O,F,E,u,Rr];refine⟨⟨by omega,by omega⟩,ab,?_⟩;simp only[go_sem,dN ab];refine aA (fun J=>?_) (fun J=>?_)
   . have J : ¬ is0 (r.getD k z0) = true := by have J:(!is0 (r.getD k z0))=true:=J;intro h;rw[h]at J;cases J
     have aq:kD y r (s,e) k=(s.set k (fB (s.getD k z0) (eT y (r.getD k z0)).1).1,bI (bI e (eT y (r.getD k z0)).2) (fB (s.getD k z0) (eT y (r.getD k z0)).1).2):=if_neg J;have hn:p.f L≠j:=(iP hT.nf ae).1;have Ru:∀a,aE H j a (p.f L)=some (aQ s):=fun a=>by rw[aC _ _ _ _ hn];exact Rl
     have av:∀a b,aE (aE H j a) j b (p.f L)=some (aQ s):=fun a b=>by rw[aC _ _ _ _ hn];exact Ru a
     have hz:=yJ y (r.getD k z0);have ar:=mA (s.getD k z0) (eT y (r.getD k z0)).1 hx;rw[aq]at ac;have ai:=(hS.setErr (bI (bI e (eT y (r.getD k z0)).2) (fB (s.getD k z0) (eT y (r.getD k z0)).1).2)).setRow (i:=L) (r:=s) (r':=s.set k (fB (s.getD k z0) (eT y (r.getD k z0)).1).1) (List.getElem?_set_self ae) (by simp);have ao:=(ag.upd (zA (p:=p) (n:=T.rows.length)) (some (bC (.os p.jr) (.os p.jp) (.os p.jb) (.os p.ju) (.os p.jt) T.cols T.vars (bI (bI e (eT y (r.getD k z0)).2) (fB (s.getD k z0) (eT y (r.getD k z0)).1).2)))).upd (TL ae) (some (aQ (s.set k (fB (s.getD k z0) (eT y (r.getD k z0)).1).1)));simp only[List.set_set]at ai;have ak:∀K:AV->aD->Prop,K (str (eT y (r.getD k z0)).1) (aE H j (some (bC (.os p.jr) (.os p.jp) (.os p.jb) (.os p.ju) (.os p.jt) T.cols T.vars (bI e (eT y (r.getD k z0)).2))))->aI prog 200 [.op j 0 0,str y,str (r.getD k z0)] H K:=fun K h=>QB y _ hy hv Rj h
     generalize eT y (r.getD k z0)=m at *;simp only[go_sem,M,Z,O,F,E,u];refine qK (.q 0 (.q 1 (.q 2 (.q 3 (.q 4 (.q 7 (.q 8 (.q 9 (.a2 5 (.a2 6 (.a1 10 (.a1 11 (.a1 12 (.a1 13 .nil)))) 10 (.a1 6 (.a1 11 (.a1 12 (.a1 13 .nil))))) 10 (.a1 5 (.a1 6 (.a1 11 (.a1 12 (.a1 13 .nil)))))))))))))) (fun aa H'=>aa 0=.op j 0 0/\aa 1=.oz (p.f L) 0 l.length/\aa 8=str y/\aa 23=.oz (p.f row) 0 r.length/\aa 24=int (r.length:Nat)/\aa 25=int k/\H'=aE (aE H j (some (bC (.os p.jr) (.os p.jp) (.os p.jb) (.os p.ju) (.os p.jt) T.cols T.vars (bI (bI e m.2) (fB (s.getD k z0) m.1).2)))) (p.f L) (some (aQ (s.set k (fB (s.getD k z0) m.1).1)))) (by kernel_rfl) (fun K' ap Hp=>?_) ?_
     . simp only[go_sem,M,Z,O,F,E,u]
       repeat' (first
         | refine fY ?_ ?_
         | refine ak _ ?_
         | refine DV (s.getD k z0) m.1 hx hz (aB _ _ _) ?_
         | (rw[cK])
         | (refine⟨⟨by omega,by omega⟩,?_⟩)
         | (refine⟨af,?_⟩)
         | (refine cC rZ (Ru _) (by simp; omega) ?_
            rw[fK af])
         | (refine mV ?_)
         | simp only[go_sem,M,Z,O,F,E,u,Rl,Ru,dN af])
       all_goals exact ap _ _ ⟨by simp only[go_sem,M,Z,O,F,E,u],by simp only[go_sem,M,Z,O,F,E,u],by simp only[go_sem,M,Z,O,F,E,u],by simp only[go_sem,M,Z,O,F,E,u],by simp only[go_sem,M,Z,O,F,E,u],by simp only[go_sem,M,Z,O,F,E,u],rfl⟩
     . rintro ρ H ⟨M,Z,O,F,E,u,rfl⟩;simp only[go_sem,M,Z,O,F,E,u,aY k];exact⟨⟨k+1,ab,rfl,by rw[ac];exact ai,ao⟩,by simp only[aF];omega⟩
   . have J : is0 (r.getD k z0) = true := by have J:(!is0 (r.getD k z0))=false:=J;simpa using J
     rw[show kD y r (s,e) k=(s,e)from if_pos J]at ac;simp only[go_sem,M,Z,O,F,E,u,aY k];exact⟨⟨k+1,ab,rfl,by rw[ac];exact hS,ag⟩,by simp only[aF];omega⟩
 have ah:=geB hk (by simpa using ah);subst ah;simp only[go_sem];exact hK _ _ hS ag
def Rh{row col:Nat}{l r:List ByteArray}(hT:TabH H0 j p T)(hi:T.price=l)(hr:T.rows[row]?=some r)(hl:l.length=r.length)(hc:col<l.length)(h1:l.length<=1048576)(h2:T.rows.length<=1048576)(sl:SzL l)(sr:SzL r)
   (hK:∀q H',TabH H' j p { T with price:=(wN l r col T.err).1,err:=(wN l r col T.err).2 }->eJ p j T.rows.length H0 H'->K q H'):aI prog 248 [.op j 0 0,.os p.jp,int row,int col] H0 K:=by
 have ap:=(List.getElem?_eq_some_iff.1 hr).1;have Rl:=hT.hP;rw[hi]at Rl;have Rr:=hT.hF row r hr;have Rt:=hT.hR;have Rj:=hT.hT;unfold bC at Rj;refine aI.body (c:=f248.body.getD .skip) (fun _=>false) mixed func248 rfl (by kernel_rfl) ?_;unfold f248;simp only[Xag];simp only[go_sem];simp only[go_sem,Rl];refine⟨⟨by omega,by omega⟩,hc,?_⟩;simp only[go_sem,dN hc];unfold wN at hK;refine aA (fun J=>?_) (fun J=>?_)
 . have J:is0 (l.getD col z0)=true:=J;rw[if_pos J]at hK;simp only[go_sem];refine hK _ _ ?_ (.refl _ _ _ _);rw[<-hi];exact hT
 have J:¬is0 (l.getD col z0)=true:=by have J:is0 (l.getD col z0)=false:=J;rw[J];simp
 rw[if_neg J]at hK;have hy:=sl.at col;generalize l.getD col z0=y at *;simp only[go_sem,Rj,Rt];refine⟨⟨by omega,by rw[dS];omega⟩,by rw[dS];omega,?_⟩;have eo:=ozD (f:=p.f) hr;simp only[go_sem,eo];have aj:TabH H0 j p { T with price:=(aS (kD y r) 0 (l,T.err)).1,err:=(aS (kD y r) 0 (l,T.err)).2 }:=by show TabH H0 j p { T with price:=l,err:=T.err };rw[<-hi];exact hT
 refine⟨fun ρ H=>∃(k:Nat),k<=r.length/\ρ 0=.op j 0 0/\ρ 1=.os p.jp/\ρ 8=str y/\ρ 23=.oz (p.f row) 0 r.length/\ρ 24=int (r.length:Nat)/\ρ 25=int k/\TabH H j p { T with price:=(aS (kD y r) k (l,T.err)).1,err:=(aS (kD y r) k (l,T.err)).2 }/\eJ p j T.rows.length H0 H,fun ρ _=>r.length-aW (ρ 25),⟨0,Xab _,by simp only[go_sem],by simp only[go_sem],by simp only[go_sem],by simp only[go_sem],by simp only[go_sem,Xaa],(by simp only[go_sem];rfl),aj,.refl _ _ _ _⟩,?_⟩;rintro ρ H ⟨k,hk,L,O,M,F,E,u,hS,ae⟩;simp only[go_sem,L,O,M,F,E,u];refine aA (fun aa=>?_) (fun af=>?_)
 . have aa:=ltB (by simpa using aa);have ai:(aS (kD y r) k (l,T.err)).1.length=l.length:=cJ (I:=fun s:List ByteArray×Int=>s.1.length=l.length) (fun s k h=>(Be _ r s k).trans h) _ _ rfl;have ag:SzL (aS (kD y r) k (l,T.err)).1:=cJ (I:=fun s:List ByteArray×Int=>SzL s.1) (fun s k h=>EA h) _ _ sl;have ab:aS (kD y r) (k+1) (l,T.err)=kD y r (aS (kD y r) k (l,T.err)) k:=bV _ _ _;generalize aS (kD y r) k (l,T.err)=S at *;obtain⟨s,e⟩:=S;simp only at hS ai ag;have Rl:=hS.hP;have Rr:=hS.hF row r hr;simp only at Rl;have Rj:=hS.hT;have hv:=sr.at k;have hx:=ag.at k;have ac:k<s.length:=by omega
   simp only[go_sem,L,O,M,F,E,u,Rr];refine⟨⟨by omega,by omega⟩,aa,?_⟩;simp only[go_sem,dN aa];refine aA (fun J=>?_) (fun J=>?_)
   . have J : ¬ is0 (r.getD k z0) = true := by have J:(!is0 (r.getD k z0))=true:=J;intro h;rw[h]at J;cases J
     have an:kD y r (s,e) k=(s.set k (fB (s.getD k z0) (eT y (r.getD k z0)).1).1,bI (bI e (eT y (r.getD k z0)).2) (fB (s.getD k z0) (eT y (r.getD k z0)).1).2):=if_neg J;have hn:p.jp≠j:=Ne.symm (mQ hT.nd).1.2.1;have Ru:∀a,aE H j a p.jp=some (aQ s):=fun a=>by rw[aC _ _ _ _ hn];exact Rl
     have aq:∀a b,aE (aE H j a) j b p.jp=some (aQ s):=fun a b=>by rw[aC _ _ _ _ hn];exact Ru a
     have hz:=yJ y (r.getD k z0);have ao:=mA (s.getD k z0) (eT y (r.getD k z0)).1 hx;rw[an]at ab;have ak:=(hS.setErr (bI (bI e (eT y (r.getD k z0)).2) (fB (s.getD k z0) (eT y (r.getD k z0)).1).2)).setPrice (s.set k (fB (s.getD k z0) (eT y (r.getD k z0)).1).1);have al:=(ae.upd (zA (p:=p) (n:=T.rows.length)) (some (bC (.os p.jr) (.os p.jp) (.os p.jb) (.os p.ju) (.os p.jt) T.cols T.vars (bI (bI e (eT y (r.getD k z0)).2) (fB (s.getD k z0) (eT y (r.getD k z0)).1).2)))).upd U9 (some (aQ (s.set k (fB (s.getD k z0) (eT y (r.getD k z0)).1).1)));have ah:∀K:AV->aD->Prop,K (str (eT y (r.getD k z0)).1) (aE H j (some (bC (.os p.jr) (.os p.jp) (.os p.jb) (.os p.ju) (.os p.jt) T.cols T.vars (bI e (eT y (r.getD k z0)).2))))->aI prog 200 [.op j 0 0,str y,str (r.getD k z0)] H K:=fun K h=>QB y _ hy hv Rj h
     generalize eT y (r.getD k z0)=m at *;simp only[go_sem,L,O,M,F,E,u];refine qK (.q 0 (.q 1 (.q 2 (.q 3 (.q 4 (.q 7 (.q 8 (.q 9 (.a2 5 (.a2 6 (.a1 10 (.a1 11 (.a1 12 (.a1 13 .nil)))) 10 (.a1 6 (.a1 11 (.a1 12 (.a1 13 .nil))))) 10 (.a1 5 (.a1 6 (.a1 11 (.a1 12 (.a1 13 .nil)))))))))))))) (fun Z H'=>Z 0=.op j 0 0/\Z 1=.os p.jp/\Z 8=str y/\Z 23=.oz (p.f row) 0 r.length/\Z 24=int (r.length:Nat)/\Z 25=int k/\H'=aE (aE H j (some (bC (.os p.jr) (.os p.jp) (.os p.jb) (.os p.ju) (.os p.jt) T.cols T.vars (bI (bI e m.2) (fB (s.getD k z0) m.1).2)))) p.jp (some (aQ (s.set k (fB (s.getD k z0) m.1).1)))) (by kernel_rfl) (fun K' am Hp=>?_) ?_
     . simp only[go_sem,L,O,M,F,E,u]
       repeat' (first
         | refine fY ?_ ?_
         | refine ah _ ?_
         | refine DV (s.getD k z0) m.1 hx hz (aB _ _ _) ?_
         | (rw[cK])
         | (refine⟨⟨by omega,by omega⟩,?_⟩)
         | (refine⟨ac,?_⟩)
         | (refine cC rZ (Ru _) (by simp; omega) ?_
            rw[fK ac])
         | (refine mV ?_)
         | simp only[go_sem,L,O,M,F,E,u,Rl,Ru,dN ac])
       all_goals exact am _ _ ⟨by simp only[go_sem,L,O,M,F,E,u],by simp only[go_sem,L,O,M,F,E,u],by simp only[go_sem,L,O,M,F,E,u],by simp only[go_sem,L,O,M,F,E,u],by simp only[go_sem,L,O,M,F,E,u],by simp only[go_sem,L,O,M,F,E,u],rfl⟩
     . rintro ρ H ⟨L,O,M,F,E,u,rfl⟩;simp only[go_sem,L,O,M,F,E,u,aY k];exact⟨⟨k+1,aa,rfl,by rw[ab];exact ak,al⟩,by simp only[aF];omega⟩
   . have J : is0 (r.getD k z0) = true := by have J:(!is0 (r.getD k z0))=false:=J;simpa using J
     rw[show kD y r (s,e) k=(s,e)from if_pos J]at ab;simp only[go_sem,L,O,M,F,E,u,aY k];exact⟨⟨k+1,aa,rfl,by rw[ab];exact hS,ae⟩,by simp only[aF];omega⟩
 have af:=geB hk (by simpa using af);subst af;simp only[go_sem];exact hK _ _ hS ae
end
end Si
namespace Si
open Go.Proofs.Tryz
open Go.Nu
open Go.Proofs.YtmhpdppobocokaaGreatDoor.Nu (ltB geB cB gI lE kK iZ jM jT fS dW)
def Tg{s:List Int}{k:Nat}(h:k<s.length)(v:Int):({ dB s with es:=(dB s).es.set k (kI ((dB s).es.getD k []) 0 [int v]) }:Row)=dB (s.set k v):=by
 have e:(dB s).es.getD k []=[int (s.getD k 0)]:=by simp[dB,List.getD,h,aP]
 rw[e];show(⟨_,1,(s.map aP).set k [int v]⟩:Row)=⟨_,1,(s.set k v).map aP⟩;rw[List.map_set];rfl
structure WfT(T:Tab)(n w:Nat):Prop where
 w0:0<w
 w1:w<=1048576
 n1:n<=1048576
 rows:T.rows.length=n
 row:∀r∈T.rows,r.length=w/\SzL r
 price:T.price.length=w/\SzL T.price
 base:T.base.length=n
def sD(y:ByteArray)(s:List ByteArray×Int)(k:Nat):List ByteArray×Int:=
 if is0 (s.1.getD k z0)=true then s else(s.1.set k (gI (s.1.getD k z0) y).1,bI s.2 (gI (s.1.getD k z0) y).2)
def KA(r:List ByteArray)(col:Nat)(e:Int):List ByteArray×Int:=aS (sD (r.getD col z0)) r.length (r,e)
def Hu(y:ByteArray)(s:List ByteArray×Int)(k:Nat):(sD y s k).1.length=s.1.length:=by unfold sD;split <;> simp
def LZ{y:ByteArray}{s:List ByteArray×Int}{k:Nat}(h:SzL s.1):SzL (sD y s k).1:=by
 unfold sD;split
 ·exact h
 ·exact h.set k (Bx _ _)
def P6(r:List ByteArray)(col:Nat)(e:Int):(KA r col e).1.length=r.length:=cJ (I:=fun s:List ByteArray×Int=>s.1.length=r.length) (fun s k h=>(Hu _ s k).trans h) _ _ rfl
def S4{r:List ByteArray}{col:Nat}{e:Int}(h:SzL r):SzL (KA r col e).1:=cJ (I:=fun s:List ByteArray×Int=>SzL s.1) (fun s k h=>LZ h) _ _ h
def divT(T:Tab)(row col:Nat):Tab:={ T with rows:=T.rows.set row (KA (T.rows.getD row []) col T.err).1,err:=(KA (T.rows.getD row []) col T.err).2 }
def rowS(row col:Nat)(T:Tab)(i:Nat):Tab:=if i=row then T else { T with rows:=T.rows.set i (wN (T.rows.getD i []) (T.rows.getD row []) col T.err).1,err:=(wN (T.rows.getD i []) (T.rows.getD row []) col T.err).2 }
def prcT(T:Tab)(row col:Nat):Tab:={ T with price:=(wN T.price (T.rows.getD row []) col T.err).1,err:=(wN T.price (T.rows.getD row []) col T.err).2 }
def basT(T:Tab)(row col:Nat):Tab:={ T with base:=T.base.set row (col:Nat) }
def pivT(T:Tab)(row col:Nat):Tab:=basT (prcT (aS (rowS row col) T.rows.length (divT T row col)) row col) row col
def OC{R:List (List ByteArray)}{i:Nat}(h:i<R.length):R.getD i []∈R:=by rw[List.getD,List.getElem?_eq_getElem h];exact List.getElem_mem h
def fH{R:List (List ByteArray)}{i:Nat}(h:i<R.length):R[i]?=some (R.getD i []):=by rw[List.getD,List.getElem?_eq_getElem h];rfl
section
variable{T:Tab}{n w:Nat}
def WfT.at(h:WfT T n w){i:Nat}(hi:i<n):(T.rows.getD i []).length=w/\SzL (T.rows.getD i []):=h.row _ (OC (by rw[h.rows];exact hi))
def WfT.setRow(h:WfT T n w){i:Nat}{r:List ByteArray}(F:r.length=w)(E:SzL r)(e:Int):WfT { T with rows:=T.rows.set i r,err:=e } n w:=
 ⟨h.w0,h.w1,h.n1,by simp[h.rows],fun s u=>by
  rcases List.mem_or_eq_of_mem_set u with h1|rfl
  ·exact h.row s h1
  ·exact⟨F,E⟩,h.price,h.base⟩
def WfT.divT(h:WfT T n w){row col:Nat}(u:row<n):WfT (divT T row col) n w:=h.setRow ((P6 _ _ _).trans (h.at u).1) (S4 (h.at u).2) _
def WfT.rowS(h:WfT T n w){row col i:Nat}(hi:i<n):WfT (rowS row col T i) n w:=by
 unfold Si.rowS;split
 ·exact h
 ·exact h.setRow ((IZ _ _ _ _).trans (h.at hi).1) (L0 (h.at hi).2) _
def xC{row col:Nat}(h:WfT T n w):∀k,k<=n->WfT (aS (Si.rowS row col) k T) n w
 | 0,_=>h
 | k+1,hk=>by rw[bV];exact(xC h k (by omega)).rowS (by omega)
def WfT.prcT(h:WfT T n w){row col:Nat}:WfT (prcT T row col) n w:=
 ⟨h.w0,h.w1,h.n1,h.rows,h.row,⟨(IZ _ _ _ _).trans h.price.1,L0 h.price.2⟩,h.base⟩
def WfT.basT(h:WfT T n w){row col:Nat}:WfT (basT T row col) n w:=⟨h.w0,h.w1,h.n1,h.rows,h.row,h.price,by show(T.base.set row _).length=n;rw[Xal];exact h.base⟩
def WfT.pivT(h:WfT T n w){row col:Nat}(u:row<n):WfT (pivT T row col) n w:=((xC (h.divT u) _ (by rw[h.rows];exact Xad _)).prcT).basT
end
section
variable{H0:aD}{j:Nat}{p:Pts}{T:Tab}{K:AV->aD->Prop}{n w:Nat}
def L2{row col:Nat}(hT:TabH H0 j p T)(hW:WfT T n w)(af:row<n)(a6:col<w)(hK:∀q H',TabH H' j p (pivT T row col)->eJ p j n H0 H'->K q H'):aI prog 202 [.op j 0 0,int row,int col] H0 K:=by
 have hn:=hW.rows;have a7:=hW.w1;have a8:=hW.n1;obtain⟨hl,sr⟩:=hW.at af;have hr:=fH (R:=T.rows) (i:=row) (by omega);have hD:divT T row col={ T with rows:=T.rows.set row (KA (T.rows.getD row []) col T.err).1,err:=(KA (T.rows.getD row []) col T.err).2 }:=rfl;have am:=hW.divT (col:=col) af;unfold pivT at hK;rw[hn]at hK;generalize T.rows.getD row []=r at *;have Rr:=hT.hF row r hr;have Rt:=hT.hR;have Rj:=hT.hT;have eo:=ozD (f:=p.f) hr;unfold bC at Rj;refine aI.body (c:=f202.body.getD .skip) (fun _=>false) mixed func202 rfl (by kernel_rfl) ?_;unfold f202;simp only[Xag];simp only[go_sem];simp only[go_sem,Rj,Rt];refine⟨⟨by omega,by rw[dS];omega⟩,by rw[dS];omega,?_⟩;simp only[go_sem,eo,Rr,Rj,Rt];refine⟨⟨by omega,by omega⟩,by omega,?_⟩;have ax:col<r.length:=by omega
 simp only[go_sem,eo,Rr,Rj,Rt,dN ax];refine⟨⟨by omega,by rw[dS];omega⟩,by rw[dS];omega,?_⟩;have hy:=sr.at col;have an:KA r col T.err=aS (sD (r.getD col z0)) r.length (r,T.err):=rfl;generalize r.getD col z0=y at *;have aa:TabH H0 j p { T with rows:=T.rows.set row (aS (sD y) 0 (r,T.err)).1,err:=(aS (sD y) 0 (r,T.err)).2 }:=by show TabH H0 j p { T with rows:=T.rows.set row r,err:=T.err };rw[A6 hr];exact hT
 refine⟨fun ρ H=>∃(k:Nat),k<=r.length/\ρ 0=.op j 0 0/\ρ 1=int row/\ρ 2=int col/\ρ 6=str y/\ρ 26=.oz (p.f row) 0 r.length/\ρ 27=int (r.length:Nat)/\ρ 28=int k/\TabH H j p { T with rows:=T.rows.set row (aS (sD y) k (r,T.err)).1,err:=(aS (sD y) k (r,T.err)).2 }/\eJ p j n H0 H,fun ρ _=>r.length-aW (ρ 28),⟨0,Xab _,by simp only[go_sem],by simp only[go_sem],by simp only[go_sem],by simp only[go_sem],by simp only[go_sem],by simp only[go_sem,Xaa],(by simp only[go_sem];rfl),aa,.refl _ _ _ _⟩,?_⟩;rintro ρ H ⟨k,hk,J,L,e2,e6,u,E,F,hS,ac⟩;simp only[go_sem,J,L,e2,e6,u,E,F];refine aA (fun ab=>?_) (fun ak=>?_)
 . have ab:=ltB (by simpa using ab);have ap:(aS (sD y) k (r,T.err)).1.length=r.length:=cJ (I:=fun s:List ByteArray×Int=>s.1.length=r.length) (fun s k h=>(Hu _ s k).trans h) _ _ rfl;have aq:SzL (aS (sD y) k (r,T.err)).1:=cJ (I:=fun s:List ByteArray×Int=>SzL s.1) (fun s k h=>LZ h) _ _ sr;have aj:aS (sD y) (k+1) (r,T.err)=sD y (aS (sD y) k (r,T.err)) k:=bV _ _ _;generalize aS (sD y) k (r,T.err)=S at *;obtain⟨s,e⟩:=S;simp only at hS ap aq;have Rr:=hS.hF row s (List.getElem?_set_self (by omega));have Rj:=hS.hT;have Rt:=hS.hR;have eo:(ozE p.f (T.rows.set row s)).getD row []=[.oz (p.f row) 0 r.length]:=by rw[ozD (List.getElem?_set_self (by omega)),ap]
   have hx:=aq.at k;have al:k<s.length:=by omega
   simp only[go_sem,J,L,e2,e6,u,E,F,Rr];refine⟨⟨by omega,by omega⟩,al,?_⟩;simp only[go_sem,dN al];refine aA (fun O=>?_) (fun O=>?_)
   . have O : ¬ is0 (s.getD k z0) = true := by have O:(!is0 (s.getD k z0))=true:=O;intro h;rw[h]at O;cases O
     rw[show sD y (s,e) k=(s.set k (gI (s.getD k z0) y).1,bI e (gI (s.getD k z0) y).2)from if_neg O]at aj;have ay:p.f row≠j:=(iP hT.nf (by omega)).1;have au:p.jr≠j:=Ne.symm (mQ hT.nd).1.1;have Ru:∀a,aE H j a (p.f row)=some (aQ s):=fun a=>by rw[aC _ _ _ _ ay];exact Rr
     have Rv:∀a,aE H j a p.jr=some (Gb p.f (T.rows.set row s)):=fun a=>by rw[aC _ _ _ _ au];exact Rt
     have Rw:∀e',aE H j (some (bC (.os p.jr) (.os p.jp) (.os p.jb) (.os p.ju) (.os p.jt) T.cols T.vars e')) j=some ⟨251,8,[[.os p.jr,.os p.jp,.os p.jb,.os p.ju,.os p.jt,int T.cols,int T.vars,int e']]⟩:=fun e'=>aB _ _ _
     have av:H j=some ⟨251,8,[[.os p.jr,.os p.jp,.os p.jb,.os p.ju,.os p.jt,int T.cols,int T.vars,int e]]⟩:=Rj;have ao:=(hS.setErr (bI e (gI (s.getD k z0) y).2)).setRow (i:=row) (r:=s) (r':=s.set k (gI (s.getD k z0) y).1) (List.getElem?_set_self (by omega)) (by simp);have aw:=(ac.upd (zA (p:=p) (n:=n)) (some (bC (.os p.jr) (.os p.jp) (.os p.jb) (.os p.ju) (.os p.jt) T.cols T.vars (bI e (gI (s.getD k z0) y).2)))).upd (TL af) (some (aQ (s.set k (gI (s.getD k z0) y).1)));simp only[List.set_set]at ao;have a5:∀K:AV->aD->Prop,K (str (gI (s.getD k z0) y).1) (aE H j (some (bC (.os p.jr) (.os p.jp) (.os p.jb) (.os p.ju) (.os p.jt) T.cols T.vars (bI e (gI (s.getD k z0) y).2))))->aI prog 247 [.op j 0 0,str (s.getD k z0),str y] H K:=fun K h=>TR _ y hx hy Rj h
     generalize gI (s.getD k z0) y=m at *;simp only[go_sem,J,L,e2,e6,u,E,F];refine qK (.q 0 (.q 1 (.q 2 (.q 4 (.q 7 (.q 8 (.q 9 (.q 10 (.a2 3 (.a2 5 (.a2 6 (.a1 11 (.a1 12 (.a1 13 .nil))) 11 (.a1 6 (.a1 12 (.a1 13 .nil)))) 11 (.a1 5 (.a1 6 (.a1 12 (.a1 13 .nil))))) 11 (.a1 3 (.a1 5 (.a1 6 (.a1 12 (.a1 13 .nil)))))))))))))) (fun ah H'=>ah 0=.op j 0 0/\ah 1=int row/\ah 2=int col/\ah 6=str y/\ah 26=.oz (p.f row) 0 r.length/\ah 27=int (r.length:Nat)/\ah 28=int k/\H'=aE (aE H j (some (bC (.os p.jr) (.os p.jp) (.os p.jb) (.os p.ju) (.os p.jt) T.cols T.vars (bI e m.2)))) (p.f row) (some (aQ (s.set k m.1)))) (by kernel_rfl) (fun K' ai Hp=>?_) ?_
     . simp only[go_sem,J,L,e2,e6,u,E,F]
       repeat' (first
         | refine fY ?_ ?_
         | refine a5 _ ?_
         | (refine⟨⟨by omega,by omega⟩,?_⟩)
         | (refine⟨⟨by omega,by rw[dS,Xal];omega⟩,?_⟩)
         | (refine⟨by rw[dS,Xal];omega,?_⟩)
         | (refine⟨al,?_⟩)
         | (refine cC rZ (Ru _) (by simp; omega) ?_
            rw[fK al])
         | (refine mV ?_)
         | simp only[go_sem,J,L,e2,e6,u,E,F,av,Rt,Ru,Rv,Rw,eo])
       all_goals exact ai _ _ ⟨by simp only[go_sem,J,L,e2,e6,u,E,F],by simp only[go_sem,J,L,e2,e6,u,E,F],by simp only[go_sem,J,L,e2,e6,u,E,F],by simp only[go_sem,J,L,e2,e6,u,E,F],by simp only[go_sem,J,L,e2,e6,u,E,F],by simp only[go_sem,J,L,e2,e6,u,E,F],by simp only[go_sem,J,L,e2,e6,u,E,F],rfl⟩
     . rintro ρ H ⟨J,L,e2,e6,u,E,F,rfl⟩;simp only[go_sem,J,L,e2,e6,u,E,F,aY k];exact⟨⟨k+1,ab,rfl,by rw[aj];exact ao,aw⟩,by simp only[aF];omega⟩
   . have O : is0 (s.getD k z0) = true := by have O:(!is0 (s.getD k z0))=false:=O;simpa using O
     rw[show sD y (s,e) k=(s,e)from if_pos O]at aj;simp only[go_sem,J,L,e2,e6,u,E,F,aY k];exact⟨⟨k+1,ab,rfl,by rw[aj];exact hS,ac⟩,by simp only[aF];omega⟩
 have ak:=geB hk (by simpa using ak);subst ak;rw[<-an,<-hD]at hS;clear aa hT Rr Rj Rt eo hD an hr sr hl;generalize divT T row col=T1 at *;have Rj:H j=some ⟨251,8,[[.os p.jr,.os p.jp,.os p.jb,.os p.ju,.os p.jt,int T1.cols,int T1.vars,int T1.err]]⟩:=hS.hT;have Rt:=hS.hR;have a0:=am.rows;simp only[go_sem,J,L,e2,e6,u,E,F,Rj,Rt,dS,a0];refine⟨fun ρ H=>∃(k:Nat),k<=n/\ρ 0=.op j 0 0/\ρ 1=int row/\ρ 2=int col/\ρ 53=int (n:Nat)/\ρ 54=int k/\TabH H j p (aS (rowS row col) k T1)/\eJ p j n H0 H,fun ρ _=>n-aW (ρ 54),⟨0,Xab _,by simp only[go_sem,J,L,e2,e6,u,E,F],by simp only[go_sem,J,L,e2,e6,u,E,F],by simp only[go_sem,J,L,e2,e6,u,E,F],by simp only[go_sem,Xaa,J,L,e2,e6,u,E,F],(by simp only[go_sem,J,L,e2,e6,u,E,F];rfl),hS,ac⟩,?_⟩;rintro ρ H ⟨k,hk,J,L,e2,ag,ae,hS,ac⟩;simp only[go_sem,J,L,e2,ag,ae];refine aA (fun ab=>?_) (fun ak=>?_)
 . have ab:=ltB (by simpa using ab);have Z:=xC (row:=row) (col:=col) am k (by omega);have aj:=bV (rowS row col) k T1;generalize aS (rowS row col) k T1=S at *;have Rj:H j=some ⟨251,8,[[.os p.jr,.os p.jp,.os p.jb,.os p.ju,.os p.jt,int S.cols,int S.vars,int S.err]]⟩:=hS.hT;have Rt:=hS.hR;have ar:=Z.rows;simp only[go_sem,J,L,e2,ag,ae];refine aA (fun O=>?_) (fun O=>?_)
   . have O:k≠row:=fun e=>by subst e;simp at O
     obtain⟨l1,l2⟩:=Z.at ab;obtain⟨l3,l4⟩:=Z.at af;have ek:=fH (R:=S.rows) (i:=k) (by omega);have er:=fH (R:=S.rows) (i:=row) (by omega);have eo:=ozD (f:=p.f) ek;simp only[go_sem,J,L,e2,ag,ae,Rj,Rt];refine⟨⟨by omega,by rw[dS];omega⟩,by rw[dS];omega,?_⟩;simp only[go_sem,eo];refine Qz hS ek er O (by omega) (by omega) (by omega) (by omega) l2 l4 fun q H' aa ai=>?_
     rw[ar]at ai;simp only[go_sem,J,L,e2,ag,ae,aY k];exact⟨⟨k+1,ab,rfl,by rw[aj,show rowS row col S k=_ from if_neg O];exact aa,ac.trans ai⟩,by simp only[aF];omega⟩
   . have O : k = row := by
       have:((k:Nat):Int)=row:=by simpa using O
       omega
     simp only[go_sem,J,L,e2,ag,ae,aY k];exact⟨⟨k+1,ab,rfl,by rw[aj,show rowS row col S k=_ from if_pos O];exact hS,ac⟩,by simp only[aF];omega⟩
 have ak:=geB hk (by simpa using ak);subst ak;have Z:=xC (row:=row) (col:=col) am k (Xad _);generalize aS (rowS row col) k T1=S at *;have Rj:H j=some ⟨251,8,[[.os p.jr,.os p.jp,.os p.jb,.os p.ju,.os p.jt,int S.cols,int S.vars,int S.err]]⟩:=hS.hT;have Rp:=hS.hP;obtain⟨l1,l2⟩:=Z.price;obtain⟨l3,l4⟩:=Z.at af;have er:=fH (R:=S.rows) (i:=row) (by have:=Z.rows;omega);simp only[go_sem,J,L,e2,ag,ae,Rj];refine⟨fun he=>?_,?_⟩
 . exfalso;have:=he _ Rp;have h0:=Z.w0;have:S.price=[]:=by simpa using this
   rw[this]at l1;simp at l1;omega
 refine aA (fun _=>?_) (fun O=>by cases O);simp only[go_sem,J,L,e2,ag,ae,Rj];refine Rh hS rfl er (by omega) (by omega) (by omega) (by have:=Z.rows;omega) l2 l4 fun q H' aa ai=>?_
 rw[Z.rows]at ai;have aa:TabH H' j p (prcT S row col):=aa;have ac:=ac.trans ai;have az:=Z.prcT (row:=row) (col:=col);generalize prcT S row col=M at *;have Rj:H' j=some ⟨251,8,[[.os p.jr,.os p.jp,.os p.jb,.os p.ju,.os p.jt,int M.cols,int M.vars,int M.err]]⟩:=aa.hT;have Rb:=aa.hB;have a9:=az.base;have a4:row<M.base.length:=by omega
 simp only[go_sem,J,L,e2,ag,ae,Rj,Rb];refine⟨⟨by omega,by omega⟩,?_⟩;refine cC so3 Rb (by simp;omega) ?_;rw[Tg a4];simp only[go_sem];exact hK _ _ (aa.setBase _) (ac.upd Vz _)
end
end Si
namespace Si
open Go.Proofs.Tryz
open Go.Nu
open Go.Proofs.YtmhpdppobocokaaGreatDoor.Nu (ltB geB cB gI lE kK iZ jM jT fS dW)
def lD{l:List Int}{k:Nat}(h:k<l.length):(l.map aP).getD k []=[int (l.getD k 0)]:=by simp[List.getD,h,aP]
structure LvS where
 found:Int
 least:ByteArray
 err:Int
def lvC(s:LvS)(q:ByteArray):Int:=if s.found>=0 then EV q s.least else 0
def lvG(T:Tab)(s:LvS)(i:Nat)(c:Int):Bool:=decide (s.found<0)||decide (c<0)||(c == 0&&decide (T.base.getD i 0<T.base.getD s.found.toNat 0))
def lvQ(T:Tab)(col i:Nat):ByteArray×Int:=gI ((T.rows.getD i []).getD ((T.rows.getD i []).length-1) z0) ((T.rows.getD i []).getD col z0)
def lvN(T:Tab)(s:LvS)(i:Nat)(q:ByteArray×Int):LvS:=if lvG T s i (lvC s q.1)=true then⟨(i:Nat),q.1,bI s.err q.2⟩else⟨s.found,s.least,bI s.err q.2⟩
def lvS(T:Tab)(col:Nat)(s:LvS)(i:Nat):LvS:=if rO ((T.rows.getD i []).getD col z0)<=0 then s else lvN T s i (lvQ T col i)
def lvT(T:Tab)(col:Nat):LvS:=aS (lvS T col) T.rows.length ⟨-1,emp,T.err⟩
structure LvB(s:LvS)(n:Nat):Prop where
 lo: -1<=s.found
 hi:s.found<(n:Int)
 sz:s.least.size<=1048576
def LvB.step{T:Tab}{col:Nat}{s:LvS}{n i:Nat}(h:LvB s n)(hi:i<n):LvB (lvS T col s i) n:=by
 unfold lvS;split
 ·exact h
 ·unfold lvN;split
  ·exact⟨show -1<=((i:Nat):Int)by omega,show((i:Nat):Int)<n by omega,Bx _ _⟩
  ·exact⟨h.lo,h.hi,h.sz⟩
def lvB(T:Tab)(col:Nat){n:Nat}:∀k,k<=n->LvB (aS (lvS T col) k ⟨-1,emp,T.err⟩) n
 | 0,_=>⟨Int.le_refl _,by show(-1:Int)<n;omega,show emp.size<=1048576 by decide⟩
 | k+1,hk=>by rw[bV];exact(lvB T col k (by omega)).step (by omega)
section
variable{H0:aD}{j:Nat}{p:Pts}{T:Tab}{K:AV->aD->Prop}{n w:Nat}
def Ou{col:Nat}(hT:TabH H0 j p T)(hW:WfT T n w)(av:col<w)(hK:∀H',TabH H' j p { T with err:=(lvT T col).err }->eJ p j n H0 H'->K (int (lvT T col).found) H'):aI prog 201 [.op j 0 0,int col] H0 K:=by
 have hn:=hW.rows;have aw:=hW.w1;have ax:=hW.n1;have az:=hW.base;have Rj:H0 j=some ⟨251,8,[[.os p.jr,.os p.jp,.os p.jb,.os p.ju,.os p.jt,int T.cols,int T.vars,int T.err]]⟩:=hT.hT;have Rt:=hT.hR;unfold lvT at hK;rw[hn]at hK;refine aI.body (c:=f201.body.getD .skip) (fun _=>false) mixed func201 rfl (by kernel_rfl) ?_;unfold f201;simp only[Xag];simp only[go_sem];simp only[go_sem,Rj,Rt,dS,hn];refine⟨fun ρ H=>∃(k:Nat),k<=n/\ρ 0=.op j 0 0/\ρ 1=int col/\ρ 14=.os p.jr/\ρ 15=int (n:Nat)/\ρ 16=int k/\ρ 5=int (aS (lvS T col) k ⟨-1,emp,T.err⟩).found/\ρ 6=str (aS (lvS T col) k ⟨-1,emp,T.err⟩).least/\TabH H j p { T with err:=(aS (lvS T col) k ⟨-1,emp,T.err⟩).err }/\eJ p j n H0 H,fun ρ _=>n-aW (ρ 16),⟨0,Xab _,by simp only[go_sem],by simp only[go_sem],by simp only[go_sem],by simp only[go_sem,Xaa],(by simp only[go_sem];rfl),(by simp only[go_sem];rfl),(by simp only[go_sem];rfl),hT,.refl _ _ _ _⟩,?_⟩;rintro ρ H ⟨k,hk,e0,e1,L,J,F,e5,Z,hS,af⟩;simp only[go_sem,e0,e1,L,J,F,e5,Z];refine aA (fun aa=>?_) (fun ag=>?_)
 ·have aa:=ltB (by simpa using aa);have hB:=lvB T col (n:=n) k (by omega);have E:=bV (lvS T col) k ⟨-1,emp,T.err⟩;generalize aS (lvS T col) k ⟨-1,emp,T.err⟩=S at *;obtain⟨O,le,e⟩:=S;simp only at e5 Z hS;obtain⟨b1,b2,b3⟩:=hB;simp only at b1 b2 b3;obtain⟨l1,l2⟩:=hW.at aa;have ek:=fH (R:=T.rows) (i:=k) (by omega);have eo:=ozD (f:=p.f) ek;have Rr:=hS.hF k _ ek;have Rt:=hS.hR;rw[show lvS T col ⟨O,le,e⟩ k=if rO ((T.rows.getD k []).getD col z0)<=0 then⟨O,le,e⟩else lvN T ⟨O,le,e⟩ k (lvQ T col k)from rfl]at E;have hq:lvQ T col k=gI ((T.rows.getD k []).getD ((T.rows.getD k []).length-1) z0) ((T.rows.getD k []).getD col z0):=rfl;generalize T.rows.getD k []=r at *;have ac:col<r.length:=by omega
  have hx:=l2.at col;have ap:=l2.at (r.length-1);have aj:r.length-1<r.length:=by omega
  have ao:=fS (r.getD col z0) hx;have wl:IntKind.i64.wrap ((r.length:Int)-1)=((r.length-1:Nat):Int):=by rw[aV (by omega)];omega
  simp only[go_sem,e0,e1,L,J,F,e5,Z,Rt,eo,Rr];refine⟨⟨by omega,by rw[dS];omega⟩,by rw[dS];omega,?_⟩;refine⟨⟨by omega,by omega⟩,ac,?_⟩;simp only[go_sem,e0,e1,L,J,F,e5,Z,dN ac];refine aN ao ?_;simp only[go_sem];refine aA (fun M=>?_) (fun M=>?_)
  ·have M:rO (r.getD col z0)<=0:=by simpa using M
   rw[if_pos M]at E;simp only[go_sem,e0,e1,L,J,F,e5,Z,aY k];exact⟨⟨k+1,aa,rfl,by rw[E],by rw[E],by rw[E];exact hS,af⟩,by simp only[aF];omega⟩
  have M:¬rO (r.getD col z0)<=0:=by simpa using M
  rw[if_neg M,hq]at E;have aq:p.f k≠j:=(iP hT.nf (by omega)).1;have Ru:∀a,aE H j a (p.f k)=some (aQ r):=fun a=>by rw[aC _ _ _ _ aq];exact Rr
  have au:∀K:AV->aD->Prop,K (str (gI (r.getD (r.length-1) z0) (r.getD col z0)).1) (aE H j (some (bC (.os p.jr) (.os p.jp) (.os p.jb) (.os p.ju) (.os p.jt) T.cols T.vars (bI e (gI (r.getD (r.length-1) z0) (r.getD col z0)).2))))->aI prog 247 [.op j 0 0,str (r.getD (r.length-1) z0),str (r.getD col z0)] H K:=fun K h=>TR _ _ ap hx hS.hT h
  have ar:=Bx (r.getD (r.length-1) z0) (r.getD col z0);generalize gI (r.getD (r.length-1) z0) (r.getD col z0)=q at *;have ab:=hS.setErr (bI e q.2);have ai:=af.upd (zA (p:=p) (n:=n)) (some (bC (.os p.jr) (.os p.jp) (.os p.jb) (.os p.ju) (.os p.jt) T.cols T.vars (bI e q.2)));refine qK (.q 0 (.q 1 (.q 2 (.q 3 (.q 4 (.q 7 (.q 8 (.a2 5 (.a2 6 (.a1 9 (.a1 10 (.a1 11 (.q 12 .nil)))) 9 (.a2 6 (.a1 10 (.a1 11 (.q 12 .nil))) 10 (.a1 6 (.a1 11 (.q 12 .nil))))) 9 (.a2 5 (.a2 6 (.a1 10 (.a1 11 (.q 12 .nil))) 10 (.a1 6 (.a1 11 (.q 12 .nil)))) 10 (.a1 5 (.a1 6 (.a1 11 (.q 12 .nil))))))))))))) (fun u H'=>u 0=.op j 0 0/\u 1=int col/\u 14=.os p.jr/\u 15=int (n:Nat)/\u 16=int k/\u 5=int O/\u 6=str le/\u 7=int k/\u 9=str q.1/\H'=aE H j (some (bC (.os p.jr) (.os p.jp) (.os p.jb) (.os p.ju) (.os p.jt) T.cols T.vars (bI e q.2)))) (by kernel_rfl) (fun K' am Hp=>?_) ?_
  ·simp only[go_sem,e0,e1,L,J,F,e5,Z]
   repeat' (first
    | refine fY ?_ ?_
    | refine au _ ?_
    | (refine⟨⟨by omega,by omega⟩,?_⟩)
    | (refine⟨ac,?_⟩)
    | (refine⟨aj,?_⟩)
    | simp only[go_sem,e0,e1,L,J,F,e5,Z,Rr,Ru,dN ac,dN aj,wl]
    | (refine mV ?_))
   all_goals (refine am _ _ ⟨?_,?_,?_,?_,?_,?_,?_,?_,?_,rfl⟩)
   all_goals simp only[go_sem,e0,e1,L,J,F,e5,Z]
  rintro ρ H ⟨e0,e1,L,J,F,e5,Z,e7,e9,rfl⟩;have an:=dW q.1 le ar b3;have ae:lvC ⟨O,le,e⟩ q.1=if O>=0 then EV q.1 le else 0:=rfl
  generalize aE H j (some (bC (.os p.jr) (.os p.jp) (.os p.jb) (.os p.ju) (.os p.jt) T.cols T.vars (bI e q.2)))=G at *;simp only[go_sem,e5];refine gC (fun u H'=>u 0=.op j 0 0/\u 1=int col/\u 14=.os p.jr/\u 15=int (n:Nat)/\u 16=int k/\u 5=int O/\u 6=str le/\u 7=int k/\u 9=str q.1/\u 10=int (lvC ⟨O,le,e⟩ q.1)/\H'=G) ?_ fun K hK=>aA (fun M=>?_) (fun M=>?_)
  rotate_left
  ·have M:O>=0:=by simpa using M
   rw[if_pos M]at ae;simp only[go_sem,Z,e9];refine aN an ?_;simp only[go_sem];exact hK _ _ ⟨by simp only[go_sem,e0],by simp only[go_sem,e1],by simp only[go_sem,L],by simp only[go_sem,J],by simp only[go_sem,F],by simp only[go_sem,e5],by simp only[go_sem,Z],by simp only[go_sem,e7],by simp only[go_sem,e9],by simp only[go_sem,ae],rfl⟩
  ·have M:¬O>=0:=by simpa using M
   rw[if_neg M]at ae;simp only[go_sem];exact hK _ _ ⟨by simp only[go_sem,e0],by simp only[go_sem,e1],by simp only[go_sem,L],by simp only[go_sem,J],by simp only[go_sem,F],by simp only[go_sem,e5],by simp only[go_sem,Z],by simp only[go_sem,e7],by simp only[go_sem,e9],by simp only[go_sem,ae],rfl⟩
  rintro ρ H ⟨e0,e1,L,J,F,e5,Z,e7,e9,al,rfl⟩;have Rj:H j=some ⟨251,8,[[.os p.jr,.os p.jp,.os p.jb,.os p.ju,.os p.jt,int T.cols,int T.vars,int (bI e q.2)]]⟩:=ab.hT;have Rb:=ab.hB;have hN:lvN T ⟨O,le,e⟩ k q=if lvG T ⟨O,le,e⟩ k (lvC ⟨O,le,e⟩ q.1)=true then⟨(k:Nat),q.1,bI e q.2⟩else⟨O,le,bI e q.2⟩:=rfl
  rw[hN]at E;have hG:∀c,lvG T ⟨O,le,e⟩ k c=(decide (O<0)||decide (c<0)||(c == 0&&decide (T.base.getD k 0<T.base.getD O.toNat 0))):=fun c=>rfl
  generalize lvC ⟨O,le,e⟩ q.1=c at *;rw[hG]at E;simp only[go_sem];refine eN [j,p.jb] [(0,true),(1,true),(2,true),(3,true),(4,true),(5,true),(6,true),(7,true),(8,true),(9,true),(10,true),(11,true),(12,true),(13,true),(14,true),(15,true),(16,true),(17,true),(18,true),(19,true),(20,true),(21,true),(22,true),(23,true),(24,true),(25,true),(26,true)] (by simp[Rj,Rb]) (by kernel_rfl) fun Hp Hr hp hr _ ay=>?_
  have ah:=(hp j (by simp)).trans Rj;have ak:=(hp p.jb (by simp)).trans Rb;simp only[go_sem,e0,e5,e7,al,ah,ak];refine⟨fun _=>⟨by omega,by omega⟩,fun _=>by omega,fun hg=>?_,fun _=>by omega,?_⟩
  ·have h1:=hg.1;simp only[Xbq,decide_eq_false_iff_not]at h1;omega
  simp only[go_sem,lD (show k<T.base.length by omega),lD (show O.toNat<T.base.length by omega)];refine nC hr ?_;simp only[go_sem];refine aA (fun M=>?_) (fun M=>?_)
  ·rw[if_pos M]at E;simp only[go_sem,e0,e1,L,J,F,e5,Z,e7,e9,aY k];exact⟨⟨k+1,aa,rfl,by rw[E],by rw[E],by rw[E];exact ab,ai⟩,by simp only[aF];omega⟩
  ·rw[if_neg (by rw[M];simp)]at E;simp only[go_sem,e0,e1,L,J,F,e5,Z,aY k];exact⟨⟨k+1,aa,rfl,by rw[E],by rw[E],by rw[E];exact ab,ai⟩,by simp only[aF];omega⟩
 have ag:=geB hk (by simpa using ag);subst ag;simp only[go_sem,e0,e1,L,J,F,e5,Z];exact hK _ hS af
end
end Si
namespace Si
open Go.Proofs.Tryz
open Go.Nu
open Go.Proofs.YtmhpdppobocokaaGreatDoor.Nu (ltB geB cB gI lE kK iZ jM jT fS dW)
def Ve(T:Tab)(w:Nat):Prop:=∀i,i<T.base.length->0<=T.base.getD i 0/\T.base.getD i 0+1<(w:Int)
def zW(c:ByteArray)(r:List ByteArray)(s:List ByteArray×Int)(k:Nat):List ByteArray×Int:=
 (s.1.set k (fB (s.1.getD k z0) (eT c (r.getD k z0)).1).1,bI (bI s.2 (eT c (r.getD k z0)).2) (fB (s.1.getD k z0) (eT c (r.getD k z0)).1).2)
def Ak(T:Tab)(cost:List ByteArray)(s:List ByteArray×Int)(i:Nat):List ByteArray×Int:=
 if is0 (cost.getD (T.base.getD i 0).toNat z0)=true then s else aS (zW (cost.getD (T.base.getD i 0).toNat z0) (T.rows.getD i [])) (T.rows.getD i []).length s
def Qm(T:Tab)(cost:List ByteArray):List ByteArray×Int:=aS (Ak T cost) T.base.length (cost++[z0],T.err)
def chgT(T:Tab)(cost:List ByteArray):Tab:={ T with price:=(Qm T cost).1,err:=(Qm T cost).2 }
def QP(c:ByteArray)(r:List ByteArray)(s:List ByteArray×Int)(k:Nat):(zW c r s k).1.length=s.1.length:=by unfold zW;simp
def RT{c:ByteArray}{r:List ByteArray}{s:List ByteArray×Int}{k:Nat}(h:SzL s.1):SzL (zW c r s k).1:=h.set k (mA _ _ (h.at k))
def PrB(w:Nat)(s:List ByteArray×Int):Prop:=s.1.length=w/\SzL s.1
def QC{c:ByteArray}{r:List ByteArray}{w:Nat}{s:List ByteArray×Int}{k:Nat}(h:PrB w s):PrB w (zW c r s k):=⟨(QP c r s k).trans h.1,RT h.2⟩
def Pc{T:Tab}{cost:List ByteArray}{w:Nat}{s:List ByteArray×Int}{i:Nat}(h:PrB w s):PrB w (Ak T cost s i):=by
 unfold Ak;split
 ·exact h
 ·exact cJ (fun s k h=>QC h) _ _ h
def SzL.snoc{l:List ByteArray}(h:SzL l){s:ByteArray}(E:s.size<=1048576):SzL (l++[s]):=fun t u=>by
 rcases Xbj.1 u with h1|h1
 ·exact h t h1
 ·simp at h1;subst h1;exact E
def WfT.chgT{T:Tab}{n w:Nat}(h:WfT T n w){cost:List ByteArray}(E:cost.length+1=w)(u:SzL cost):WfT (chgT T cost) n w:=
 ⟨h.w0,h.w1,h.n1,h.rows,h.row,(cJ (I:=PrB w) (fun s k h=>Pc h) _ _ ⟨by simp;omega,u.snoc (by decide)⟩:PrB w (Qm T cost)),h.base⟩
def TabH.newPrice{H:aD}{j:Nat}{p:Pts}{T:Tab}(h:TabH H j p T){i:Nat}(hi:H i=none)(l:List ByteArray):TabH (aE (aE H i (some (aQ l))) j (some (bC (.os p.jr) (.os i) (.os p.jb) (.os p.ju) (.os p.jt) T.cols T.vars T.err))) j { p with jp:=i } { T with price:=l }:=by
 obtain⟨⟨a1,a2,a3,O,M⟩,⟨b1,b2,b3,b4⟩,⟨c1,c2,c3⟩,⟨d1,d2⟩,f1⟩:=mQ h.nd;have L:j≠i:=aO h.hT hi;have n1:p.jr≠i:=aO h.hR hi;have n3:p.jb≠i:=aO h.hB hi;have n4:p.ju≠i:=aO h.hU hi;have n5:p.jt≠i:=aO h.hN hi;have nf:∀k,k<T.rows.length->p.f k≠i:=fun k E=>aO (h.hF k _ (fH E)) hi
 have u:∀k r,k≠j->H k=some r->aE (aE H i (some (aQ l))) j (some (bC (.os p.jr) (.os i) (.os p.jb) (.os p.ju) (.os p.jt) T.cols T.vars T.err)) k=some r:=fun k r E F=>by rw[aC _ _ _ _ E,aC _ _ _ _ (aO F hi)];exact F
 refine⟨aB _ _ _,u _ _ (Ne.symm a1) h.hR,?_,u _ _ (Ne.symm a3) h.hB,u _ _ (Ne.symm O) h.hU,u _ _ (Ne.symm M) h.hN,fun k r F=>u _ _ (iP h.nf (List.getElem?_eq_some_iff.1 F).1).1 (h.hF k r F),?_,?_,h.inj⟩
 ·show aE (aE H i _) j _ i=_;rw[aC _ _ _ _ (Ne.symm L),aB]
 ·unfold Pts.all;simp only[List.nodup_cons,Xao,List.not_mem_nil,or_false,not_or,not_false_eq_true,List.nodup_nil,and_true];exact⟨⟨a1,L,a3,O,M⟩,⟨n1,b2,b3,b4⟩,⟨Ne.symm n3,Ne.symm n4,Ne.symm n5⟩,⟨d1,d2⟩,f1⟩
 ·intro k E m J;obtain⟨e1,e2,e3,Z,e5,e6⟩:=iP h.nf E;have:=nf k E;unfold Pts.all at J;simp only[Xao,List.not_mem_nil,or_false]at J;rcases J with rfl|rfl|rfl|rfl|rfl|rfl
  ·exact e1
  ·exact e2
  ·exact this
  ·exact Z
  ·exact e5
  ·exact e6
def eJ.new{p:Pts}{j n:Nat}{H H':aD}(h:eJ p j n H H'){i:Nat}(hi:H i=none)(a:Option Row):eJ p j n H (aE H' i a):=fun k r E u=>by rw[aC _ _ _ _ (aO u hi)];exact h k r E u
def wH(m:Nat):(⟨59,1,List.replicate m [AV.v (.string ByteArray.empty)]⟩:Row)=aQ (List.replicate m emp):=by rw[aQ,List.map_replicate];rfl
def Tx(cost:List ByteArray)(x:ByteArray):((List.replicate (cost.length+1) x).map Go.Aw.D.cQ).take 0++(cost.map Go.Aw.D.cQ).take (min (cost.map Go.Aw.D.cQ).length ((List.replicate (cost.length+1) x).map Go.Aw.D.cQ).length)++((List.replicate (cost.length+1) x).map Go.Aw.D.cQ).drop (0+min (cost.map Go.Aw.D.cQ).length ((List.replicate (cost.length+1) x).map Go.Aw.D.cQ).length)=(cost++[x]).map Go.Aw.D.cQ:=by
 have e:min (cost.map Go.Aw.D.cQ).length ((List.replicate (cost.length+1) x).map Go.Aw.D.cQ).length=cost.length:=by simp
 rw[e,Xba (l:=cost.map Go.Aw.D.cQ) (i:=cost.length) (by simp),List.take_zero,Xau,Nat.zero_add,List.map_replicate,List.drop_replicate,Xak];simp
section
variable{H0:aD}{j:Nat}{p:Pts}{T:Tab}{K:AV->aD->Prop}{n w:Nat}
set_option maxHeartbeats 1000000 in
theorem HT {P0:List ByteArray} {jc:Nat} {cost:List ByteArray} (hT:TabH H0 j p T) (hW:WfT { T with price:=P0 } n w) (az:Ve T w) (hc:H0 jc=some (aQ cost)) (ap:cost.length+1=w) (an:SzL cost) (ai:Off p j n jc)
    (hK:∀q i H',H0 i=none->TabH H' j { p with jp:=i } (chgT T cost)->eJ p j n H0 H'->K q H'):aI prog 130 [.op j 0 0,.os jc] H0 K:=by
  have hn:T.rows.length=n:=hW.rows
  have a7:=hW.w1
  have a9:=hW.n1
  have aw:T.base.length=n:=hW.base
  have Rj:H0 j=some ⟨251,8,[[.os p.jr,.os p.jp,.os p.jb,.os p.ju,.os p.jt,int T.cols,int T.vars,int T.err]]⟩:=hT.hT
  refine aI.body (c:=f130.body.getD .skip) (fun _=>false) mixed func130 rfl (by kernel_rfl) ?_
  unfold f130
  simp only[Xag]
  simp only[go_sem]
  have wl:IntKind.i64.wrap ((cost.length:Int)+1)=((cost.length+1:Nat):Int):=nN (by omega)
  simp only[go_sem,Rj,hc,wl]
  refine⟨⟨⟨by omega,Int.le_refl _⟩,by omega⟩,?_⟩
  rw[wH]
  refine aL fun i hi=>?_
  have aq:=eY (r':=aQ (List.replicate (cost.length+1) emp)) Rj hi
  simp only[go_sem]
  refine cC Vt aq (by simp) ?_
  have L:=hT.newPrice hi (List.replicate (cost.length+1) emp)
  have J:=((eJ.refl p j n H0).new hi (some (aQ (List.replicate (cost.length+1) emp)))).upd zA (some (bC (.os p.jr) (.os i) (.os p.jb) (.os p.ju) (.os p.jt) T.cols T.vars T.err))
  simp only[go_sem]
  change D3 _ _ _ _ _ _ (aE (aE H0 i (some (aQ (List.replicate (cost.length+1) emp)))) j (some (bC (.os p.jr) (.os i) (.os p.jb) (.os p.ju) (.os p.jt) T.cols T.vars T.err))) _
  generalize aE (aE H0 i (some (aQ (List.replicate (cost.length+1) emp)))) j (some (bC (.os p.jr) (.os i) (.os p.jb) (.os p.ju) (.os p.jt) T.cols T.vars T.err))=G at *
  have ag:=J jc _ ai hc
  have Rj:G j=some ⟨251,8,[[.os p.jr,.os i,.os p.jb,.os p.ju,.os p.jt,int T.cols,int T.vars,int T.err]]⟩:=L.hT
  have Ri:G i=some (aQ (List.replicate (cost.length+1) emp)):=L.hP
  refine Ts Vl Ri (.inl ⟨rfl,rfl,rfl⟩) (.inr (.inl ⟨jc,_,rfl,ag,rfl⟩)) rfl (eH.2 fun c hc=>by obtain⟨_,_,rfl⟩:=List.mem_map.1 hc;rfl) ?_
  generalize hP:aE G i _=HP
  have e:HP=aE G i (some (aQ (cost++[emp]))):=by rw[<-hP];exact congrArg (fun es=>aE G i (some (⟨_,1,es⟩:Row))) (Tx cost emp)
  subst e
  clear hP
  have L:=L.setPrice (cost++[emp])
  have J:=J.new hi (some (aQ (cost++[emp])))
  have ag:=J jc _ ai hc
  have Rj:aE G i (some (aQ (cost++[emp]))) j=some ⟨251,8,[[.os p.jr,.os i,.os p.jb,.os p.ju,.os p.jt,int T.cols,int T.vars,int T.err]]⟩:=L.hT
  have Ri:aE G i (some (aQ (cost++[emp]))) i=some (aQ (cost++[emp])):=L.hP
  have al:cost.length<(cost++[emp]).length:=by simp
  generalize aE G i (some (aQ (cost++[emp])))=G2 at *
  simp only[go_sem,Rj,Ri,ag]
  refine⟨⟨by omega,by simp;omega⟩,?_⟩
  refine cC rZ Ri (by simp) ?_
  rw[fK al,show(cost++[emp]).set cost.length ⟨#[48]⟩=cost++[z0]by rw[List.set_append_right _ _ (Xad _)];simp]
  have L:=L.setPrice (cost++[z0])
  have J:=J.new hi (some (aQ (cost++[z0])))
  have ag:=J jc _ ai hc
  have L:TabH (aE G2 i (some (aQ (cost++[z0])))) j { p with jp:=i } { T with price:=(aS (Ak T cost) 0 (cost++[z0],T.err)).1,err:=(aS (Ak T cost) 0 (cost++[z0],T.err)).2 }:=L
  have a4:PrB w (cost++[z0],T.err):=⟨by simp;omega,an.snoc (by decide)⟩
  generalize aE G2 i (some (aQ (cost++[z0])))=G3 at *
  clear Rj Ri aq
  have Rj:G3 j=some ⟨251,8,[[.os p.jr,.os i,.os p.jb,.os p.ju,.os p.jt,int T.cols,int T.vars,int T.err]]⟩:=L.hT
  have Rb:=L.hB
  simp only[go_sem,Rj,Rb,aw]
  refine⟨fun ρ H=>∃(k:Nat),k<=n/\ρ 0=.op j 0 0/\ρ 1=.os jc/\ρ 32=.os p.jb/\ρ 33=int (n:Nat)/\ρ 34=int k/\TabH H j { p with jp:=i } { T with price:=(aS (Ak T cost) k (cost++[z0],T.err)).1,err:=(aS (Ak T cost) k (cost++[z0],T.err)).2 }/\eJ p j n H0 H,fun ρ _=>n-aW (ρ 34),⟨0,Xab _,by simp only[go_sem],by simp only[go_sem],by simp only[go_sem],by simp only[go_sem,Xaa],(by simp only[go_sem];rfl),L,J⟩,?_⟩
  rintro ρ H ⟨k,hk,M,O,u,F,E,L,J⟩
  simp only[go_sem,M,O,u,F,E]
  refine aA (fun ae=>?_) (fun af=>?_)
  . have ae:=ltB (by simpa using ae)
    have hB:PrB w (aS (Ak T cost) k (cost++[z0],T.err)):=cJ (fun s k h=>Pc h) _ _ a4
    have ah:=bV (Ak T cost) k (cost++[z0],T.err)
    generalize aS (Ak T cost) k (cost++[z0],T.err)=S at *
    obtain⟨s,e⟩:=S
    simp only at L
    have ag:=J jc _ ai hc
    have Rb:=L.hB
    obtain⟨c1,c2⟩:=az k (by omega)
    have ao:k<T.base.length:=by omega
    rw[show Ak T cost (s,e) k=if is0 (cost.getD (T.base.getD k 0).toNat z0)=true then(s,e)else aS (zW (cost.getD (T.base.getD k 0).toNat z0) (T.rows.getD k [])) (T.rows.getD k []).length (s,e)from rfl]at ah
    simp only[go_sem,M,O,u,F,E,Rb]
    refine⟨⟨by omega,by omega⟩,ao,?_⟩
    simp only[go_sem,M,O,u,F,E,lD ao,ag]
    generalize T.base.getD k 0=b at *
    have av:b.toNat<cost.length:=by omega
    have al:=an.at b.toNat
    refine⟨⟨by omega,by omega⟩,av,?_⟩
    simp only[go_sem,M,O,u,F,E,dN av]
    refine aA (fun hb=>?_) (fun hb=>?_)
    . have hb:is0 (cost.getD b.toNat z0)=true:=hb
      rw[if_pos hb]at ah
      simp only[go_sem,M,O,u,F,E,aY k]
      exact⟨⟨k+1,ae,rfl,by rw[ah];exact L,J⟩,by simp only[aF];omega⟩
    have hb:¬is0 (cost.getD b.toNat z0)=true:=by have hb:is0 (cost.getD b.toNat z0)=false:=hb;rw[hb];simp
    rw[if_neg hb]at ah
    obtain⟨l1,l2⟩:=hW.at ae
    have ek:=fH (R:=T.rows) (i:=k) (by omega)
    have eo:=ozD (f:=p.f) ek
    generalize cost.getD b.toNat z0=c at *
    generalize T.rows.getD k []=r at *
    have Rj:H j=some ⟨251,8,[[.os p.jr,.os i,.os p.jb,.os p.ju,.os p.jt,int T.cols,int T.vars,int e]]⟩:=L.hT
    have Rt:H p.jr=some (Gb p.f T.rows):=L.hR
    simp only[go_sem,M,O,u,F,E,Rj,Rt]
    refine⟨⟨by omega,by rw[dS];omega⟩,by rw[dS];omega,?_⟩
    simp only[go_sem,eo]
    generalize a8:k=k0 at *
    refine⟨fun ρ H=>∃(k:Nat),k<=r.length/\ρ 0=.op j 0 0/\ρ 1=.os jc/\ρ 6=str c/\ρ 32=.os p.jb/\ρ 33=int (n:Nat)/\ρ 34=int k0/\ρ 51=.oz (p.f k0) 0 r.length/\ρ 52=int (r.length:Nat)/\ρ 53=int k/\TabH H j { p with jp:=i } { T with price:=(aS (zW c r) k (s,e)).1,err:=(aS (zW c r) k (s,e)).2 }/\eJ p j n H0 H,fun ρ _=>r.length-aW (ρ 53),⟨0,Xab _,by simp only[go_sem,M,O,u,F,E],by simp only[go_sem,M,O,u,F,E],by simp only[go_sem,M,O,u,F,E],by simp only[go_sem,M,O,u,F,E],by simp only[go_sem,M,O,u,F,E],by simp only[go_sem,M,O,u,F,E],by simp only[go_sem,M,O,u,F,E],by simp only[go_sem,Xaa,M,O,u,F,E],(by simp only[go_sem,M,O,u,F,E];rfl),L,J⟩,?_⟩
    rintro ρ H ⟨k,hk,M,O,e6,u,F,E,aa,ab,ac,L,J⟩
    simp only[go_sem,M,O,e6,u,F,E,aa,ab,ac]
    refine aA (fun ae=>?_) (fun af=>?_)
    . have am:=ltB (by simpa using ae)
      obtain⟨hs1,hs2⟩:PrB w (aS (zW c r) k (s,e)):=cJ (fun s k h=>QC h) _ _ hB
      have aj:=bV (zW c r) k (s,e)
      generalize aS (zW c r) k (s,e)=S at *
      obtain⟨s',e'⟩:=S
      simp only at L hs1 hs2
      have Rl:H i=some (aQ s'):=L.hP
      have Rr:=L.hF k0 r ek
      have hv:=l2.at k
      have hx:=hs2.at k
      have ak:k<s'.length:=by omega
      have au:k<r.length:=by omega
      have a6:i≠j:=fun h=>by
        have:=mQ L.nd
        exact this.1.2.1 h.symm
      have Rj:H j=some ⟨251,8,[[.os p.jr,.os i,.os p.jb,.os p.ju,.os p.jt,int T.cols,int T.vars,int e']]⟩:=L.hT
      have Ru:∀a,aE H j a i=some (aQ s'):=fun a=>by rw[aC _ _ _ _ a6];exact Rl
      have Rw:∀x,aE H j (some (bC (.os p.jr) (.os i) (.os p.jb) (.os p.ju) (.os p.jt) T.cols T.vars x)) j=some ⟨251,8,[[.os p.jr,.os i,.os p.jb,.os p.ju,.os p.jt,int T.cols,int T.vars,int x]]⟩:=fun x=>aB _ _ _
      have ap:zW c r (s',e') k=(s'.set k (fB (s'.getD k z0) (eT c (r.getD k z0)).1).1,bI (bI e' (eT c (r.getD k z0)).2) (fB (s'.getD k z0) (eT c (r.getD k z0)).1).2):=rfl
      have hz:=yJ c (r.getD k z0)
      rw[ap]at aj
      have ay:=(L.setErr (bI (bI e' (eT c (r.getD k z0)).2) (fB (s'.getD k z0) (eT c (r.getD k z0)).1).2)).setPrice (s'.set k (fB (s'.getD k z0) (eT c (r.getD k z0)).1).1)
      have a0:=(J.upd (zA (p:=p) (n:=n)) (some (bC (.os p.jr) (.os i) (.os p.jb) (.os p.ju) (.os p.jt) T.cols T.vars (bI (bI e' (eT c (r.getD k z0)).2) (fB (s'.getD k z0) (eT c (r.getD k z0)).1).2)))).new hi (some (aQ (s'.set k (fB (s'.getD k z0) (eT c (r.getD k z0)).1).1)))
      have ax:∀K:AV->aD->Prop,K (str (eT c (r.getD k z0)).1) (aE H j (some (bC (.os p.jr) (.os i) (.os p.jb) (.os p.ju) (.os p.jt) T.cols T.vars (bI e' (eT c (r.getD k z0)).2))))->aI prog 200 [.op j 0 0,str c,str (r.getD k z0)] H K:=fun K h=>QB c _ al hv L.hT h
      generalize eT c (r.getD k z0)=m at *
      simp only[go_sem,M,O,e6,u,F,E,aa,ab,ac,Rr]
      refine⟨⟨by omega,by omega⟩,au,?_⟩
      simp only[go_sem,M,O,e6,u,F,E,aa,ab,ac,dN au]
      refine qK (.q 0 (.q 1 (.q 2 (.q 4 (.q 5 (.q 6 (.q 7 (.q 8 (.q 10 (.q 13 (.q 14 (.q 15 (.a3 3 (.a2 9 (.a2 11 (.a2 12 (.a1 16 (.a1 17 (.a1 18 (.a1 19 .nil)))) 16 (.a1 12 (.a1 17 (.a1 18 (.a1 19 .nil))))) 16 (.a1 11 (.a1 12 (.a1 17 (.a1 18 (.a1 19 .nil)))))) 16 (.a1 9 (.a1 11 (.a1 12 (.a1 17 (.a1 18 (.a1 19 .nil))))))) 9 (.a3 3 (.a2 11 (.a2 12 (.a1 16 (.a1 17 (.a1 18 (.a1 19 .nil)))) 16 (.a1 12 (.a1 17 (.a1 18 (.a1 19 .nil))))) 16 (.a1 11 (.a1 12 (.a1 17 (.a1 18 (.a1 19 .nil)))))) 11 (.a3 3 (.a2 12 (.a1 16 (.a1 17 (.a1 18 (.a1 19 .nil)))) 16 (.a1 12 (.a1 17 (.a1 18 (.a1 19 .nil))))) 12 (.a2 3 (.a1 16 (.a1 17 (.a1 18 (.a1 19 .nil)))) 16 (.a2 3 (.a1 17 (.a1 18 (.a1 19 .nil))) 17 (.a1 3 (.a1 18 (.a1 19 .nil))))) 16 (.a2 3 (.a1 12 (.a1 17 (.a1 18 (.a1 19 .nil)))) 12 (.a2 3 (.a1 17 (.a1 18 (.a1 19 .nil))) 17 (.a1 3 (.a1 18 (.a1 19 .nil)))))) 16 (.a2 3 (.a1 11 (.a1 12 (.a1 17 (.a1 18 (.a1 19 .nil))))) 11 (.a2 3 (.a1 12 (.a1 17 (.a1 18 (.a1 19 .nil)))) 12 (.a2 3 (.a1 17 (.a1 18 (.a1 19 .nil))) 17 (.a1 3 (.a1 18 (.a1 19 .nil))))))) 16 (.a2 3 (.a1 9 (.a1 11 (.a1 12 (.a1 17 (.a1 18 (.a1 19 .nil)))))) 9 (.a2 3 (.a1 11 (.a1 12 (.a1 17 (.a1 18 (.a1 19 .nil))))) 11 (.a2 3 (.a1 12 (.a1 17 (.a1 18 (.a1 19 .nil)))) 12 (.a2 3 (.a1 17 (.a1 18 (.a1 19 .nil))) 17 (.a1 3 (.a1 18 (.a1 19 .nil)))))))))))))))))))) (fun Z H'=>Z 0=.op j 0 0/\Z 1=.os jc/\Z 6=str c/\Z 32=.os p.jb/\Z 33=int (n:Nat)/\Z 34=int k0/\Z 51=.oz (p.f k0) 0 r.length/\Z 52=int (r.length:Nat)/\Z 53=int k/\H'=aE (aE H j (some (bC (.os p.jr) (.os i) (.os p.jb) (.os p.ju) (.os p.jt) T.cols T.vars (bI (bI e' m.2) (fB (s'.getD k z0) m.1).2)))) i (some (aQ (s'.set k (fB (s'.getD k z0) m.1).1)))) (by kernel_rfl) (fun K' a5 Hp=>?_) ?_
      . simp only[go_sem,M,O,e6,u,F,E,aa,ab,ac]
        repeat' (first
          | refine fY ?_ ?_
          | refine IJ ?_ ?_ ?_
          | refine ax _ ?_
          | refine DV (s'.getD k z0) m.1 hx hz (aB _ _ _) ?_
          | (rw[cK])
          | (refine⟨⟨by omega,by omega⟩,?_⟩)
          | (refine⟨ak,?_⟩)
          | (refine cC rZ (Ru _) (by simp; omega) ?_
             rw[fK ak])
          | simp only[go_sem,M,O,e6,u,F,E,aa,ab,ac,Rl,Ru,Rj,Rw,dN ak]
          | (refine mV ?_))
        all_goals (refine a5 _ _ ⟨?_,?_,?_,?_,?_,?_,?_,?_,?_,rfl⟩ <;> simp only[go_sem,M,O,e6,u,F,E,aa,ab,ac])
      rintro ρ H ⟨M,O,e6,u,F,E,aa,ab,ac,rfl⟩
      simp only[go_sem,M,O,e6,u,F,E,aa,ab,ac,aY k]
      exact⟨⟨k+1,am,rfl,by rw[aj];exact ay,a0⟩,by simp only[aF];omega⟩
    have af:=geB hk (by simpa using af)
    subst af
    rw[<-ah]at L
    simp only[go_sem,M,O,e6,u,F,E,aa,ab,ac,aY k0]
    exact⟨⟨k0+1,ae,rfl,L,J⟩,by simp only[aF];omega⟩
  have af:=geB hk (by simpa using af)
  subst af
  simp only[go_sem]
  have ar:aS (Ak T cost) k (cost++[z0],T.err)=Qm T cost:=by unfold Qm;rw[aw]
  rw[ar]at L
  exact hK _ _ _ hi L J
end
end Si
namespace Si
open Go.Proofs.Tryz
open Go.Nu
open Go.Proofs.YtmhpdppobocokaaGreatDoor.Nu (ltB geB cB gI lE kK iZ jM jT fS dW)
def aU(H H':aD):Prop:=∀k r,H k=some r->H' k=some r
def aU.refl(H:aD):aU H H:=fun _ _ h=>h
def aU.trans{H G M:aD}(h:aU H G)(E:aU G M):aU H M:=fun k r u=>E k r (h k r u)
def aU.new{H H':aD}(h:aU H H'){i:Nat}(hi:H i=none)(a:Option Row):aU H (aE H' i a):=fun k r u=>by rw[aC _ _ _ _ (aO u hi)];exact h k r u
def TabH.keep{H H':aD}{j:Nat}{p:Pts}{T:Tab}(h:TabH H j p T)(u:aU H H'):TabH H' j p T:=
 ⟨u _ _ h.hT,u _ _ h.hR,u _ _ h.hP,u _ _ h.hB,u _ _ h.hU,u _ _ h.hN,fun i r E=>u _ _ (h.hF i r E),h.nd,h.nf,h.inj⟩
def Qu{l:List Nat}{H F:aD}{K:Env->aD->Prop}{u:Env}{i:Nat}{row:Row}(L:∀k,k∉l->F k=H k)(hi:F i=none)(h:H i=none->K u (aE H i (some row))):kQ l H K u (aE F i (some row)):=eK fun h0 M h1 O=>by
 have J:i∉l:=fun Z=>by have:=h0 i Z;rw[aB]at this;cases this
 have hH:H i=none:=(L i J).symm.trans hi;obtain rfl:M=aE H i (some row):=funext fun k=>by
  by_cases E:k∈l
  ·rw[h1 k E,aC _ _ _ _ fun e=>J (by rw[<-e];exact E)]
  ·rw[O k E];by_cases e:k=i
   ·subst e;rw[aB,aB]
   ·rw[aC _ _ _ _ e,aC _ _ _ _ e];exact L k E
 exact h hH
def AU(T:Tab)(cost:List Int)(unit:ByteArray)(own:Bool)(k:Nat):ByteArray:=
 if(k:Int)>=T.cols then unit else if(decide ((k:Int)<T.vars)&&own)=true then zed (cost.getD k 0)else z0
def Ir(T:Tab)(cost:List Int)(unit:ByteArray)(own:Bool)(m:Nat):List ByteArray:=aS (fun s k=>s.set k (AU T cost unit own k)) m (List.replicate m emp)
section
variable{H0:aD}{j:Nat}{p:Pts}{T:Tab}{K:AV->aD->Prop}{n w:Nat}
def Mz{l:PLin}{unit:ByteArray}{own:Bool}(hT:TabH H0 j p T)(hn:T.rows.length=n){m:Nat}(hm:T.cols+(n:Int)=m)(ao:m<=1048576)(am:0<=T.cols)(hv:T.vars<=l.cost.length)(an:T.vars<=T.cols)(hl:∀x∈l.cost,-9223372036854775808<=x/\x<=9223372036854775807)
  (hK:∀i H',H0 i=none->H' i=some (aQ (Ir T l.cost unit own m))->aU H0 H'->K (.os i) H'):aI prog 131 [.op j 0 0,.agg (eS l),str unit,boo own] H0 K:=by
 have Rj:H0 j=some ⟨251,8,[[.os p.jr,.os p.jp,.os p.jb,.os p.ju,.os p.jt,int T.cols,int T.vars,int T.err]]⟩:=hT.hT;have Rt:=hT.hR;have wm:IntKind.i64.wrap (T.cols+(n:Int))=(m:Int):=by rw[hm,aV (by omega)]
 refine aI.body (c:=f131.body.getD .skip) (fun _=>false) mixed func131 rfl (by kernel_rfl) ?_;unfold f131;simp only[Xag];simp only[go_sem];refine eN [j,p.jr] [(0,true),(1,true),(2,true),(3,true),(4,true),(5,true),(6,true),(7,true),(8,true),(9,true),(10,false),(11,true)] (by simp[Rj,Rt]) (by kernel_rfl) fun Hp Hr hp hr _ aj=>?_
 have ab:=(hp j (by simp)).trans Rj;have ac:=(hp p.jr (by simp)).trans Rt;simp only[go_sem,ab,ac];simp only[dS,hn,wm];refine⟨⟨⟨by omega,Int.le_refl _⟩,by omega⟩,?_⟩;rw[Xbb,wH];refine aL fun i hi=>?_
 simp only[go_sem];refine Qu hr hi fun hi=>?_
 clear hp hr aj ab ac;have Ri:aE H0 i (some (aQ (List.replicate m emp))) i=some (aQ (List.replicate m emp)):=aB _ _ _;simp only[go_sem,Ri,Xaa,Xas];refine⟨fun ρ H=>∃(k:Nat),k<=m/\ρ 0=.op j 0 0/\ρ 2=str unit/\ρ 3=boo own/\ρ 5=.rp (eS l) 0/\ρ 9=.os i/\ρ 23=int (m:Nat)/\ρ 24=int k/\H i=some (aQ (aS (fun s k=>s.set k (AU T l.cost unit own k)) k (List.replicate m emp)))/\aU H0 H,fun ρ _=>m-aW (ρ 24),⟨0,Xab _,by simp only[go_sem],by simp only[go_sem],by simp only[go_sem],by simp only[go_sem],by simp only[go_sem],by simp only[go_sem,Xaa],(by simp only[go_sem];rfl),aB _ _ _,(aU.refl H0).new hi _⟩,?_⟩;rintro ρ H ⟨k,hk,L,e2,O,e5,M,F,E,R,aa⟩;simp only[go_sem,L,e2,O,e5,M,F,E];refine aA (fun Z=>?_) (fun ag=>?_)
 ·have Z:=ltB (by simpa using Z);have al:(aS (fun s k=>s.set k (AU T l.cost unit own k)) k (List.replicate m emp)).length=m:=cJ (I:=fun s:List ByteArray=>s.length=m) (fun s k h=>by rw[Xal];exact h) _ _ (Xas ..);have J:=bV (fun s k=>s.set k (AU T l.cost unit own k)) k (List.replicate m emp);generalize aS (fun s k=>s.set k (AU T l.cost unit own k)) k (List.replicate m emp)=s at *;have ah:k<s.length:=by omega
  have Rj:=aa _ _ Rj;simp only[go_sem,L,e2,O,e5,M,F,E,R];refine⟨⟨by omega,by omega⟩,?_⟩;refine cC rZ R (by simp;omega) ?_;rw[fK ah];have ai:j≠i:=fun e=>by subst e;rw[Rj]at R;cases R
  have ae:∀a,aE H i a j=some ⟨251,8,[[.os p.jr,.os p.jp,.os p.jb,.os p.ju,.os p.jt,int T.cols,int T.vars,int T.err]]⟩:=fun a=>by rw[aC _ _ _ _ ai];exact Rj
  simp only[go_sem,L,e2,O,e5,M,F,E,ae];have Rg:∀v,aE H i (some (aQ (s.set k v))) i=some (aQ (s.set k v)):=fun v=>aB _ _ _
  refine aA (fun hb=>?_) (fun hb=>?_)
  ·have hb:=hb;have ak:(k:Int)<T.vars:=by have h:=hb;simp only[Xav,decide_eq_true_eq]at h;exact h.1
   have af:k<l.cost.length:=by omega
   obtain⟨x1,x2⟩:=hl (l.cost.getD k 0) (by rw[List.getD,List.getElem?_eq_getElem af];exact List.getElem_mem af);have hO:=jT (l.cost.getD k 0) x1 x2;simp only[go_sem,L,e2,O,e5,M,F,E,lD af];refine⟨⟨by omega,by omega⟩,?_⟩;refine aN hO ?_;simp only[go_sem,L,e2,O,e5,M,F,E,Rg];refine⟨⟨by omega,by simp;omega⟩,?_⟩;refine cC rZ (Rg z0) (by simp;omega) ?_;rw[fK (s:=s.set k z0) (by simp;omega),cK,List.set_set];simp only[go_sem,L,e2,O,e5,M,F,E,ae];refine aA (fun u=>?_) (fun u=>?_)
   ·have u:(k:Int)>=T.cols:=by simpa using u
    have ev:AU T l.cost unit own k=unit:=if_pos u;rw[ev]at J;simp only[go_sem,L,e2,O,e5,M,F,E,Rg];refine⟨⟨by omega,by simp;omega⟩,?_⟩;refine cC rZ (Rg (zed (l.cost.getD k 0))) (by simp;omega) ?_;rw[fK (s:=s.set k (zed (l.cost.getD k 0))) (by simp;omega),cK,List.set_set];simp only[go_sem,L,e2,O,e5,M,F,E,aY k];exact⟨⟨k+1,Z,rfl,by simp only[J,aB],aa.new hi _⟩,by simp only[aF];omega⟩
   ·have u:¬(k:Int)>=T.cols:=by simpa using u
    have ev:AU T l.cost unit own k=zed (l.cost.getD k 0):=(if_neg u).trans (if_pos hb);rw[ev]at J;simp only[go_sem,L,e2,O,e5,M,F,E,aY k];exact⟨⟨k+1,Z,rfl,by simp only[J,aB],aa.new hi _⟩,by simp only[aF];omega⟩
  ·have hb:¬(decide ((k:Int)<T.vars)&&own)=true:=by rw[hb];simp
   simp only[go_sem,L,e2,O,e5,M,F,E,ae];refine aA (fun u=>?_) (fun u=>?_)
   ·have u:(k:Int)>=T.cols:=by simpa using u
    have ev:AU T l.cost unit own k=unit:=if_pos u;rw[ev]at J;simp only[go_sem,L,e2,O,e5,M,F,E,Rg];refine⟨⟨by omega,by simp;omega⟩,?_⟩;refine cC rZ (Rg z0) (by simp;omega) ?_;rw[fK (s:=s.set k z0) (by simp;omega),cK,List.set_set];simp only[go_sem,L,e2,O,e5,M,F,E,aY k];exact⟨⟨k+1,Z,rfl,by simp only[J,aB],aa.new hi _⟩,by simp only[aF];omega⟩
   ·have u:¬(k:Int)>=T.cols:=by simpa using u
    have ev:AU T l.cost unit own k=z0:=(if_neg u).trans (if_neg hb);rw[ev]at J;simp only[go_sem,L,e2,O,e5,M,F,E,aY k];exact⟨⟨k+1,Z,rfl,by simp only[J,aB],aa.new hi _⟩,by simp only[aF];omega⟩
 have ag:=geB hk (by simpa using ag);subst ag;simp only[go_sem,L,e2,O,e5,M,F,E];exact hK _ _ hi R aa
end
end Si
end Go.Proofs.YtmhpdppobocokaaGreatDoor
section
namespace Go.Aw
open Go.RowKit
def tQ(p:Nat->Prop)(h:∃m,p m):∃m,p m/\∀u,p u->m<=u:=by
 obtain⟨m,F⟩:=h;induction m using Nat.strongRecOn with
 | ind m ih=>
  by_cases h:∃u,u<m/\p u
  ·obtain⟨u,h1,E⟩:=h;exact ih u h1 E
  ·exact⟨m,F,fun u E=>Nat.le_of_not_lt fun h1=>h ⟨u,h1,E⟩⟩
def JU{W:(Ex->Env->aD->Prop)->Env->aD->Prop}{Q:Ex->Env->aD->Prop}{ρ:Env}{H:aD}(J:Nat->Env->aD->Prop)(m:Nat)(h0:J m ρ H)
  (h:∀m ρ H,J m ρ H->∀K:Env->aD->Prop,(∀F u H',F<m->J F u H'->K u H')->W (Ex.seq K Q) ρ H):Ha W Q ρ H:=by
 classical
 let μ:Env->aD->Nat:=fun ρ H=>if h:∃m,J m ρ H then(tQ _ h).choose else 0
 have E:∀ρ H m,J m ρ H->J (μ ρ H) ρ H/\μ ρ H<=m:=fun ρ H m hm=>by have L:∃m,J m ρ H:=⟨m,hm⟩;have e:μ ρ H=(tQ _ L).choose:=dif_pos L;rw[e];exact⟨(tQ _ L).choose_spec.1,(tQ _ L).choose_spec.2 m hm⟩
 refine⟨fun ρ H=>∃m,J m ρ H,μ,⟨m,h0⟩,fun u H' ⟨F,M⟩=>?_⟩;exact h _ u H' (E u H' F M).1 _ fun m2 O H2 Z hj=>⟨⟨m2,hj⟩,Nat.lt_of_le_of_lt (E O H2 m2 hj).2 Z⟩
end Go.Aw
end
namespace Go.Proofs.YtmhpdppobocokaaGreatDoor
open Go.Aw Go.Aw.D Go.Proofs Ty
namespace Si
open Go.Proofs.Tryz
open Go.Nu
open Go.Proofs.YtmhpdppobocokaaGreatDoor.Nu (ltB geB cB gI lE kK iZ jM jT fS dW)
def nG(q:Nat->Bool):Nat->Option Nat
 | 0=>none
 | n+1=>match nG q n with
   | some k=>some k
   | none=>if q n=true then some n else none
def nM{q:Nat->Bool}:∀{n:Nat},(∀i,i<n->q i=false)->nG q n=none
 | 0,_=>rfl
 | n+1,h=>by unfold nG;rw[nM (n:=n) fun i hi=>h i (by omega)];simp[h n (by omega)]
def uT{q:Nat->Bool}{k:Nat}(h:∀i,i<k->q i=false)(u:q k=true):∀{n:Nat},k<n->nG q n=some k
 | n+1,hn=>by
  unfold nG;by_cases e:k=n
  ·subst e;rw[nM h];simp[u]
  ·rw[uT h u (n:=n) (by omega)]
def xK{q:Nat->Bool}{k:Nat}:∀{n:Nat},nG q n=some k->k<n
 | n+1,h=>by
  unfold nG at h;cases e:nG q n with
  | some a=>rw[e]at h;cases h;have:=xK e;omega
  | none=>
   rw[e]at h;simp only at h;split at h
   ·cases h;omega
   ·cases h
def Nx(T:Tab)(k:Nat):Bool:=decide (rO (T.price.getD k z0)<0)
def PD(T:Tab):Option Nat:=nG (Nx T) T.cols.toNat
def EJ:Nat->Tab->Option (Tab×Int)
 | 0,_=>none
 | f+1,T=>if T.err≠0 then some (T,-1)else match PD T with
   | none=>some (T,-1)
   | some c=>if(lvT T c).found<0 then some ({ T with err:=(lvT T c).err },(c:Nat))else EJ f (pivT { T with err:=(lvT T c).err } (lvT T c).found.toNat c)
structure OkT(T:Tab)(n w:Nat):Prop where
 wf:WfT T n w
 bas:Ve T w
 cols:0<=T.cols
 wid:T.cols+(n:Int)+1=(w:Int)
def WfT.err{T:Tab}{n w:Nat}(h:WfT T n w)(e:Int):WfT { T with err:=e } n w:=⟨h.w0,h.w1,h.n1,h.rows,h.row,h.price,h.base⟩
def BG{row col:Nat}(T:Tab):∀k,(aS (rowS row col) k T).base=T.base/\(aS (rowS row col) k T).cols=T.cols/\(aS (rowS row col) k T).vars=T.vars/\(aS (rowS row col) k T).unit=T.unit/\(aS (rowS row col) k T).turned=T.turned
 | 0=>⟨rfl,rfl,rfl,rfl,rfl⟩
 | k+1=>by
  rw[bV];have ih:=BG (row:=row) (col:=col) T k;unfold rowS;split
  ·exact ih
  ·exact ih
def BB(T:Tab)(row col:Nat):(pivT T row col).base=T.base.set row (col:Nat)/\(pivT T row col).cols=T.cols/\(pivT T row col).vars=T.vars/\(pivT T row col).unit=T.unit/\(pivT T row col).turned=T.turned:=by obtain⟨a,b,c,d,e⟩:=BG (row:=row) (col:=col) (divT T row col) T.rows.length;refine⟨?_,b,c,d,e⟩;show(aS (rowS row col) T.rows.length (divT T row col)).base.set row _=_;rw[a];rfl
def OkT.piv{T:Tab}{n w:Nat}(h:OkT T n w){row col:Nat}(u:row<n)(E:(col:Int)<T.cols):OkT (pivT T row col) n w:=by
 obtain⟨a,b,_⟩:=BB T row col;refine⟨h.wf.pivT u,fun i hi=>?_,by rw[b];exact h.cols,by rw[b];exact h.wid⟩;rw[a]at hi |-;rw[Xal]at hi;have F:=h.wid;rw[List.getD,List.getElem?_set];split
 ·next e=>subst e;simp[hi];omega
 ·exact h.bas i hi
def OkT.err{T:Tab}{n w:Nat}(h:OkT T n w)(e:Int):OkT { T with err:=e } n w:=⟨h.wf.err e,h.bas,h.cols,h.wid⟩
def Vu{T:Tab}{n w:Nat}(h:OkT T n w)(col:Nat):(lvT T col).found<(n:Int):=by have:=lvB T col (n:=n) n (Xad _);have u:=h.wf.rows;unfold lvT;rw[u];exact this.hi
section
variable{H0:aD}{j:Nat}{p:Pts}{T:Tab}{K:AV->aD->Prop}{n w:Nat}
def Qd(T:Tab):Int:=match PD T with
 | none=> -1
 | some c=>(c:Nat)
def DC{f:Nat}{R:Tab×Int}(hF:EJ f T=some R)(hT:TabH H0 j p T)(M:OkT T n w)
  (hK:∀H',TabH H' j p R.1->OkT R.1 n w->eJ p j n H0 H'->K (int R.2) H'):aI prog 132 [.op j 0 0] H0 K:=by
 refine aI.body (c:=f132.body.getD .skip) (fun _=>false) mixed func132 rfl (by kernel_rfl) ?_;unfold f132;simp only[Xag];simp only[go_sem];refine JU (fun m ρ H=>∃T',EJ m T'=some R/\ρ 0=.op j 0 0/\TabH H j p T'/\OkT T' n w/\eJ p j n H0 H) f ⟨T,hF,by simp only[go_sem],hT,M,.refl _ _ _ _⟩ ?_;clear hF hT M;rintro m ρ H ⟨T,hF,E,hT,M,aa⟩ K1 an;cases m with
 | zero=>exact absurd hF (by simp[EJ])
 | succ m=>
 have Rj:H j=some ⟨251,8,[[.os p.jr,.os p.jp,.os p.jb,.os p.ju,.os p.jt,int T.cols,int T.vars,int T.err]]⟩:=hT.hT;have Rp:=hT.hP;have hW:=M.wf;have al:=hW.price;have ap:=hW.w1;have ak:=M.cols;have au:=M.wid;obtain⟨c,hc⟩:=Int.eq_ofNat_of_zero_le ak;unfold EJ at hF;simp only[go_sem,E,Rj];refine aA (fun hb=>?_) (fun hb=>?_);rotate_left
 ·have hb:T.err≠0:=by simpa using hb
  rw[if_pos hb]at hF;cases hF;simp only[go_sem];exact hK _ hT M aa
 have hb:¬T.err≠0:=by simpa using hb
 rw[if_neg hb]at hF;simp only[go_sem,E,Rj];refine Ca (fun ac H'=>ac 0=.op j 0 0/\ac 3=int (Qd T)/\H'=H) ?_ fun Q hQ ao=>?_
 ·rintro ρ H' ⟨E,J,rfl⟩;cases O:PD T with
  | none=>
   rw[O]at hF;cases hF;have J:ρ 3=int (-1):=by rw[J];unfold Qd;rw[O]
   simp only[go_sem,J];refine aA (fun _=>?_) (fun h=>absurd h (by decide));simp only[go_sem];exact hK _ hT M aa
  | some c2=>
  rw[O]at hF;simp only at hF;have ar:c2<c:=by have:=xK O;omega
  have J:ρ 3=int (c2:Nat):=by rw[J];unfold Qd;rw[O]
  have am:((c2:Nat):Int)<T.cols:=by omega
  have n1:decide (((c2:Nat):Int)<0)=false:=decide_eq_false (by omega);simp only[go_sem,E,J,n1];refine aA (fun h=>absurd h (by decide)) (fun _=>?_);simp only[go_sem,E,J];refine Ou hT hW (show c2<w by omega) fun H2 af ae=>?_
  have hi:=Vu M c2;have lo: -1<=(lvT T c2).found:=by have:=(lvB T c2 (n:=n) n (Xad _)).lo;unfold lvT;rw[hW.rows];exact this
  simp only[go_sem,E,J];refine aA (fun u=>?_) (fun u=>?_)
  ·have u:(lvT T c2).found<0:=by simpa using u
   rw[if_pos u]at hF;cases hF;simp only[go_sem,J];exact hK _ af (M.err _) (aa.trans ae)
  ·have u:¬(lvT T c2).found<0:=by simpa using u
   rw[if_neg u]at hF;obtain⟨r,hr⟩:=Int.eq_ofNat_of_zero_le (show 0<=(lvT T c2).found by omega);rw[hr]at hF hi |-;rw[Xbb]at hF;simp only[go_sem,E,J];refine L2 af (M.err _).wf (by omega) (show c2<w by omega) fun q H3 ai aj=>?_
   simp only[go_sem];refine an m _ _ (by omega) ⟨_,hF,by simp only[go_sem,E],ai,(M.err _).piv (by omega) am,(aa.trans ae).trans aj⟩
 rw[hc];generalize aq:H=G at *;refine⟨fun ρ H=>∃(k:Nat),k<=c/\ρ 0=.op j 0 0/\ρ 3=int (-1)/\ρ 14=int (c:Nat)/\ρ 15=int k/\(∀i,i<k->Nx T i=false)/\H=G,fun ρ _=>c-aW (ρ 15),⟨0,Xab _,by simp only[go_sem,E],by simp only[go_sem,E],by simp only[go_sem,Xaa,E],(by simp only[go_sem,E];rfl),(by omega),rfl⟩,?_⟩;rintro ρ H ⟨k,hk,E,J,F,L,hz,hG⟩;simp only[go_sem,E,J,F,L];refine aA (fun Z=>?_) (fun ab=>?_)
 ·have Z:=ltB (by simpa using Z);subst hG;have ag:k<T.price.length:=by omega
  have ah:=fS (T.price.getD k z0) (al.2.at k);simp only[go_sem,E,J,F,L,Rj,Rp];refine⟨⟨by omega,by simp;omega⟩,by simpa using ag,?_⟩;simp only[go_sem,E,J,F,L,dN ag];refine aN ah ?_;simp only[go_sem];refine aA (fun u=>?_) (fun u=>?_)
  ·have u:Nx T k=true:=by unfold Nx;simpa using u
   simp only[go_sem,E,J,F,L];refine hQ _ _ ⟨by simp only[go_sem,E,J,F,L],?_,rfl⟩;simp only[go_sem,E,J,F,L];unfold Qd PD;rw[hc,Xbb,uT hz u Z]
  ·have u:Nx T k=false:=by unfold Nx;simpa using u
   simp only[go_sem,E,J,F,L,aY k];refine⟨⟨k+1,Z,rfl,fun i hi=>?_⟩,by simp only[aF];omega⟩;by_cases e:i=k
   ·subst e;exact u
   ·exact hz i (by omega)
 have ab:=geB hk (by simpa using ab);subst ab hG;simp only[go_sem,E,J,F,L];refine hQ _ _ ⟨by simp only[go_sem,E,J,F,L],?_,rfl⟩;simp only[go_sem,E,J,F,L];unfold Qd PD;rw[hc,Xbb,nM hz]
end
end Si
namespace Si
open Go.Proofs.Tryz
open Go.Nu
open Go.Proofs.YtmhpdppobocokaaGreatDoor.Nu (ltB geB cB gI lE kK iZ jM jT fS dW)
def pJ{l:List Nat}{H F:aD}{K:Env->aD->Prop}{u:Env}{i:Nat}{row:Row}(M:∀k,k∉l->F k=H k)(h:K u (aE H i (some row))):kQ l H K u (aE F i (some row)):=eK fun h0 J h1 O=>by
 have L:i∉l:=fun Z=>by have:=h0 i Z;rw[aB]at this;cases this
 obtain rfl:J=aE H i (some row):=funext fun k=>by
  by_cases E:k∈l
  ·rw[h1 k E,aC _ _ _ _ fun e=>L (by rw[<-e];exact E)]
  ·rw[O k E];by_cases e:k=i
   ·subst e;rw[aB,aB]
   ·rw[aC _ _ _ _ e,aC _ _ _ _ e];exact M k E
 exact h
def DL(x y:ByteArray)(m:Nat):∀k,k<=m->aS (fun s k=>s.set k x) k (List.replicate m y)=List.replicate k x++List.replicate (m-k) y
 | 0,_=>by simp[aS]
 | k+1,h=>by rw[bV,DL x y m k (by omega)];obtain⟨d,hd⟩:∃d,m-k=d+1:=⟨m-k-1,by omega⟩;rw[hd,show m-(k+1)=d by omega,List.set_append_right _ _ (by simp)];rw[Xas,Nat.sub_self,List.replicate_succ,List.set_cons_zero,List.replicate_succ',Xah];rfl
def DP(x y:ByteArray)(m:Nat):aS (fun s k=>s.set k x) m (List.replicate m y)=List.replicate m x:=by rw[DL x y m m (Xad _)];simp
def Ja(T:Tab)(s:List ByteArray)(i:Nat):List ByteArray:=if T.base.getD i 0<T.vars then s.set (T.base.getD i 0).toNat ((T.rows.getD i []).getD ((T.rows.getD i []).length-1) z0)else s
def dQ(T:Tab):List ByteArray:=aS (Ja T) T.rows.length (List.replicate T.vars.toNat z0)
section
variable{H0:aD}{j:Nat}{p:Pts}{T:Tab}{K:AV->aD->Prop}{n w:Nat}
def UX{k:Int}{x d r v:AV}(hT:TabH H0 j p T)(hK:∀H',aU H0 H'->K (if T.err≠0 then .tup [.agg [int 0,.sl [],.sl [],.sl [],str emp],int T.err]else .tup [.agg [int k,x,d,r,v],int 0]) H'):aI prog 133 [.op j 0 0,.agg [int k,x,d,r,v]] H0 K:=by
 refine aI.body (c:=f133.body.getD .skip) (fun t=>t == 3||t == 4) mixed func133 rfl (by kernel_rfl) ?_;unfold f133;simp only[Xag];simp only[go_sem];refine aL fun i hi=>?_
 have k1:aU H0 (aE H0 i (some ⟨61,5,[[int k,x,d,r,v]]⟩)):=(aU.refl H0).new hi _;have R1:aE H0 i (some ⟨61,5,[[int k,x,d,r,v]]⟩) i=some ⟨61,5,[[int k,x,d,r,v]]⟩:=aB _ _ _;simp only[go_sem];generalize aE H0 i _=G1 at *;refine aL fun L h1=>?_
 have k2:=(aU.refl G1).new h1 (some ⟨59,1,[]⟩)
 try simp only[go_sem]
 generalize aE G1 L _=G2 at *;refine aL fun M h2=>?_
 have k3:=(aU.refl G2).new h2 (some ⟨59,1,[]⟩)
 try simp only[go_sem]
 generalize aE G2 M _=G3 at *;refine aL fun J h3=>?_
 have Z:=(aU.refl G3).new h3 (some ⟨59,1,[]⟩)
 try simp only[go_sem]
 generalize aE G3 J _=G4 at *;refine aL fun u h4=>?_
 have k5:=(aU.refl G4).new h4 (some ⟨61,5,[[.v (.int .i64 0),.os L,.os M,.os J,.v (.string ByteArray.empty)]]⟩);have R5:aE G4 u (some ⟨61,5,[[.v (.int .i64 0),.os L,.os M,.os J,.v (.string ByteArray.empty)]]⟩) u=some ⟨61,5,[[.v (.int .i64 0),.os L,.os M,.os J,.v (.string ByteArray.empty)]]⟩:=aB _ _ _;have hn:H0 u=none:=by
  cases e:H0 u with
  | none=>rfl
  | some a=>rw[Z _ _ (k3 _ _ (k2 _ _ (k1 _ _ e)))]at h4;cases h4
 have ne:i≠u:=aO (Z _ _ (k3 _ _ (k2 _ _ R1))) h4;have R6:=k5 _ _ (Z _ _ (k3 _ _ (k2 _ _ R1)));have kk:=k1.trans (k2.trans (k3.trans (Z.trans k5)));have Rj:aE G4 u (some ⟨61,5,[[.v (.int .i64 0),.os L,.os M,.os J,.v (.string ByteArray.empty)]]⟩) j=some ⟨251,8,[[.os p.jr,.os p.jp,.os p.jb,.os p.ju,.os p.jt,int T.cols,int T.vars,int T.err]]⟩:=(hT.keep kk).hT;generalize aE G4 u _=G at *;simp only[go_sem,Rj];have hz:∀q:Option Row,aU H0 (aE G u q):=fun q k' r' O=>by rw[aC _ _ _ _ (aO O hn)];exact kk _ _ O
 have ab:j≠u:=aO hT.hT hn;have aa:∀a,aE G u a j=some ⟨251,8,[[.os p.jr,.os p.jp,.os p.jb,.os p.ju,.os p.jt,int T.cols,int T.vars,int T.err]]⟩:=fun a=>by rw[aC _ _ _ _ ab];exact Rj
 refine aA (fun E=>?_) (fun E=>?_)
 ·have E:T.err≠0:=by simpa using E
  rw[if_pos E]at hK;refine qK (.q 0 (.q 1 (.q 2 (.q 3 (.a2 4 (.a1 5 (.q 6 .nil)) 5 (.a1 4 (.q 6 .nil))))))) (fun F H'=>F 4=.op u 0 0/\F 5=int T.err/\H'=aE G u (some ⟨61,5,[[int 0,.sl [],.sl [],.sl [],str emp]]⟩)) (by kernel_rfl) (fun K' ac Hp=>?_) ?_
  ·simp only[go_sem]
   repeat' (first
    | refine fY ?_ ?_
    | (refine aZ R5 (by simp) ?_)
    | simp only[go_sem,Rj,R5,aa]
    | (refine mV ?_))
   all_goals (refine ac _ _ ⟨?_,?_,rfl⟩)
   all_goals simp only[go_sem]
  rintro ρ H ⟨e4,e5,rfl⟩;have R7:aE G u (some ⟨61,5,[[int 0,.sl [],.sl [],.sl [],str emp]]⟩) u=some ⟨61,5,[[int 0,.sl [],.sl [],.sl [],str emp]]⟩:=aB _ _ _;simp only[go_sem,e4,e5,R7];exact hK _ (hz _)
 have E:¬T.err≠0:=by simpa using E
 rw[if_neg E]at hK;simp only[go_sem,R6];refine aZ R5 (by simp) ?_;have R7:∀a,aE G u a u=a:=fun a=>aB _ _ _
 simp only[go_sem,R7];exact hK _ (hz _)
def Q0(hT:TabH H0 j p T)(hO:OkT T n w)(am:0<=T.vars)(hv:T.vars<=T.cols)
  (hK:∀i H',H0 i=none->H' i=some (aQ (dQ T))->aU H0 H'->K (.os i) H'):aI prog 136 [.op j 0 0] H0 K:=by
 have hW:=hO.wf;have ay:=hW.w1;have ax:=hW.n1;have hn:=hW.rows;have au:=hW.base;have az:=hO.wid;have Rj:H0 j=some ⟨251,8,[[.os p.jr,.os p.jp,.os p.jb,.os p.ju,.os p.jt,int T.cols,int T.vars,int T.err]]⟩:=hT.hT;obtain⟨m,hm⟩:=Int.eq_ofNat_of_zero_le am;unfold dQ at hK;rw[hm,Xbb,hn]at hK;rw[hm]at Rj;have ao:=Rj;refine aI.body (c:=f136.body.getD .skip) (fun _=>false) mixed func136 rfl (by kernel_rfl) ?_;unfold f136;simp only[Xag];simp only[go_sem];simp only[go_sem,Rj];refine⟨⟨⟨by omega,Int.le_refl _⟩,by omega⟩,?_⟩;rw[wH];refine aL fun i hi=>?_
 simp only[go_sem];have Ri:aE H0 i (some (aQ (List.replicate m emp))) i=some (aQ (List.replicate m emp)):=aB _ _ _;simp only[go_sem,Ri,Xaa,Xas];refine⟨fun ρ H=>∃(k:Nat),k<=m/\ρ 0=.op j 0 0/\ρ 3=.os i/\ρ 13=int (m:Nat)/\ρ 14=int k/\H i=some (aQ (aS (fun s k=>s.set k z0) k (List.replicate m emp)))/\aU H0 H,fun ρ _=>m-aW (ρ 14),⟨0,Xab _,by simp only[go_sem],by simp only[go_sem],by simp only[go_sem,Xaa],(by simp only[go_sem];rfl),aB _ _ _,(aU.refl H0).new hi _⟩,?_⟩;rintro ρ H ⟨k,hk,E,O,ac,ae,R,u⟩;simp only[go_sem,E,O,ac,ae];refine aA (fun L=>?_) (fun ab=>?_)
 ·have L:=ltB (by simpa using L);have aq:(aS (fun s k=>s.set k z0) k (List.replicate m emp)).length=m:=cJ (I:=fun s:List ByteArray=>s.length=m) (fun s k h=>by rw[Xal];exact h) _ _ (Xas ..);have Z:=bV (fun s k=>s.set k z0) k (List.replicate m emp);generalize aS (fun s k=>s.set k z0) k (List.replicate m emp)=s at *;have al:k<s.length:=by omega
  simp only[go_sem,E,O,ac,ae,R];refine⟨⟨by omega,by simp;omega⟩,?_⟩;refine cC rZ R (by simp;omega) ?_;rw[fK (v:=z0) al];simp only[go_sem,E,O,ac,ae,aY k];exact⟨⟨k+1,L,rfl,by simp only[Z,aB],u.new hi _⟩,by simp only[aF];omega⟩
 have ab:=geB hk (by simpa using ab);obtain rfl:=ab.symm;rw[DP]at R;have Rj:=u _ _ Rj;have Rb:=u _ _ hT.hB;simp only[go_sem,E,O,ac,ae,Rj,Rb,Xaa,au];refine⟨fun ρ H=>∃(k:Nat),k<=n/\ρ 0=.op j 0 0/\ρ 3=.os i/\ρ 24=.os p.jb/\ρ 25=int (n:Nat)/\ρ 26=int k/\H i=some (aQ (aS (Ja T) k (List.replicate m z0)))/\aU H0 H,fun ρ _=>n-aW (ρ 26),⟨0,Xab _,by simp only[go_sem,E,O],by simp only[go_sem,E,O],by simp only[go_sem,E,O],by simp only[go_sem,Xaa,E,O],(by simp only[go_sem,E,O];rfl),R,u⟩,?_⟩;rintro ρ H ⟨k,hk,E,O,M,F,J,R,u⟩;simp only[go_sem,E,O,M,F,J];refine aA (fun L=>?_) (fun ab=>?_)
 ·have L:=ltB (by simpa using L);have aq:(aS (Ja T) k (List.replicate m z0)).length=m:=cJ (I:=fun s:List ByteArray=>s.length=m) (fun s k h=>by unfold Ja;split <;> simp[h]) _ _ (Xas ..);have Z:=bV (Ja T) k (List.replicate m z0);generalize aS (Ja T) k (List.replicate m z0)=s at *;have hb:=hO.bas k (by omega);have Rj:H j=some ⟨251,8,[[.os p.jr,.os p.jp,.os p.jb,.os p.ju,.os p.jt,int T.cols,int (m:Nat),int T.err]]⟩:=u _ _ ao;have Rb:=u _ _ hT.hB;have Rt:=u _ _ hT.hR;have aj:k<T.base.length:=by omega
  simp only[go_sem,E,O,M,F,J,Rb,Xaa];refine⟨⟨by omega,by omega⟩,aj,?_⟩;rw[lD aj];have ap:Ja T s k=if T.base.getD k 0<T.vars then s.set (T.base.getD k 0).toNat ((T.rows.getD k []).getD ((T.rows.getD k []).length-1) z0)else s:=rfl
  rw[ap,hm]at Z;generalize T.base.getD k 0=b at *;obtain⟨l1,l2⟩:=hW.at L;have ek:=fH (R:=T.rows) (i:=k) (by omega);have eo:=ozD (f:=p.f) ek;have Rr:=u _ _ (hT.hF k _ ek);have an:p.f k≠i:=aO (hT.hF k _ ek) hi;generalize T.rows.getD k []=r at *;have av:j≠i:=aO hT.hT hi;have ar:p.jr≠i:=aO hT.hR hi;simp only[go_sem,E,O,M,F,J,Rj];refine aA (fun aa=>?_) (fun aa=>?_)
  ·have aa:b<(m:Int):=by simpa using aa
   rw[if_pos aa]at Z;obtain⟨c,rfl⟩:=Int.eq_ofNat_of_zero_le hb.1;have ah:r.length-1<r.length:=by have:=hW.w0;omega
   have wl:IntKind.i64.wrap ((r.length:Int)-1)=((r.length-1:Nat):Int):=by rw[aV (by omega)];omega
   simp only[go_sem];refine eN [j,p.jr,(p.f k)] [(0,true),(1,true),(2,true),(3,true),(4,true),(5,true),(6,true),(7,true),(8,true),(9,true),(10,true),(11,true),(12,true),(13,true),(14,true),(15,true),(16,true),(17,true),(18,true),(19,true),(20,false),(21,false)] (by simp[Rj,Rt,Rr]) (by kernel_rfl) fun Hp Hr hp hr _ aw=>?_
   have ai:=(hp j (by simp)).trans Rj;have ak:=(hp p.jr (by simp)).trans Rt;have af:=(hp (p.f k) (by simp)).trans Rr;have ag:=(hr i (by simp[av.symm,ar.symm,an.symm])).trans R;simp only[go_sem,E,O,M,F,J,ai,ak,af,ag];have a0:=dS p.f T.rows;refine⟨⟨by omega,by omega⟩,by omega,⟨by omega,by omega⟩,by omega,?_⟩;simp only[go_sem,E,O,M,F,J,eo,af,Xaa,wl];refine⟨⟨by omega,by omega⟩,ah,?_⟩;simp only[go_sem,E,O,M,F,J,dN ah,ag,Xaa];refine⟨⟨by omega,by omega⟩,?_⟩;refine cC rZ ag (by simp;omega) ?_;rw[fK (by omega)];refine pJ hr ?_;rw[Xbb]at Z;simp only[go_sem,E,O,M,F,J,aY k];exact⟨⟨k+1,L,rfl,by simp only[Z,aB],u.new hi _⟩,by simp only[aF];omega⟩
  ·have aa:¬b<(m:Int):=by simpa using aa
   rw[if_neg aa]at Z;simp only[go_sem,E,O,M,F,J,aY k];exact⟨⟨k+1,L,rfl,by rw[Z];exact R,u⟩,by simp only[aF];omega⟩
 have ab:=geB hk (by simpa using ab);subst ab;simp only[go_sem,E,O,M,F,J];exact hK _ _ hi R u
end
end Si
namespace Si
open Go.Proofs.Tryz
open Go.Nu
open Go.Proofs.YtmhpdppobocokaaGreatDoor.Nu (ltB geB cB gI lE kK iZ jM jT fS dW)
def NoT(p:Pts)(j n i:Nat):Prop:=i∉p.all j/\∀k,k<n->i≠p.f k
def S7{p:Pts}{j:Nat}{H:aD}{T:Tab}(h:TabH H j p T){i:Nat}(hi:H i=none):i∉p.all j:=fun u=>by
 have u:i∈[j,p.jr,p.jp,p.jb,p.ju,p.jt]:=u;simp only[Xao,List.not_mem_nil,or_false]at u;rcases u with rfl|rfl|rfl|rfl|rfl|rfl
 ·rw[h.hT]at hi;cases hi
 ·rw[h.hR]at hi;cases hi
 ·rw[h.hP]at hi;cases hi
 ·rw[h.hB]at hi;cases hi
 ·rw[h.hU]at hi;cases hi
 ·rw[h.hN]at hi;cases hi
def TabH.noT{H:aD}{j n:Nat}{p:Pts}{T:Tab}(h:TabH H j p T)(u:T.rows.length=n){i:Nat}(hi:H i=none):NoT p j n i:=
 ⟨S7 h hi,fun k E e=>by subst e;rw[h.hF k _ (fH (R:=T.rows) (i:=k) (by omega))]at hi;cases hi⟩
def NoT.off{p:Pts}{j n i:Nat}(h:NoT p j n i):Off p j n i:=by have h1:i∉[j,p.jr,p.jp,p.jb,p.ju,p.jt]:=h.1;simp only[Xao,List.not_mem_nil,or_false,not_or]at h1;exact⟨h1.1,h1.2.2.1,h1.2.2.2.1,h.2⟩
def TabH.off{H:aD}{j n:Nat}{p:Pts}{T:Tab}(h:TabH H j p T)(O:T.rows.length=n){i:Nat}(hi:NoT p j n i)(a:Option Row):TabH (aE H i a) j p T:=by
 have h1:i∉[j,p.jr,p.jp,p.jb,p.ju,p.jt]:=hi.1;simp only[Xao,List.not_mem_nil,or_false,not_or]at h1;obtain⟨n1,L,M,J,F,E⟩:=h1;refine⟨?_,?_,?_,?_,?_,?_,fun k r u=>?_,h.nd,h.nf,h.inj⟩
 ·rw[aC _ _ _ _ (Ne.symm n1)];exact h.hT
 ·rw[aC _ _ _ _ (Ne.symm L)];exact h.hR
 ·rw[aC _ _ _ _ (Ne.symm M)];exact h.hP
 ·rw[aC _ _ _ _ (Ne.symm J)];exact h.hB
 ·rw[aC _ _ _ _ (Ne.symm F)];exact h.hU
 ·rw[aC _ _ _ _ (Ne.symm E)];exact h.hN
 ·have Z:=(List.getElem?_eq_some_iff.1 u).1;rw[aC _ _ _ _ (Ne.symm (hi.2 k (by omega)))];exact h.hF k r u
def eJ.none{p:Pts}{j n:Nat}{H H':aD}{T:Tab}(h:eJ p j n H H')(E:TabH H' j p T)(u:T.rows.length=n){i:Nat}(hi:H' i=none):H i=none:=by
 cases e:H i with
 | none=>rfl
 | some r=>rw[h i r (E.noT u hi).off e]at hi;cases hi
structure UnT(T:Tab)(n w:Nat):Prop where
 len:T.unit.length=n
 at_:∀i,i<n->0<=T.unit.getD i 0/\T.unit.getD i 0<(w:Int)
 turn:T.turned.length=n
def sU(T:Tab)(c:ByteArray)(i:Nat):ByteArray×Int:=fB c (T.price.getD (T.unit.getD i 0).toNat z0)
def Cz(T:Tab)(c:ByteArray)(s:List ByteArray×Int)(i:Nat):List ByteArray×Int:=
 if T.turned.getD i false=true then(s.1++[(fB z0 (sU T c i).1).1],bI (bI s.2 (sU T c i).2) (fB z0 (sU T c i).1).2)else(s.1++[(sU T c i).1],bI s.2 (sU T c i).2)
def KO(T:Tab)(c:ByteArray):List ByteArray×Int:=aS (Cz T c) T.unit.length ([],T.err)
def Lu(o:List ByteArray)(x:ByteArray):aQ (o++[x])=⟨59,1,o.map D.cQ++[[str x]]⟩:=by unfold aQ;rw[Xak];rfl
def QA{l:List Bool}{k:Nat}(h:k<l.length):(l.map gU).getD k []=[boo (l.getD k false)]:=by simp[List.getD,h,gU]
def Qb(T:Tab)(c:ByteArray)(s:List ByteArray×Int)(i:Nat):(Cz T c s i).1.length=s.1.length+1:=by unfold Cz;split <;> simp
def HB{T:Tab}{c:ByteArray}{e:Int}:∀k,(aS (Cz T c) k ([],e)).1.length=k
 | 0=>rfl
 | k+1=>by rw[bV,Qb,HB k]
section
variable{H0:aD}{j:Nat}{p:Pts}{T:Tab}{K:AV->aD->Prop}{n w:Nat}
def SE{c:ByteArray}(hc:c.size<=1048576)(hT:TabH H0 j p T)(hW:WfT T n w)(hU:UnT T n w)
  (hK:∀i H',H0 i=none->H' i=some (aQ (KO T c).1)->TabH H' j p { T with err:=(KO T c).2 }->eJ p j n H0 H'->K (.os i) H'):aI prog 134 [.op j 0 0,str c] H0 K:=by
 have ax:=hW.w1;have aw:=hW.n1;have O:=hW.rows;have aq:=hW.price;have ak:=hU.len;have ay:=hU.turn;have Rj:H0 j=some ⟨251,8,[[.os p.jr,.os p.jp,.os p.jb,.os p.ju,.os p.jt,int T.cols,int T.vars,int T.err]]⟩:=hT.hT;have Ru:=hT.hU;unfold KO at hK;rw[ak]at hK;refine aI.body (c:=f134.body.getD .skip) (fun t=>t == 5) mixed func134 rfl (by kernel_rfl) ?_;unfold f134;simp only[Xag];simp only[go_sem];refine aL fun i hi=>?_
 have hS:=hT.off O (hT.noT O hi) (some ⟨59,1,[]⟩);have ae:=(eJ.refl p j n H0).new hi (some ⟨59,1,[]⟩);have R:aE H0 i (some ⟨59,1,[]⟩) i=some (aQ []):=aB _ _ _;generalize aE H0 i _=G at *;have Rj:G j=some ⟨251,8,[[.os p.jr,.os p.jp,.os p.jb,.os p.ju,.os p.jt,int T.cols,int T.vars,int T.err]]⟩:=hS.hT;have Ru:=hS.hU;simp only[go_sem,Rj,Ru,Xaa,ak];clear Ru Rj;refine⟨fun ρ H=>∃(k:Nat) (i:Nat),k<=n/\ρ 0=.op j 0 0/\ρ 1=str c/\ρ 12=.os p.ju/\ρ 13=int (n:Nat)/\ρ 14=int k/\ρ 5=.os i/\H i=some (aQ (aS (Cz T c) k ([],T.err)).1)/\H0 i=none/\NoT p j n i/\TabH H j p { T with err:=(aS (Cz T c) k ([],T.err)).2 }/\eJ p j n H0 H,fun ρ _=>n-aW (ρ 14),⟨0,i,Xab _,by simp only[go_sem],by simp only[go_sem],by simp only[go_sem],by simp only[go_sem,Xaa],(by simp only[go_sem];rfl),(by simp only[go_sem]),R,hi,hT.noT O hi,hS,ae⟩,?_⟩;rintro ρ H ⟨k,i,hk,e0,e1,J,E,F,e5,R,hi,ag,hS,ae⟩;simp only[go_sem,e0,e1,J,E,F,e5];refine aA (fun aa=>?_) (fun ah=>?_)
 ·have aa:=ltB (by simpa using aa);have ap:(aS (Cz T c) k ([],T.err)).1.length=k:=HB k;have Z:=bV (Cz T c) k ([],T.err);generalize aS (Cz T c) k ([],T.err)=s at *;obtain⟨o,e⟩:=s;simp only at R hS ap;have av:Cz T c (o,e) k=if T.turned.getD k false=true then(o++[(fB z0 (sU T c k).1).1],bI (bI e (sU T c k).2) (fB z0 (sU T c k).1).2)else(o++[(sU T c k).1],bI e (sU T c k).2):=rfl
  have hd:sU T c k=fB c (T.price.getD (T.unit.getD k 0).toNat z0):=rfl;have Rj:H j=some ⟨251,8,[[.os p.jr,.os p.jp,.os p.jb,.os p.ju,.os p.jt,int T.cols,int T.vars,int e]]⟩:=hS.hT;have Ru:=hS.hU;have Rp:=hS.hP;obtain⟨u0,u1⟩:=hU.at_ k aa;have am:k<T.unit.length:=by omega
  simp only[go_sem,e0,e1,J,E,F,e5,Ru,Xaa];refine⟨⟨by omega,by omega⟩,am,?_⟩;rw[lD am];generalize T.unit.getD k 0=u at *;obtain⟨u,rfl⟩:=Int.eq_ofNat_of_zero_le u0;rw[Xbb]at hd;have ai:u<T.price.length:=by omega
  have au:=aq.2.at u;simp only[go_sem,e0,e1,J,E,F,e5,Rj,Rp,Xaa];refine⟨⟨by omega,by omega⟩,ai,?_⟩;simp only[go_sem,e0,e1,J,E,F,e5,dN ai];refine DV c _ hc au hS.hT ?_;rw[<-hd];have al:=mA c (T.price.getD u z0) hc;rw[<-hd]at al;have M:TabH (aE H j (some (bC (.os p.jr) (.os p.jp) (.os p.jb) (.os p.ju) (.os p.jt) T.cols T.vars (bI e (sU T c k).2)))) j p { T with err:=bI e (sU T c k).2 }:=hS.setErr (bI e (sU T c k).2);have ac:=ae.upd (zA (p:=p) (n:=n)) (some (bC (.os p.jr) (.os p.jp) (.os p.jb) (.os p.ju) (.os p.jt) T.cols T.vars (bI e (sU T c k).2)));have aj:i≠j:=ag.off.1;have R2:aE H j (some (bC (.os p.jr) (.os p.jp) (.os p.jb) (.os p.ju) (.os p.jt) T.cols T.vars (bI e (sU T c k).2))) i=some (aQ o):=by rw[aC _ _ _ _ aj];exact R
  rw[av]at Z;generalize sU T c k=d at *;generalize aE H j _=G2 at *;have ao:G2 j=some ⟨251,8,[[.os p.jr,.os p.jp,.os p.jb,.os p.ju,.os p.jt,int T.cols,int T.vars,int (bI e d.2)]]⟩:=M.hT;have ar:=M.hN;have an:k<T.turned.length:=by omega
  simp only[go_sem,e0,e1,J,E,F,e5,ao,ar,Xaa];refine⟨⟨by omega,by omega⟩,an,?_⟩;rw[QA an];generalize T.turned.getD k false=b at *;simp only[go_sem];refine aA (fun hb=>?_) (fun hb=>?_)
  ·rw[if_pos hb]at Z;simp only[go_sem,e0,e1,J,E,F,e5];refine DV z0 d.1 (by decide) al M.hT ?_;have ab:TabH (aE G2 j (some (bC (.os p.jr) (.os p.jp) (.os p.jb) (.os p.ju) (.os p.jt) T.cols T.vars (bI (bI e d.2) (fB z0 d.1).2)))) j p { T with err:=bI (bI e d.2) (fB z0 d.1).2 }:=M.setErr (bI (bI e d.2) (fB z0 d.1).2);have af:=ac.upd (zA (p:=p) (n:=n)) (some (bC (.os p.jr) (.os p.jp) (.os p.jb) (.os p.ju) (.os p.jt) T.cols T.vars (bI (bI e d.2) (fB z0 d.1).2)));have R3:aE G2 j (some (bC (.os p.jr) (.os p.jp) (.os p.jb) (.os p.ju) (.os p.jt) T.cols T.vars (bI (bI e d.2) (fB z0 d.1).2))) i=some (aQ o):=by rw[aC _ _ _ _ aj];exact R2
   generalize fB z0 d.1=d2 at *;generalize aE G2 j _=G3 at *;simp only[go_sem,e0,e1,J,E,F,e5];refine cD R3 ⟨rfl,rfl⟩ ⟨rfl,trivial⟩ (by simp only[Xaa,Xae,List.length_nil];omega) (fun j' L=>?_);simp only[go_sem,e0,e1,J,E,F,e5,aY k];refine⟨⟨k+1,j',aa,rfl,rfl,?_,af.none ab O L,ab.noT O L,?_,(af.new hi _).new (af.none ab O L) _⟩,by simp only[aF];omega⟩
   ·rw[Z,aB,Lu]
   ·rw[Z];exact(ab.off O ag none).off O (ab.noT O L) _
  ·rw[if_neg (by rw[hb];simp)]at Z;simp only[go_sem,e0,e1,J,E,F,e5];refine cD R2 ⟨rfl,rfl⟩ ⟨rfl,trivial⟩ (by simp only[Xaa,Xae,List.length_nil];omega) (fun j' L=>?_);simp only[go_sem,e0,e1,J,E,F,e5,aY k];refine⟨⟨k+1,j',aa,rfl,rfl,?_,ac.none M O L,M.noT O L,?_,(ac.new hi _).new (ac.none M O L) _⟩,by simp only[aF];omega⟩
   ·rw[Z,aB,Lu]
   ·rw[Z];exact(M.off O ag none).off O (M.noT O L) _
 have ah:=geB hk (by simpa using ah);subst ah;simp only[go_sem,e0,e1,J,E,F,e5];exact hK _ _ hi R hS ae
end
end Si
namespace Si
open Go.Proofs.Tryz
open Go.Nu
open Go.Proofs.YtmhpdppobocokaaGreatDoor.Nu (ltB geB cB gI lE kK iZ jM jT fS dW)
def nzT(T:Tab)(i k:Nat):Bool:= !is0 ((T.rows.getD i []).getD k z0)
def qZ(T:Tab)(i:Nat):Tab:=if T.base.getD i 0<T.cols then T else match nG (nzT T i) T.cols.toNat with
 | none=>T
 | some k=>pivT T i k
def nJ(T:Tab):Tab:=aS qZ T.rows.length T
def OkT.cln{T:Tab}{n w i:Nat}(h:OkT T n w)(hi:i<n):OkT (qZ T i) n w:=by
 unfold qZ;split
 ·exact h
 ·split
  ·exact h
  ·next u=>
   have:=xK u;have:=h.cols;exact h.piv hi (by omega)
def OkT.clns{T:Tab}{n w:Nat}(h:OkT T n w):∀k,k<=n->OkT (aS qZ k T) n w
 | 0,_=>h
 | k+1,hk=>by rw[bV];exact(h.clns k (by omega)).cln (by omega)
def Qa(T:Tab)(i:Nat):(qZ T i).cols=T.cols/\(qZ T i).vars=T.vars/\(qZ T i).unit=T.unit/\(qZ T i).turned=T.turned:=by
 unfold qZ;split
 ·exact⟨rfl,rfl,rfl,rfl⟩
 ·split
  ·exact⟨rfl,rfl,rfl,rfl⟩
  ·exact(BB _ _ _).2
def Di(T:Tab):∀k,(aS qZ k T).cols=T.cols/\(aS qZ k T).vars=T.vars/\(aS qZ k T).unit=T.unit/\(aS qZ k T).turned=T.turned
 | 0=>⟨rfl,rfl,rfl,rfl⟩
 | k+1=>by rw[bV];obtain⟨a,b,c,d⟩:=Qa (aS qZ k T) k;obtain⟨E,u,c',F⟩:=Di T k;exact⟨a.trans E,b.trans u,c.trans c',d.trans F⟩
section
variable{H0:aD}{j:Nat}{p:Pts}{T0:Tab}{K:AV->aD->Prop}{n w:Nat}
def Sk(hT:TabH H0 j p T0)(hO:OkT T0 n w)
  (hK:∀q H',TabH H' j p (nJ T0)->eJ p j n H0 H'->K q H'):aI prog 135 [.op j 0 0] H0 K:=by
 have hW:=hO.wf;have au:=hW.w1;have ar:=hW.n1;have hn:=hW.rows;have Rj:H0 j=some ⟨251,8,[[.os p.jr,.os p.jp,.os p.jb,.os p.ju,.os p.jt,int T0.cols,int T0.vars,int T0.err]]⟩:=hT.hT;have Rt:=hT.hR;unfold nJ at hK;rw[hn]at hK;refine aI.body (c:=f135.body.getD .skip) (fun _=>false) mixed func135 rfl (by kernel_rfl) ?_;unfold f135;simp only[Xag];simp only[go_sem];simp only[go_sem,Rj,Rt,dS,hn];refine⟨fun ρ H=>∃(k:Nat),k<=n/\ρ 0=.op j 0 0/\ρ 8=.os p.jr/\ρ 9=int (n:Nat)/\ρ 10=int k/\TabH H j p (aS qZ k T0)/\eJ p j n H0 H,fun ρ _=>n-aW (ρ 10),⟨0,Xab _,by simp only[go_sem],by simp only[go_sem],by simp only[go_sem,Xaa],(by simp only[go_sem];rfl),hT,.refl _ _ _ _⟩,?_⟩;rintro ρ H ⟨k,hk,E,J,F,u,hS,ac⟩;simp only[go_sem,E,J,F,u];refine aA (fun O=>?_) (fun ab=>?_)
 ·have O:=ltB (by simpa using O);obtain⟨i,hik⟩:∃i,i=k:=⟨k,rfl⟩;subst hik;have an:=O;have af:=hO.clns i (by omega);have Z:=bV qZ i T0;generalize aS qZ i T0=T at *;have hW:=af.wf;obtain⟨l1,l2⟩:=hW.at O;have ek:=fH (R:=T.rows) (i:=i) (by rw[hW.rows];omega);have eo:=ozD (f:=p.f) ek;have Rr:=hS.hF i _ ek;have Rt:=hS.hR;have Rb:=hS.hB;have aw:=hW.base;have aj:i<T.base.length:=by omega
  have ao:=af.cols;have ax:=af.wid;obtain⟨c,hc⟩:=Int.eq_ofNat_of_zero_le ao;have Rj:H j=some ⟨251,8,[[.os p.jr,.os p.jp,.os p.jb,.os p.ju,.os p.jt,int T.cols,int T.vars,int T.err]]⟩:=hS.hT;have ap:qZ T i=if T.base.getD i 0<T.cols then T else match nG (nzT T i) T.cols.toNat with
   | none=>T
   | some c=>pivT T i c:=rfl
  rw[ap,hc,Xbb]at Z;rw[hc]at Rj;simp only[go_sem,E,J,F,u,Rt,eo];refine⟨⟨by omega,by rw[dS,hW.rows];omega⟩,by rw[dS,hW.rows];omega,?_⟩;refine eN [j,p.jb] [(0,true),(1,true),(2,true),(3,true),(4,true),(5,true),(6,true),(7,true),(8,true),(9,true),(10,true),(11,true)] (by simp[Rj,Rb]) (by kernel_rfl) fun Hp Hr hp hr _ ak=>?_
  have ah:=(hp j (by simp)).trans Rj;have ag:=(hp p.jb (by simp)).trans Rb;simp only[go_sem,E,J,F,u,ah,ag];refine⟨⟨by omega,by simp;omega⟩,by simpa using aj,?_⟩;simp only[go_sem,lD aj];refine nC hr ?_;clear hp hr ak ah ag;simp only[go_sem];refine aA (fun hb=>?_) (fun hb=>?_)
  ·have hb:T.base.getD i 0<(c:Int):=by simpa using hb
   rw[if_pos hb]at Z;simp only[go_sem,E,J,F,u,aY i];exact⟨⟨i+1,O,rfl,by rw[Z];exact hS,ac⟩,by simp only[aF];omega⟩
  have hb:¬T.base.getD i 0<(c:Int):=by simpa using hb
  rw[if_neg hb]at Z;simp only[go_sem,E,J,F,u,Rj];refine Ca (fun ae H'=>ae 0=.op j 0 0/\ae 8=.os p.jr/\ae 9=int (n:Nat)/\ae 10=int (i:Nat)/\TabH H' j p (aS qZ (i+1) T0)/\eJ p j n H0 H') ?_ fun Q hQ aq=>?_
  ·rintro ρ H ⟨E,J,F,u,hS,ac⟩;simp only[go_sem,E,J,F,u,aY i];exact⟨⟨i+1,O,rfl,hS,ac⟩,by simp only[aF];omega⟩
  generalize av:H=G at *;refine⟨fun ρ H=>∃(k:Nat),k<=c/\ρ 0=.op j 0 0/\ρ 2=int (i:Nat)/\ρ 3=.oz (p.f i) 0 (T.rows.getD i []).length/\ρ 8=.os p.jr/\ρ 9=int (n:Nat)/\ρ 10=int (i:Nat)/\ρ 30=int (c:Nat)/\ρ 31=int k/\(∀x,x<k->nzT T i x=false)/\H=G,fun ρ _=>c-aW (ρ 31),⟨0,Xab _,by simp only[go_sem,E,J,F,u],by simp only[go_sem,E,J,F,u],by simp only[go_sem,E,J,F,u],by simp only[go_sem,E,J,F,u],by simp only[go_sem,E,J,F,u],by simp only[go_sem,E,J,F,u],by simp only[go_sem,Xaa,E,J,F,u],(by simp only[go_sem,E,J,F,u];rfl),(by omega),rfl⟩,?_⟩;rintro ρ H ⟨k,hk,E,e2,e3,J,F,u,M,L,hz,hG⟩;simp only[go_sem,E,e2,e3,J,F,u,M,L];refine aA (fun O=>?_) (fun ab=>?_)
  ·have O:=ltB (by simpa using O);subst hG;have ai:k<(T.rows.getD i []).length:=by omega
   simp only[go_sem,E,e2,e3,J,F,u,M,L,Rr];refine⟨⟨by omega,by omega⟩,by simpa using ai,?_⟩;simp only[go_sem,E,e2,e3,J,F,u,M,L,dN ai];refine aA (fun aa=>?_) (fun aa=>?_)
   ·have aa:nzT T i k=true:=aa;rw[uT hz aa O]at Z;simp only[go_sem,E,e2,e3,J,F,u,M,L];refine L2 hS af.wf an (show k<w by omega) fun q H3 al am=>?_
    simp only[go_sem];exact hQ _ _ ⟨by simp only[go_sem,E,e2,e3,J,F,u,M,L],by simp only[go_sem,E,e2,e3,J,F,u,M,L],by simp only[go_sem,E,e2,e3,J,F,u,M,L],by simp only[go_sem,E,e2,e3,J,F,u,M,L],by rw[Z];exact al,ac.trans am⟩
   ·have aa:nzT T i k=false:=aa;simp only[go_sem,E,e2,e3,J,F,u,M,L,aY k];refine⟨⟨k+1,O,rfl,fun x hx=>?_⟩,by simp only[aF];omega⟩;by_cases e:x=k
    ·subst e;exact aa
    ·exact hz x (by omega)
  have ab:=geB hk (by simpa using ab);subst ab hG;rw[nM hz]at Z;simp only[go_sem,E,e2,e3,J,F,u,M,L];exact hQ _ _ ⟨by simp only[go_sem,E,e2,e3,J,F,u,M,L],by simp only[go_sem,E,e2,e3,J,F,u,M,L],by simp only[go_sem,E,e2,e3,J,F,u,M,L],by simp only[go_sem,E,e2,e3,J,F,u,M,L],by rw[Z];exact hS,ac⟩
 have ab:=geB hk (by simpa using ab);subst ab;exact hK _ _ hS ac
end
end Si
namespace Si
open Go.Nu
def TabH.pushBase{H:aD}{j:Nat}{p:Pts}{T:Tab}(h:TabH H j p T){a:Nat}(E:H a=none)(l:List Int):TabH (aE (aE (aE H p.jb none) a (some (dB l))) j (some (bC (.os p.jr) (.os p.jp) (.os a) (.os p.ju) (.os p.jt) T.cols T.vars T.err))) j { p with jb:=a } { T with base:=l }:=by
 obtain⟨⟨a1,a2,a3,Z,O⟩,⟨b1,b2,b3,b4⟩,⟨c1,c2,c3⟩,⟨d1,d2⟩,f1⟩:=mQ h.nd;have M:j≠a:=aO h.hT E;have n1:p.jr≠a:=aO h.hR E;have n2:p.jp≠a:=aO h.hP E;have n3:p.jb≠a:=aO h.hB E;have n4:p.ju≠a:=aO h.hU E;have n5:p.jt≠a:=aO h.hN E;have nf:∀k,k<T.rows.length->p.f k≠a:=fun k F=>aO (h.hF k _ (fH F)) E
 have u:∀k r,k≠j->k≠p.jb->H k=some r->aE (aE (aE H p.jb none) a (some (dB l))) j (some (bC (.os p.jr) (.os p.jp) (.os a) (.os p.ju) (.os p.jt) T.cols T.vars T.err)) k=some r:=fun k r F hd J=>by rw[aC _ _ _ _ F,aC _ _ _ _ (aO J E),aC _ _ _ _ hd];exact J
 have new:aE (aE (aE H p.jb none) a (some (dB l))) j (some (bC (.os p.jr) (.os p.jp) (.os a) (.os p.ju) (.os p.jt) T.cols T.vars T.err)) a=some (dB l):=by rw[aC _ _ _ _ (Ne.symm M),aB]
 refine⟨aB _ _ _,u _ _ (Ne.symm a1) b2 h.hR,u _ _ (Ne.symm a2) c1 h.hP,new,u _ _ (Ne.symm Z) (Ne.symm d1) h.hU,u _ _ (Ne.symm O) (Ne.symm d2) h.hN,fun k r J=>u _ _ (iP h.nf (List.getElem?_eq_some_iff.1 J).1).1 (iP h.nf (List.getElem?_eq_some_iff.1 J).1).2.2.2.1 (h.hF k r J),?_,?_,h.inj⟩
 ·unfold Pts.all;simp only[List.nodup_cons,Xao,List.not_mem_nil,or_false,not_or,not_false_eq_true,List.nodup_nil,and_true];exact⟨⟨a1,a2,M,Z,O⟩,⟨b1,n1,b3,b4⟩,⟨n2,c2,c3⟩,⟨(Ne.symm n4),(Ne.symm n5)⟩,f1⟩
 ·intro k F m L;obtain⟨e1,e2,e3,e4,e5,e6⟩:=iP h.nf F;have:=nf k F;unfold Pts.all at L;simp only[Xao,List.not_mem_nil,or_false]at L;rcases L with rfl|rfl|rfl|rfl|rfl|rfl
  ·exact e1
  ·exact e2
  ·exact e3
  ·exact this
  ·exact e5
  ·exact e6
def TabH.pushUnit{H:aD}{j:Nat}{p:Pts}{T:Tab}(h:TabH H j p T){a:Nat}(E:H a=none)(l:List Int):TabH (aE (aE (aE H p.ju none) a (some (dB l))) j (some (bC (.os p.jr) (.os p.jp) (.os p.jb) (.os a) (.os p.jt) T.cols T.vars T.err))) j { p with ju:=a } { T with unit:=l }:=by
 obtain⟨⟨a1,a2,a3,a4,O⟩,⟨b1,b2,b3,b4⟩,⟨c1,c2,c3⟩,⟨d1,d2⟩,f1⟩:=mQ h.nd;have M:j≠a:=aO h.hT E;have n1:p.jr≠a:=aO h.hR E;have n2:p.jp≠a:=aO h.hP E;have n3:p.jb≠a:=aO h.hB E;have n4:p.ju≠a:=aO h.hU E;have n5:p.jt≠a:=aO h.hN E;have nf:∀k,k<T.rows.length->p.f k≠a:=fun k F=>aO (h.hF k _ (fH F)) E
 have u:∀k r,k≠j->k≠p.ju->H k=some r->aE (aE (aE H p.ju none) a (some (dB l))) j (some (bC (.os p.jr) (.os p.jp) (.os p.jb) (.os a) (.os p.jt) T.cols T.vars T.err)) k=some r:=fun k r F hd J=>by rw[aC _ _ _ _ F,aC _ _ _ _ (aO J E),aC _ _ _ _ hd];exact J
 have new:aE (aE (aE H p.ju none) a (some (dB l))) j (some (bC (.os p.jr) (.os p.jp) (.os p.jb) (.os a) (.os p.jt) T.cols T.vars T.err)) a=some (dB l):=by rw[aC _ _ _ _ (Ne.symm M),aB]
 refine⟨aB _ _ _,u _ _ (Ne.symm a1) b3 h.hR,u _ _ (Ne.symm a2) c2 h.hP,u _ _ (Ne.symm a3) d1 h.hB,new,u _ _ (Ne.symm O) (Ne.symm f1) h.hN,fun k r J=>u _ _ (iP h.nf (List.getElem?_eq_some_iff.1 J).1).1 (iP h.nf (List.getElem?_eq_some_iff.1 J).1).2.2.2.2.1 (h.hF k r J),?_,?_,h.inj⟩
 ·unfold Pts.all;simp only[List.nodup_cons,Xao,List.not_mem_nil,or_false,not_or,not_false_eq_true,List.nodup_nil,and_true];exact⟨⟨a1,a2,a3,M,O⟩,⟨b1,b2,n1,b4⟩,⟨c1,n2,c3⟩,⟨n3,d2⟩,(Ne.symm n5)⟩
 ·intro k F m L;obtain⟨e1,e2,e3,Z,e5,e6⟩:=iP h.nf F;have:=nf k F;unfold Pts.all at L;simp only[Xao,List.not_mem_nil,or_false]at L;rcases L with rfl|rfl|rfl|rfl|rfl|rfl
  ·exact e1
  ·exact e2
  ·exact e3
  ·exact Z
  ·exact this
  ·exact e6
def TabH.pushTurn{H:aD}{j:Nat}{p:Pts}{T:Tab}(h:TabH H j p T){a:Nat}(E:H a=none)(l:List Bool):TabH (aE (aE (aE H p.jt none) a (some (oI l))) j (some (bC (.os p.jr) (.os p.jp) (.os p.jb) (.os p.ju) (.os a) T.cols T.vars T.err))) j { p with jt:=a } { T with turned:=l }:=by
 obtain⟨⟨a1,a2,a3,O,a5⟩,⟨b1,b2,b3,b4⟩,⟨c1,c2,c3⟩,⟨d1,d2⟩,f1⟩:=mQ h.nd;have M:j≠a:=aO h.hT E;have n1:p.jr≠a:=aO h.hR E;have n2:p.jp≠a:=aO h.hP E;have n3:p.jb≠a:=aO h.hB E;have n4:p.ju≠a:=aO h.hU E;have n5:p.jt≠a:=aO h.hN E;have nf:∀k,k<T.rows.length->p.f k≠a:=fun k F=>aO (h.hF k _ (fH F)) E
 have u:∀k r,k≠j->k≠p.jt->H k=some r->aE (aE (aE H p.jt none) a (some (oI l))) j (some (bC (.os p.jr) (.os p.jp) (.os p.jb) (.os p.ju) (.os a) T.cols T.vars T.err)) k=some r:=fun k r F hd J=>by rw[aC _ _ _ _ F,aC _ _ _ _ (aO J E),aC _ _ _ _ hd];exact J
 have new:aE (aE (aE H p.jt none) a (some (oI l))) j (some (bC (.os p.jr) (.os p.jp) (.os p.jb) (.os p.ju) (.os a) T.cols T.vars T.err)) a=some (oI l):=by rw[aC _ _ _ _ (Ne.symm M),aB]
 refine⟨aB _ _ _,u _ _ (Ne.symm a1) b4 h.hR,u _ _ (Ne.symm a2) c3 h.hP,u _ _ (Ne.symm a3) d2 h.hB,u _ _ (Ne.symm O) f1 h.hU,new,fun k r J=>u _ _ (iP h.nf (List.getElem?_eq_some_iff.1 J).1).1 (iP h.nf (List.getElem?_eq_some_iff.1 J).1).2.2.2.2.2 (h.hF k r J),?_,?_,h.inj⟩
 ·unfold Pts.all;simp only[List.nodup_cons,Xao,List.not_mem_nil,or_false,not_or,not_false_eq_true,List.nodup_nil,and_true];exact⟨⟨a1,a2,a3,O,M⟩,⟨b1,b2,b3,n1⟩,⟨c1,c2,n2⟩,⟨d1,n3⟩,n4⟩
 ·intro k F m L;obtain⟨e1,e2,e3,Z,e5,e6⟩:=iP h.nf F;have:=nf k F;unfold Pts.all at L;simp only[Xao,List.not_mem_nil,or_false]at L;rcases L with rfl|rfl|rfl|rfl|rfl|rfl
  ·exact e1
  ·exact e2
  ·exact e3
  ·exact Z
  ·exact e5
  ·exact this
def PM{f:Nat->Nat}{R:List (List ByteArray)}{r:List ByteArray}{i:Nat}:ozE (fun k=>if k=R.length then i else f k) (R++[r])=ozE f R++[[.oz i 0 r.length]]:=by
 unfold ozE;rw[List.mapIdx_concat]
 congr 1
 ·refine List.ext_getElem? fun k=>?_
  rw[List.getElem?_mapIdx,List.getElem?_mapIdx];cases u:R[k]? with
  | none=>rfl
  | some x=>have:=(List.getElem?_eq_some_iff.1 u).1;simp only[Option.map_some];rw[if_neg (by omega)]
 ·simp
def TabH.pushRow{H:aD}{j:Nat}{p:Pts}{T:Tab}(h:TabH H j p T){a i:Nat}(J:H a=none){r:List ByteArray}(hi:H i=some (aQ r))(L:NoT p j T.rows.length i):TabH (aE (aE (aE H p.jr none) a (some ⟨48,1,ozE p.f T.rows++[[.oz i 0 r.length]]⟩)) j (some (bC (.os a) (.os p.jp) (.os p.jb) (.os p.ju) (.os p.jt) T.cols T.vars T.err))) j { p with jr:=a,f:=fun k=>if k=T.rows.length then i else p.f k } { T with rows:=T.rows++[r] }:=by
 obtain⟨⟨a1,a2,a3,a4,a5⟩,⟨b1,b2,b3,b4⟩,⟨c1,c2,c3⟩,⟨d1,d2⟩,f1⟩:=mQ h.nd;have n0:j≠a:=aO h.hT J;have n1:p.jr≠a:=aO h.hR J;have n2:p.jp≠a:=aO h.hP J;have n3:p.jb≠a:=aO h.hB J;have n4:p.ju≠a:=aO h.hU J;have n5:p.jt≠a:=aO h.hN J;have n6:i≠a:=aO hi J;have m0:i∉[j,p.jr,p.jp,p.jb,p.ju,p.jt]:=L.1;simp only[Xao,List.not_mem_nil,or_false,not_or]at m0;obtain⟨m1,m2,m3,m4,m5,m6⟩:=m0;have nf:∀k,k<T.rows.length->p.f k≠a:=fun k M=>aO (h.hF k _ (fH M)) J
 have E:∀k r',k≠j->k≠p.jr->H k=some r'->aE (aE (aE H p.jr none) a (some ⟨48,1,ozE p.f T.rows++[[.oz i 0 r.length]]⟩)) j (some (bC (.os a) (.os p.jp) (.os p.jb) (.os p.ju) (.os p.jt) T.cols T.vars T.err)) k=some r':=fun k r' M hd F=>by rw[aC _ _ _ _ M,aC _ _ _ _ (aO F J),aC _ _ _ _ hd];exact F
 refine⟨aB _ _ _,?_,E _ _ (Ne.symm a2) (Ne.symm b1) h.hP,E _ _ (Ne.symm a3) (Ne.symm b2) h.hB,E _ _ (Ne.symm a4) (Ne.symm b3) h.hU,E _ _ (Ne.symm a5) (Ne.symm b4) h.hN,fun k r' F=>?_,?_,?_,fun x y hx hy u=>?_⟩
 ·show aE (aE (aE H p.jr none) a _) j _ a=some (Gb _ (T.rows++[r]));rw[aC _ _ _ _ (Ne.symm n0),aB];unfold Gb;rw[PM]
 ·have F:(T.rows++[r])[k]?=some r':=F;show aE _ _ _ (if k=T.rows.length then i else p.f k)=_;by_cases e:k=T.rows.length
  ·subst e;rw[List.getElem?_concat_length]at F;cases F;rw[if_pos rfl];exact E _ _ m1 m2 hi
  ·have aa:=(List.getElem?_eq_some_iff.1 F).1;rw[Xac,List.length_singleton]at aa;rw[List.getElem?_append_left (by omega)]at F;rw[if_neg e];exact E _ _ (iP h.nf (by omega)).1 (iP h.nf (by omega)).2.1 (h.hF k r' F)
 ·unfold Pts.all;simp only[List.nodup_cons,Xao,List.not_mem_nil,or_false,not_or,not_false_eq_true,List.nodup_nil,and_true];exact⟨⟨n0,a2,a3,a4,a5⟩,⟨(Ne.symm n2),(Ne.symm n3),(Ne.symm n4),(Ne.symm n5)⟩,⟨c1,c2,c3⟩,⟨d1,d2⟩,f1⟩
 ·intro k M m Z;have M:k<(T.rows++[r]).length:=M;rw[Xac,List.length_singleton]at M;show(if k=T.rows.length then i else p.f k)≠m;unfold Pts.all at Z;simp only[Xao,List.not_mem_nil,or_false]at Z;by_cases e:k=T.rows.length
  ·rw[if_pos e];rcases Z with rfl|rfl|rfl|rfl|rfl|rfl
   ·exact m1
   ·exact n6
   ·exact m3
   ·exact m4
   ·exact m5
   ·exact m6
  ·rw[if_neg e];obtain⟨e1,e2,e3,e4,e5,e6⟩:=iP h.nf (show k<T.rows.length by omega);have:=nf k (by omega);rcases Z with rfl|rfl|rfl|rfl|rfl|rfl
   ·exact e1
   ·exact this
   ·exact e3
   ·exact e4
   ·exact e5
   ·exact e6
 ·have hx:x<(T.rows++[r]).length:=hx;have hy:y<(T.rows++[r]).length:=hy;rw[Xac,List.length_singleton]at hx hy;have u:(if x=T.rows.length then i else p.f x)=(if y=T.rows.length then i else p.f y):=u;by_cases ex:x=T.rows.length
  ·by_cases O:y=T.rows.length
   ·omega
   ·rw[if_pos ex,if_neg O]at u;exact absurd u (L.2 y (by omega))
  ·by_cases O:y=T.rows.length
   ·rw[if_neg ex,if_pos O]at u;exact absurd u.symm (L.2 x (by omega))
   ·rw[if_neg ex,if_neg O]at u;exact h.inj x y (by omega) (by omega) u
end Si
namespace Nu
open Go.Proofs.Tryz
open Go.Nu
def RY(x:Int):nK .and .i64 x 1=x%2:=Sq.RY x
def Tp{a b:Nat}(F:a<2^63)(E:b<2^63):nK .and .i64 (a:Int) (b:Int)=((a &&& b:Nat):Int):=by
 have h:((BitVec.ofInt 64 (a:Int) &&& BitVec.ofInt 64 (b:Int)).toNat:Int)=((a &&& b:Nat):Int):=by
  rw[BitVec.toNat_and,BitVec.toNat_ofInt,BitVec.toNat_ofInt];have h1:((a:Int)%((2^64:Nat):Int)).toNat=a:=by omega
  have u:((b:Int)%((2^64:Nat):Int)).toNat=b:=by omega
  rw[h1,u]
 refine Eq.trans (congrArg IntKind.i64.wrap h) ?_;have:=Nat.and_lt_two_pow a E;exact aV (by omega)
def BD{x:Int}{i:Nat}(h:i<=62):shV .shr .i64 x (i:Int)=x/2^i:=Sq.BD h
def kM(set i:Int):Bool:=decide (i>=0)&&decide (i<=62)&&((set/2^i.toNat)%2 == 1)
def Cf(set i:Int):PC prog 63 [int set,int i] (boo (kM set i)):=Sq.Cf set i
def sG(set:Int)(k:Nat):List Int:=((List.range k).filter fun i:Nat=>kM set (i:Int)).map fun i:Nat=>(i:Int)
def jO(set:Int):List Int:=sG set 63
def pD(set:Int)(k:Nat):sG set (k+1)=sG set k++(if kM set (k:Int)=true then[(k:Int)]else[]):=Sq.pD set k
def oW(set:Int)(k:Nat):(sG set k).length<=k:=Sq.oW set k
def dB(l:List Int):Row:=⟨3,1,l.map aP⟩
def iG(set:Int):PC prog 126 [int set] (.sl ((jO set).map aP)):=Sq.iG set
def pU:Nat->Nat->Nat
 | 0,_=>0
 | k+1,n=>n%2+pU k (n/2)
def Do:∀(k n:Nat),pU (k+1) n=pU k n+(n/2^k)%2
 | 0,n=>by simp[pU]
 | k+1,n=>by rw[pU,Do k (n/2),pU,Nat.div_div_eq_div_mul,show 2*2^k=2^(k+1)by rw[Xbl,Nat.mul_comm]];omega
def ES:∀k n:Nat,pU k n<=k
 | 0,_=>Xad 0
 | k+1,n=>by have:=ES k (n/2);rw[pU];omega
def AT(n:Nat):∀k:Nat,k<=63->(sG (n:Int) k).length=pU k n
 | 0,_=>rfl
 | k+1,hk=>by
  rw[pD,Xac,AT n k (by omega),Do];have h:kM (n:Int) (k:Int)=decide ((n/2^k)%2=1):=by
   unfold kM;rw[show decide ((k:Int)>=0)=true by simp,show decide ((k:Int)<=62)=true by simp;omega,Xbb,Xbm,Xbm];rw[Xbf,beq_iff_eq,decide_eq_true_iff];have:((n:Int)/2^k)=((n/2^k:Nat):Int):=by norm_cast
   rw[this];omega
  rw[h];by_cases u:(n/2^k)%2=1
  ·simp[u]
  ·have:(n/2^k)%2=0:=by omega
   simp[this]
def BQ(n:Nat):PC prog 116 [int n] (int (pU 63 n:Nat)):=by
 have Z:=AT n 63 (Xad _);have M:=ES 63 n;refine pcd func116 rfl rfl ?_;simp only[go_sem];refine aN (iG n) ?_;simp only[go_sem,Xaa,jO,Z];generalize pU 63 n=P at *;refine⟨fun ρ _=>∃k:Nat,k<=P/\ρ 3=int k/\ρ 6=int (P:Nat)/\ρ 7=int k,fun ρ _=>P-aW (ρ 7),⟨0,Xab _,by simp only[go_sem];rfl,by simp only[go_sem],by simp only[go_sem];rfl⟩,?_⟩;rintro ρ H ⟨k,O,F,L,J⟩;simp only[go_sem,F,L,J];refine aA (fun u=>?_) (fun E=>?_)
 ·have u:=ltB u;simp only[go_sem,F,L,J,aY k];exact⟨⟨k+1,u,rfl⟩,by simp only[aF];omega⟩
 ·have E:=geB O E;subst E;simp only[go_sem,F];exact .refl _
def uI(p:Int×Int):List AV:=[int p.1,int p.2]
def Cn(m:List (Int×Int))(o:Int):Option Nat:=m.findIdx? fun p=>p.1 == o
def Ac(m:List (Int×Int))(o:Int):Int:=((m.find? fun p=>p.1 == o).map (·.2)).getD 0
def NF(m:List (Int×Int))(o v:Int):List (Int×Int):=match Cn m o with
 | some i=>m.set i (o,v)
 | none=>m++[(o,v)]
abbrev uZ(m:List (Int×Int)):Row:=⟨0,2,m.map uI⟩
def DU(o:Int):∀(m:List (Int×Int)) (i:Nat),tM (rU prog 3 (int o)) (m.map uI) i=some ((Cn m o).map (·+i))
 | [],i=>rfl
 | p::m,i=>by
  have ih:=DU o m (i+1);have u:rU prog 3 (int o) ((uI p).getD 0 .any)=some (o == p.1):=by show rU prog 3 (int o) (int p.1)=_;unfold rU;simp only[kk3];simp[rF]
  rw[Xar,tM,u];unfold Cn at *;rw[List.findIdx?_cons];by_cases h:o=p.1
  ·subst h;simp
  ·have h1:(o == p.1)=false:=by simpa using h
   have E:(p.1 == o)=false:=by simpa using fun e=>h e.symm
   rw[h1,E];simp only[Xax,if_false];rw[ih];cases m.findIdx? (fun p=>p.1 == o)with
   | none=>rfl
   | some j=>simp;omega
def kT(o:Int)(m:List (Int×Int)):tM (rU prog 3 (int o)) (m.map uI) 0=some (Cn m o):=by rw[DU];cases Cn m o <;> rfl
def mC(o:Int):lC prog 3 (int o)=true:=by simp only[lC,kk3];rfl
def AW(m:List (Int×Int))(o:Int):E4 false (int 0) (m.map uI) (Cn m o)=int (Ac m o):=by
 unfold E4 Ac Cn;induction m with
 | nil=>rfl
 | cons p m ih=>
  rw[List.findIdx?_cons,List.find?_cons];cases h:p.1 == o with
  | true=>simp[uI]
  | false=>
   cases hi:m.findIdx? (fun p=>p.1 == o)with
   | none=>rw[hi]at ih;simpa using ih
   | some j=>rw[hi]at ih;simp at ih |-;exact ih
def AE(m:List (Int×Int))(o v:Int):RB (m.map uI) (Cn m o) (int o) (int v)=(NF m o v).map uI:=by
 unfold RB NF;cases Cn m o with
 | none=>simp[uI]
 | some i=>simp[List.map_set,uI]
def CZ(k:Int):Nat:=if k=1 then 2 else if k=2 then 1 else 0
def Pl(k:Int)(P:Nat):Bool:=decide (CZ k>0)&&decide (CZ k<=P)
def BO(k:Int)(n:Nat):Int:=if Pl k (pU 63 n)=true then 1 else 0
def QK(k m:Int)(a b:Nat)(ha:a<2^63)(hb:b<2^63):PC prog 81 [.agg [int k,int a,int m],int b] (int (BO k (a &&& b))):=by
 have hs:=BQ (a &&& b);have aa:=ES 63 (a &&& b);refine pcd func81 rfl rfl ?_;simp only[go_sem];refine aL fun E J=>?_
 generalize u:aE bJ E _=HM;have L:HM E=some (uZ []):=by rw[<-u,aB];rfl
 clear u J;simp only[go_sem];refine Fc L Bf (mC _) (kT _ _) ?_;rw[AE];generalize u:aE HM E _=HN;have M:HN E=some (uZ [(1,2)]):=by rw[<-u,aB];rfl
 clear u L;simp only[go_sem];refine Fc M Bf (mC _) (kT _ _) ?_;rw[AE];generalize u:aE HN E _=HO;have Z:HO E=some (uZ [(1,2),(2,1)]):=by rw[<-u,aB];rfl
 clear u M;simp only[go_sem];refine xR Z Bf (mC _) (kT _ _) zv3 ?_;rw[AW];have hk:Ac [(1,2),(2,1)] k=(CZ k:Nat):=by
  unfold Ac CZ;by_cases h1:k=1
  ·subst h1;rfl
  ·by_cases F:k=2
   ·subst F;rfl
   ·have O:((1:Int) == k)=false:=by simpa using fun e=>h1 e.symm
    have e2:((2:Int) == k)=false:=by simpa using fun e=>F e.symm
    simp[List.find?,O,e2,h1,F]
 rw[hk];simp only[go_sem];rw[Tp ha hb];refine⟨_,fun _=>hs.q rfl,?_⟩;unfold BO;generalize pU 63 (a &&& b)=P at *;simp only[go_sem];have hc:(decide (((CZ k:Nat):Int)>0)&&decide ((P:Int)>=((CZ k:Nat):Int)))=Pl k P:=by unfold Pl;rw[Xbf];simp
 rw[hc];refine aA (fun h=>?_) (fun h=>?_)
 ·simp only[go_sem];exact cI (by rw[if_pos h])
 ·simp only[go_sem];exact cI (by rw[if_neg (by rw[h];simp)])
end Nu
end Go.Proofs.YtmhpdppobocokaaGreatDoor
