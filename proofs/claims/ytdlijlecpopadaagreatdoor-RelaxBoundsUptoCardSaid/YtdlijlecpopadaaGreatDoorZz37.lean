/- Texts joined by a program: RyS, RyA, RyB, RyC, RyE. -/
import Derived.Test.YtdlijlecpopadaaGreatDoorZz35
import Derived.Test.YtdlijlecpopadaaGreatDoorZz36

section
set_option linter.unusedSimpArgs false
set_option linter.unusedVariables false
namespace Go.Proofs.YtdlijlecpopadaaGreatDoor.Rx
open Go.Aw Go.Aw.D Go.Proofs Ty Go.Nu
set_option maxRecDepth 100000
theorem Kl(n:Int):gO (n:Rat)=zed n:=by unfold gO;rw[if_pos (Rat.den_intCast n),Rat.num_intCast]
def Sm(A D:Nat)(x:Rat):Prop:=x.den≤D∧x.num.natAbs≤A*x.den
theorem T3{n:Int}{d:Nat}(hd:d≠0):∃g:Nat,0<g∧n.natAbs=(mkRat n d).num.natAbs*g∧d=(mkRat n d).den*g:=by
 have h1:=Ja (n:=n) hd;have h2:=IS (n:=n) hd;have hg:=IJ (n:=n) hd;have dn:=Nat.gcd_dvd_left n.natAbs d;have dd:=Nat.gcd_dvd_right n.natAbs d;refine⟨Nat.gcd n.natAbs d,hg,?_,?_⟩
 · generalize Nat.gcd n.natAbs d=g at *
   rw[←h1,Int.fdiv_eq_ediv_of_nonneg _ (Int.natCast_nonneg g)];have hdvd:(g:Int)∣n:=Int.dvd_natAbs.1 (Int.natCast_dvd_natCast.2 dn);rw[Int.natAbs_ediv_of_dvd hdvd,Int.natAbs_natCast];exact(Nat.div_mul_cancel dn).symm
 · generalize Nat.gcd n.natAbs d=g at *
   rw[Int.fdiv_eq_ediv_of_nonneg _ (Int.natCast_nonneg g),←Int.natCast_ediv]at h2;have:d/g=(mkRat n d).den:=Int.ofNat.inj h2;rw[←this];exact(Nat.div_mul_cancel dd).symm
theorem T8{A B D F:Nat}{x y:Rat}(hx:Sm A D x)(hy:Sm B F y):Sm (A+B) (D*F) (x+y):=by
 obtain⟨g,hg,e1,e2⟩:=T3 (n:=x.num*y.den+y.num*x.den) (ID x y)
 rw[←D3]at e1 e2
 have hb:(x.num*y.den+y.num*x.den).natAbs≤(A+B)*(x.den*y.den):=by
   refine Nat.le_trans (Int.natAbs_add_le _ _) ?_
   rw[Int.natAbs_mul,Int.natAbs_mul,Int.natAbs_natCast,Int.natAbs_natCast,Nat.add_mul]
   refine Nat.add_le_add ?_ ?_
   · rw[←Nat.mul_assoc];exact Nat.mul_le_mul_right _ hx.2
   · rw[Nat.mul_comm x.den,←Nat.mul_assoc];exact Nat.mul_le_mul_right _ hy.2
 refine⟨?_,?_⟩
 · have : (x + y).den ≤ x.den * y.den := by
     calc (x+y).den≤(x+y).den*g:=Nat.le_mul_of_pos_right _ hg
       _=x.den*y.den:=e2.symm
   exact Nat.le_trans this (Nat.mul_le_mul hx.1 hy.1)
 · rw[e1,e2,←Nat.mul_assoc]at hb
   exact Nat.le_of_mul_le_mul_right hb hg
theorem Pf{A B D F:Nat}{x:Rat}(h:Sm A D x)(h1:A≤B)(h2:D≤F):Sm B F x:=⟨Nat.le_trans h.1 h2,Nat.le_trans h.2 (Nat.mul_le_mul_right _ h1)⟩
theorem Tz{A D:Nat}{x:Rat}(h:Sm A D x)(h1:A*D<cG)(h2:D<cG):mS x:=
 ⟨Nat.lt_of_le_of_lt (Nat.le_trans h.2 (Nat.mul_le_mul_left _ h.1)) h1,Nat.lt_of_le_of_lt h.1 h2⟩
theorem JK{A B D F:Nat}{x y:Rat}(hx:Sm A D x)(hy:Sm B F y):(x.num*y.den).natAbs≤A*(D*F)∧(y.num*x.den).natAbs≤B*(D*F)∧(x.num*y.den+y.num*x.den).natAbs≤(A+B)*(D*F)∧x.den*y.den≤D*F:=by
 have hd:=Nat.mul_le_mul hx.1 hy.1;have h1:(x.num*y.den).natAbs≤A*(x.den*y.den):=by
   rw[Int.natAbs_mul,Int.natAbs_natCast,←Nat.mul_assoc];exact Nat.mul_le_mul_right _ hx.2
 have h2:(y.num*x.den).natAbs≤B*(x.den*y.den):=by
   rw[Int.natAbs_mul,Int.natAbs_natCast,Nat.mul_comm x.den,←Nat.mul_assoc];exact Nat.mul_le_mul_right _ hy.2
 refine⟨Nat.le_trans h1 (Nat.mul_le_mul_left _ hd),Nat.le_trans h2 (Nat.mul_le_mul_left _ hd),?_,hd⟩;refine Nat.le_trans (Int.natAbs_add_le _ _) ?_;rw[Nat.add_mul];exact Nat.add_le_add (Nat.le_trans h1 (Nat.mul_le_mul_left _ hd)) (Nat.le_trans h2 (Nat.mul_le_mul_left _ hd))
theorem Ww{A B D F:Nat}{x y:Rat}(hx:Sm A D x)(hy:Sm B F y)(h:(A+B)*(D*F)<cG)(h2:D*F<cG)(sx:mS x)(sy:mS y):qR (gO x) (gO y)=(gO (x+y),0):=by
 obtain⟨p1,p2,p3,p4⟩:=JK hx hy;unfold qR;rw[kI sx,kI sy,Bool.and_self,if_pos rfl,dU,dU];refine OC (Nat.lt_of_le_of_lt p1 (Nat.lt_of_le_of_lt (Nat.mul_le_mul_right _ (Nat.le_add_right _ _)) h)) (Nat.lt_of_le_of_lt p2 (Nat.lt_of_le_of_lt (Nat.mul_le_mul_right _ (Nat.le_add_left _ _)) h)) (Nat.lt_of_le_of_lt p3 h) (Nat.lt_of_le_of_lt p4 h2)
theorem X3{s:ByteArray}(hr:bS s=true)(hs:s.size≤60):Sm (10^60) (10^60) (lF s):=by
 obtain⟨x,rfl,_,_,_⟩:=fN hr;rw[dU];have hz:∀n:Int,n.natAbs<10^60∨60<(zed n).size:=by
   intro n;by_cases h:(Lib.decDigits n.natAbs).length≤60
   · exact .inl ((iD (by decide)).1 h)
   · refine .inr ?_
     have h1:(dN (zed n)).size=(Lib.decDigits n.natAbs).length:=by rw[gY,gG]
     have h2:(dN (zed n)).size≤(zed n).size:=by
       unfold dN;split
       · rw[←cA,iN,List.length_drop,cA];omega
       · exact Nat.le_refl _
     omega
 have hden:1≤x.den:=x.den_pos;have key:x.num.natAbs<10^60∧x.den≤10^60:=by
   unfold gO at hs;split at hs
   · next h1=>
     refine⟨(hz x.num).resolve_right (by omega),?_⟩;rw[h1];exact Nat.pow_pos (by decide)
   · rw[ByteArray.size_append,ByteArray.size_append]at hs
     refine⟨(hz x.num).resolve_right (by omega),?_⟩;have:(dec x.den).size≤60:=by omega
     rw[gG]at this;exact Nat.le_of_lt ((iD (by decide)).1 this)
 refine⟨key.2,?_⟩;exact Nat.le_trans (Nat.le_of_lt key.1) (Nat.le_mul_of_pos_right _ hden)
theorem XI{A D:Nat}(h:1≤D):Sm A D 0:=⟨h,Nat.zero_le _⟩
theorem Qd(c e k:Nat)(hc:c<100)(h:2+(e+e*k)≤4096):c*10^e*(10^e)^k<cG:=by
 refine IY (k:=2+(e+e*k)) ?_ h;rw[←Nat.pow_mul,Nat.mul_assoc,←Nat.pow_add,Nat.pow_add 10 2];exact Nat.mul_lt_mul_of_pos_right hc (Nat.pow_pos (by decide))
theorem NR(e k:Nat)(h:2+(e+e*k)≤4096):(10^e)^k<cG:=by
 refine IY (k:=e*k+1) ?_ (by omega);rw[←Nat.pow_mul];exact Nat.pow_lt_pow_right (by decide) (Nat.lt_succ_self _)
theorem VL{A D:Nat}{x:Rat}(h:Sm A D x):Sm A D (-x):=by
 unfold Sm;rw[Rat.neg_num,Rat.neg_den,Int.natAbs_neg];exact h
theorem abJ{n:Int}{A:Nat}(h:n.natAbs≤A):Sm A 1 (n:Rat):=by
 unfold Sm;rw[Rat.num_intCast,Rat.den_intCast];omega
theorem WT{A B D F:Nat}{x y:Rat}(hx:Sm A D x)(hy:Sm B F y)(h:(A+B)*(D*F)<cG)(h2:D*F<cG)(sx:mS x)(sy:mS y):pZ (gO x) (gO y)=(gO (x-y),0):=by
 obtain⟨p1,p2,p3,p4⟩:=JK hx (VL hy);unfold pZ;rw[kI sx,kI sy,Bool.and_self,if_pos rfl,dU,dU,OC (Nat.lt_of_le_of_lt p1 (Nat.lt_of_le_of_lt (Nat.mul_le_mul_right _ (Nat.le_add_right _ _)) h)) (Nat.lt_of_le_of_lt p2 (Nat.lt_of_le_of_lt (Nat.mul_le_mul_right _ (Nat.le_add_left _ _)) h)) (Nat.lt_of_le_of_lt p3 h) (Nat.lt_of_le_of_lt p4 h2),Rat.sub_eq_add_neg]
def EE:Nat:=10^60
structure Vl(v:Nat)(a:ByteArray)(r:Rat):Prop where
 eq:a=gO r
 sm:Sm (v*EE) (EE^v) r
theorem SE:1≤EE:=Nat.pow_pos (by decide)
theorem Ah{v:Nat}(h:v≤60):v*EE*EE^v<cG∧EE^v<cG:=by
 have b1:=Qd v 60 v (by omega) (by omega);have b2:=NR 60 v (by omega);exact⟨b1,b2⟩
theorem Vl.small{v:Nat}{a:ByteArray}{r:Rat}(h:Vl v a r)(hv:v≤60):mS r:=Tz h.sm (Ah hv).1 (Ah hv).2
theorem Vl.right{v:Nat}{a:ByteArray}{r:Rat}(h:Vl v a r)(hv:v≤60):bS a=true:=by rw[h.eq];exact kI (h.small hv)
theorem Vl.val{v:Nat}{a:ByteArray}{r:Rat}(h:Vl v a r):lF a=r:=by rw[h.eq,dU]
theorem Vl.mono{v u:Nat}{a:ByteArray}{r:Rat}(h:Vl v a r)(hv:v≤u):Vl u a r:=⟨h.eq,Pf h.sm (Nat.mul_le_mul_right _ hv) (Nat.pow_le_pow_right SE hv)⟩
theorem Vl.add{u v:Nat}{a b:ByteArray}{r s:Rat}(ha:Vl u a r)(hb:Vl v b s)(h:u+v≤60):(qR a b).2=0∧Vl (u+v) (qR a b).1 (r+s):=by
 have hb1:=Ah h;have e1:u*EE+v*EE=(u+v)*EE:=(Nat.add_mul _ _ _).symm;have e2:EE^u*EE^v=EE^(u+v):=(Nat.pow_add _ _ _).symm;have:=Ww ha.sm hb.sm (by rw[e1,e2];exact hb1.1) (by rw[e2];exact hb1.2) (ha.small (by omega)) (hb.small (by omega));rw[←ha.eq,←hb.eq]at this;rw[this];refine⟨rfl,rfl,?_⟩;have hs:=T8 ha.sm hb.sm;rw[e1,e2]at hs;exact hs
theorem Vl.sub{u v:Nat}{a b:ByteArray}{r s:Rat}(ha:Vl u a r)(hb:Vl v b s)(h:u+v≤60):(pZ a b).2=0∧Vl (u+v) (pZ a b).1 (r-s):=by
 have hb1:=Ah h;have e1:u*EE+v*EE=(u+v)*EE:=(Nat.add_mul _ _ _).symm;have e2:EE^u*EE^v=EE^(u+v):=(Nat.pow_add _ _ _).symm;have:=WT ha.sm hb.sm (by rw[e1,e2];exact hb1.1) (by rw[e2];exact hb1.2) (ha.small (by omega)) (hb.small (by omega));rw[←ha.eq,←hb.eq]at this;rw[this];refine⟨rfl,rfl,?_⟩;have hs:=T8 ha.sm (VL hb.sm);rw[e1,e2,←Rat.sub_eq_add_neg]at hs;exact hs
theorem Vl.int{n:Int}(h:n.natAbs≤EE):Vl 1 (zed n) (n:Rat):=⟨(Kl n).symm,by rw[Nat.one_mul,Nat.pow_one];exact Pf (abJ h) (Nat.le_refl _) SE⟩
theorem S6{n:Int}(h:n.natAbs≤9223372036854775808):n.natAbs≤EE:=Nat.le_trans h (by decide)
theorem Vl.text{s:ByteArray}(hr:bS s=true)(hs:s.size≤60):Vl 1 s (lF s):=⟨(BL hr).symm,by rw[Nat.one_mul,Nat.pow_one];exact X3 hr hs⟩
theorem Vl.addV{u:Nat}{a:ByteArray}{r:Rat}{n:Int}(ha:Vl u a r)(hn:n.natAbs≤9223372036854775808)(h:u+1≤60):Vl (u+1) (addV a n) (r+(n:Rat)):=(ha.add (Vl.int (S6 hn)) h).2
theorem pT{a b:ByteArray}(ha:bS a=true)(hb:bS b=true):¬qD a b<0↔lF b≤lF a:=by
 unfold qD JG;rw[ha,hb,Bool.and_self,if_pos rfl];split
 · next h=>exact⟨fun h2=>absurd (by decide) h2,fun h2=>absurd h (Rat.not_lt.2 h2)⟩
 · next h=>
   refine⟨fun _=>Rat.not_lt.1 h,fun _=>?_⟩;split <;> decide
theorem YX{a b:ByteArray}(ha:bS a=true)(hb:bS b=true):qD a b≤0↔lF a≤lF b:=by
 unfold qD JG;rw[ha,hb,Bool.and_self,if_pos rfl];split
 · next h=>exact⟨fun _=>Rat.le_of_lt h,fun _=>by decide⟩
 · next h=>
   split
   · next h2=>exact⟨fun h3=>absurd h3 (by decide),fun h3=>absurd h2 (Rat.not_lt.2 h3)⟩
   · next h2=>exact⟨fun _=>Rat.not_lt.1 h2,fun _=>by decide⟩
end Go.Proofs.YtdlijlecpopadaaGreatDoor.Rx
end

section
set_option linter.unusedSimpArgs false
set_option linter.unusedVariables false
namespace Go.Proofs.YtdlijlecpopadaaGreatDoor.Rx
open Go.Aw Go.Aw.D Go.Proofs Ty
open Sq
open Go.Nu
set_option maxRecDepth 100000
def wS(s:Rs)(q:RP):List ByteArray:=
 if((q.visits:Int) == 0||(q.board:Int) != 0)=true then[]
 else if(fT s.x.net s.t q.place s.t.dst s.t.close q.moms).1.length=0 then[]
 else[(pZ (zed (sS s.t q (I1 (fT s.x.net s.t q.place s.t.dst s.t.close q.moms).1) (fT s.x.net s.t q.place s.t.dst s.t.close q.moms).2)) q.dual).1]
theorem TN(s:Rs)(q:RP):BP s q=(wS s q).foldl AW s:=by
 unfold BP wS;split
 · rfl
 · simp only
   split <;> rfl
def lO(w:Wk)(p:Part):List ByteArray:=if(iU w p).2.2=true then[nS w p (iU w p).1 (iU w p).2.1]else[]
def vH(w:Wk)(vs:List Visit):Nat→Part→List ByteArray
 | 0,p=>lO w p
 | f+1,p=>lO w p++vs.flatMap fun v=>if(cR w p v).2=true then vH w vs f (cR w p v).1 else[]
def Ei(s:Rs)(q:RP)(g:RP→List ByteArray):List ByteArray:=
 if ((q.visits : Int) == (s.most : Int)) = true then [] else
     (List.range s.x.orders.length).flatMap fun i=>if((aF s.x i).off|| !jU s.t.skills (aF s.x i).skills)=true then[]else
       (fC (aF s.x i) (i:Nat)).flatMap fun v=>if(gJ s q v.order.toNat v.drop).2=true then g (gJ s q v.order.toNat v.drop).1 else[]
def DG(s:Rs):Nat→RP→List ByteArray
 | 0,q=>wS s q
 | f+1,q=>wS s q++Ei s q (DG s f)
theorem DU{a:Int}{k:Nat}{n:Int}(ha: -1≤a)(hn:0≤n∧n≤1000):lA a k n=n+fM a k∧0≤fM a k∧fM a k≤1:=by
 unfold lA fM;by_cases h1:a= -1
 · subst h1
   rw[if_neg (by simp),if_neg (by simp)];omega
 · by_cases h2:a=(k:Int)
   · rw[if_neg (by simp[h2]),if_neg (by simp[h2])]
     omega
   · have h3:a≥0:=by omega
     rw[if_pos (by simp[h2,h3]),if_pos (by simp[h1,h2]),bP (by omega)];omega
structure DuB(n:Nat)(du:Option (List ByteArray))(dl:List ByteArray):Prop where
 len:dl.length=n
 some:∀l,du=some l→l=dl
 none:du=none→∀a∈dl,a=dec 0
 right:∀a∈dl,Vl 1 a (lF a)
theorem DuB.at{n:Nat}{du:Option (List ByteArray)}{dl:List ByteArray}(h:DuB n du dl){o:Nat}(ho:o<n):dl.getD o ByteArray.empty∈dl:=by
 rw[List.getD,List.getElem?_eq_getElem (by rw[h.len];exact ho)];exact List.getElem_mem _
theorem Va:dec 0=gO 0:=by
 have h1:=Kl 0;rw[show zed 0=dec 0 from dB 0]at h1;exact h1.symm
theorem wC:Vl 0 (dec 0) 0:=⟨Va,XI (Nat.le_of_eq (Nat.pow_zero _).symm)⟩
theorem HX:lF (dec 0)=0:=wC.val
structure Val(x:Instance)(k:Nat)(p:Part)(q:RP)(v d:Rat):Prop where
 own:Vl (3*q.visits+1) p.value v
 ref:Vl (q.visits+1) q.dual d
 eq:v=((((aD x k).perMile*q.miles)*16777216+(q.moved*16+q.other)*65536:Int):Rat)-d
 miles:0≤q.miles∧q.miles≤10000*(q.visits:Int)
 moved:0≤q.moved∧q.moved≤(q.visits:Int)
 other:0≤q.other∧q.other≤(q.visits:Int)
section
variable{x:Instance}{k:Nat}{near:List Int}{du:Option (List ByteArray)}{dl:List ByteArray}{M:Nat}{cn:Int}{lim fnd:Bool}{le:ByteArray}{p p':Part}{q q':RP}{o:Nat}{dr:Bool}{v d:Rat}{miles:Int}
theorem qE{a b:Int}(ha:0≤a∧a≤100){c:Int}(hb:0≤b∧b≤c):0≤a*b∧a*b≤100*c:=⟨Int.mul_nonneg ha.1 hb.1,Int.mul_le_mul ha.2 hb.2 hb.1 (by decide)⟩
theorem Qp(h : Ctx x k near)(hd : DuB x.orders.length du dl)(ho : o < x.orders.length)(hv : Val x k p q v d)(h16 : q.visits ≤ 15)(a : Adds x k dl p p' q q' o dr (rC x k near du p q o dr).value miles):
   ∃vb db,Vl (3*q.visits+3) (rC x k near du p q o dr).value vb∧Vl (q.visits+2) q'.dual db∧vb=((((aD x k).perMile*q.miles)*16777216+(q'.moved*16+q'.other)*65536:Int):Rat)-db ∧
     (0≤q'.moved∧q'.moved≤(q.visits:Int)+1)∧(0≤q'.other∧q'.other≤(q.visits:Int)+1):=by
 have hm:=hv.moved;have ho2:=hv.other;have hO:=h.led _ (kU ho);have hD:=hd.at ho;have hDr:=hd.right _ hD;have a1:=a.dual;have a2:=a.moved;have a3:=a.other;unfold rC;simp only;cases hs:cQ (aF x o) dr with
 | false=>
   rw[hs]at a1 a2 a3;simp only[Bool.false_eq_true,if_false]at a1 a2 a3 ⊢;rw[a1,a2,a3];exact⟨v,d,hv.own.mono (by omega),hv.ref.mono (by omega),hv.eq,by omega,by omega⟩
 | true=>
   rw[hs]at a1 a2 a3;simp only[if_true]at a1 a2 a3 ⊢;obtain⟨m1,m2⟩:=DU (k:=k) hO.2 (show 0≤q.moved∧q.moved≤1000 by omega);obtain⟨m3,m4⟩:=DU (k:=k) hO.1 (show 0≤q.other∧q.other≤1000 by omega);rw[m1]at a2;rw[m3]at a3;rw[a1,a2,a3];have e:=hv.eq;generalize fM (aF x o).now k=dn at *;generalize fM (aF x o).last k=dl2 at *;have hT:=hDr;have w1:=hv.own.addV (n:=(dn*16+dl2)*65536) (by omega) (by omega);have w2:=(hv.ref.add hT (by omega)).2;have hnone:du=none→dl.getD o ByteArray.empty=dec 0:=fun e=>hd.none e _ hD
   have hsome:=hd.some;generalize hDD:dl.getD o ByteArray.empty=D at *;have key:Vl (3*q.visits+1+1+1) (yH (addV p.value ((dn*16+dl2)*65536)) o du) (v+(((dn*16+dl2)*65536:Int):Rat)-lF D):=by
     cases du with
     | none=>
       rw[hnone rfl,HX,Rat.sub_eq_add_neg,Rat.neg_zero,Rat.add_zero];exact w1.mono (by omega)
     | some l=>
       have hl:=hsome l rfl;subst hl;show Vl _ (pZ (addV p.value ((dn*16+dl2)*65536)) (l.getD o ByteArray.empty)).1 _;rw[hDD];exact(w1.sub hT (by omega)).2
   refine⟨_,_,key.mono (by omega),w2.mono (by omega),?_,by omega,by omega⟩;generalize lF D=rD at *;generalize (aD x k).perMile*q.miles=PM at *;have e2:PM*16777216+((q.moved+dn)*16+(q.other+dl2))*65536=(PM*16777216+(q.moved*16+q.other)*65536)+(dn*16+dl2)*65536:=by omega
   rw[e2];generalize PM*16777216+(q.moved*16+q.other)*65536=z at *;generalize (dn*16+dl2)*65536=y at *
   grind
theorem JE(h : Ctx x k near)(hd : DuB x.orders.length du dl)(ho : o < x.orders.length)(hv : Val x k p q v d)(h16 : q.visits ≤ 15)(hq : q'.visits = q.visits + 1)(a : Adds x k dl p p' q q' o dr (rC x k near du p q o dr).value miles):
   ∃v' d',Val x k p' q' v' d':=by
 obtain⟨vb,db,b1,b2,b3,b4,b5⟩:=Qp h hd ho hv h16 a;have hp:=h.money.2.1;have hr:=a.rng;have hm:=hv.miles;have hbx:=qE hp hr;have a1:=a.value;have a2:=a.miles;rw[bP (by omega)]at a2;have e1:W ((aD x k).perMile*miles)=(aD x k).perMile*miles:=bP (by omega);have e3:=Int.mul_add (aD x k).perMile q.miles miles;rw[e1]at a1;rw[←a2]at e3;generalize (aD x k).perMile*q.miles=PM at *;generalize hpm:(aD x k).perMile*miles=pm at *;have e2:W (pm*16777216)=pm*16777216:=bP (by omega);rw[e2]at a1;have w:=b1.addV (n:=pm*16777216) (by omega) (by omega);rw[←a1]at w;refine⟨_,db,w.mono (by omega),b2.mono (by omega),?_,by omega,by omega,by omega⟩;rw[e3,b3];have e4:(PM+pm)*16777216+(q'.moved*16+q'.other)*65536=(PM*16777216+(q'.moved*16+q'.other)*65536)+pm*16777216:=by omega
 rw[e4];generalize PM*16777216+(q'.moved*16+q'.other)*65536=z at *;generalize pm*16777216=y at *
 grind
end
end Go.Proofs.YtdlijlecpopadaaGreatDoor.Rx
end

section
set_option linter.unusedSimpArgs false
set_option linter.unusedVariables false
namespace Go.Proofs.YtdlijlecpopadaaGreatDoor.Rx
open Go.Aw Go.Aw.D Go.Proofs Ty
open Sq
open Go.Nu
set_option maxRecDepth 100000
theorem Ta{n:Int}(h: -4096≤n∧n≤4096): -64≤Int.tdiv n 64∧Int.tdiv n 64≤64:=by
 by_cases h0:0≤n
 · rw[Int.tdiv_eq_ediv_of_nonneg h0];omega
 · have e:Int.tdiv n 64= -(Int.tdiv (-n) 64):=by rw[Int.neg_tdiv];omega
   rw[e,Int.tdiv_eq_ediv_of_nonneg (by omega)];omega
theorem Vd{n:Int}(h: -64≤n∧n≤64):0≤n*n∧n*n≤4096:=by
 have e:n*n=((n.natAbs*n.natAbs:Nat):Int):=by rw[Int.natCast_mul,Int.natAbs_mul_self']
 have:=Nat.mul_le_mul (show n.natAbs≤64 by omega) (show n.natAbs≤64 by omega);rw[e];omega
def sqW(e s:Int):Int:=Int.tdiv (e-s) 64*Int.tdiv (e-s) 64
section
variable{x:Instance}{k:Nat}{near:List Int}{du:Option (List ByteArray)}{dl:List ByteArray}{M:Nat}{cn:Int}{lim fnd:Bool}{le:ByteArray}{p p':Part}{q q':RP}{o:Nat}{dr:Bool}{v d:Rat}{miles:Int}
theorem xI(h : Ctx x k near){n : Nat}(hn : n ≤ 50)(hv : Vl n p.value v){e m : Int}(he : 0 ≤ e ∧ e ≤ 4096)(hm : 0 ≤ m ∧ m ≤ 10000):
   Vl (n+1) (nS (wOf x k near du M) p e m) (v+(((((aD x k).fixed+(aD x k).perMile*m)+(aD x k).perTick*(e-(aD x k).start))*16777216+sqW e (aD x k).start:Int):Rat)):=by
 have hT:=h.ty;have h1:=hT.start;have h2:=hT.close;obtain⟨f1,f2,f3⟩:=h.money;have b1:=qE f2 hm;have hw: -4096≤e-(aD x k).start∧e-(aD x k).start≤4096:=by omega
 have b2: -409600≤(aD x k).perTick*(e-(aD x k).start)∧(aD x k).perTick*(e-(aD x k).start)≤409600:=by
   by_cases h0:0≤e-(aD x k).start
   · have:=qE f3 (c:=4096) ⟨h0,hw.2⟩;omega
   · have:=qE f3 (b:= -(e-(aD x k).start)) (c:=4096) ⟨by omega,by omega⟩
     rw[Int.mul_neg]at this;omega
 have b3:=Ta hw;have b4:=Vd b3;unfold nS SX G3;show Vl (n+1) (addV p.value (W (W (W (W ((aD x k).fixed+W ((aD x k).perMile*m))+W ((aD x k).perTick*W (e-(aD x k).start)))*16777216)+W (W (Int.tdiv (W (e-(aD x k).start)) 64)*W (Int.tdiv (W (e-(aD x k).start)) 64))))) _;rw[bP (n:=e-(aD x k).start) (by omega)];unfold sqW;generalize (aD x k).perTick*(e-(aD x k).start)=pt at *;generalize (aD x k).perMile*m=pm at *;generalize Int.tdiv (e-(aD x k).start) 64=tt at *;rw[bP (n:=tt) (by omega)];generalize tt*tt=t2 at *;rw[bP (n:=pm) (by omega),bP (n:=pt) (by omega),bP (n:=t2) (by omega),bP (n:=(aD x k).fixed+pm) (by omega),bP (n:=(aD x k).fixed+pm+pt) (by omega),bP (n:=((aD x k).fixed+pm+pt)*16777216) (by omega),bP (n:=((aD x k).fixed+pm+pt)*16777216+t2) (by omega)];exact hv.addV (by omega) (by omega)
theorem Ge(h : Ctx x k near)(r : Rel x (aD x k) p q)(hv : Val x k p q v d)(h16 : q.visits ≤ 16):
   lO (wOf x k near du M) p=wS (sOf x k near dl M cn lim fnd le) q:=by
 obtain⟨R,hR,hq⟩:=r.clk;have hT:=h.ty;have hpv:=r.visits;obtain⟨c1,c2⟩:=Pn (place:=p.place) (goal:=(aD x k).dst) (fun a ha=>h.acc.arc a ha) hT.rest (show p.visits≤16 by omega) hR (aD x k).close;have hra:∀a∈(fT x.net (aD x k) p.place (aD x k).dst (aD x k).close q.moms).1,0≤a.time∧a.time≤4096:=fun a hm=>by
   rw[hq,(tI _ _ _ _ _ _).1]at hm;obtain⟨g1,g2,_⟩:=Ho (fun a ha=>h.acc.arc a ha) hT.rest (show p.visits≤16 by omega) hR hm;have:=hT.close;omega
 have hmi:(fT x.net (aD x k) p.place (aD x k).dst (aD x k).close q.moms).1≠[]→0≤(fT x.net (aD x k) p.place (aD x k).dst (aD x k).close q.moms).2∧(fT x.net (aD x k) p.place (aD x k).dst (aD x k).close q.moms).2≤10000:=fun hne=>by
   rw[(tI _ _ _ _ _ _).2 hne];exact CX h.mil _ _ _
 rw[←hq]at c1 c2;have eE:iU (wOf x k near du M) p=if((p.visits:Int) == 0||(p.board:Int) != 0)=true then(0,0,false)
   else((bH x.net (aD x k) p.place (aD x k).dst p.clocks).1.foldl (lJ (aD x k).close) (-1),(bH x.net (aD x k) p.place (aD x k).dst p.clocks).2,decide ((bH x.net (aD x k) p.place (aD x k).dst p.clocks).1.foldl (lJ (aD x k).close) (-1)≥0)):=rfl
 unfold lO wS;rw[eE,r.visits,r.board];by_cases hb:((q.visits:Int) == 0||(q.board:Int) != 0)=true
 · rw[if_pos hb,if_pos hb];rfl
 rw[if_neg hb,if_neg hb,←r.place];simp only;generalize bH x.net (aD x k) p.place (aD x k).dst p.clocks=D at *;generalize fT x.net (aD x k) p.place (aD x k).dst (aD x k).close q.moms=A at *;by_cases hA:A.1=[]
 · have hD:¬D.1.foldl (lJ (aD x k).close) (-1)≥0:=fun hc=>c1.1 hc hA
   rw[if_neg (by simpa using hD),if_pos (by rw[hA];rfl)]
 have hA0:¬A.1.length=0:=fun e=>hA (List.length_eq_zero_iff.1 e)
 obtain⟨c3,c4⟩:=c2 hA;rw[if_pos (by rw[decide_eq_true_eq];exact c1.2 hA),if_neg hA0,c3,c4];obtain⟨⟨a,ha,hae⟩,_⟩:=BE hA;have he:=hra a ha;rw[hae]at he;have hm:=hmi hA;generalize A.2=m at *;generalize I1 A.1=e at *;have hP:=xI (du:=du) (M:=M) h (n:=3*q.visits+1) (by omega) hv.own he hm;refine congrArg (fun a=>[a]) ?_;rw[hP.eq];have h1:=hT.start;have h2:=hT.close;obtain⟨f1,f2,f3⟩:=h.money;have hqm:=hv.miles;have hmo:=hv.moved;have hot:=hv.other;have b1:=qE f2 hm;have b0:=qE f2 (b:=q.miles) (c:=160000) ⟨by omega,by omega⟩;have hw: -4096≤e-(aD x k).start∧e-(aD x k).start≤4096:=by omega
 have b2: -409600≤(aD x k).perTick*(e-(aD x k).start)∧(aD x k).perTick*(e-(aD x k).start)≤409600:=by
   by_cases h0:0≤e-(aD x k).start
   · have:=qE f3 (c:=4096) ⟨h0,hw.2⟩;omega
   · have:=qE f3 (b:= -(e-(aD x k).start)) (c:=4096) ⟨by omega,by omega⟩
     rw[Int.mul_neg]at this;omega
 have b3:=Ta hw;have b4:=Vd b3;have e1:=Int.mul_add (aD x k).perMile q.miles m;have hpr:sS (aD x k) q e m=((((aD x k).fixed+((aD x k).perMile*q.miles+(aD x k).perMile*m)+(aD x k).perTick*(e-(aD x k).start))*16+q.moved)*16+q.other)*65536+sqW e (aD x k).start:=by
   unfold sS SZ Gp sqW;rw[bP (n:=e-(aD x k).start) (by omega),bP (n:=q.miles+m) (by omega),e1];generalize (aD x k).perTick*(e-(aD x k).start)=pt at *;generalize (aD x k).perMile*q.miles=PM at *;generalize (aD x k).perMile*m=pm at *;generalize Int.tdiv (e-(aD x k).start) 64=tt at *;rw[bP (n:=tt) (by omega)];generalize tt*tt=t2 at *;generalize (aD x k).fixed=fx at *;rw[bP (n:=PM+pm) (by omega),bP (n:=pt) (by omega),bP (n:=t2) (by omega),bP (n:=fx+(PM+pm)) (by omega),bP (n:=fx+(PM+pm)+pt) (by omega),bP (n:=(fx+(PM+pm)+pt)*16) (by omega),bP (n:=(fx+(PM+pm)+pt)*16+q.moved) (by omega),bP (n:=((fx+(PM+pm)+pt)*16+q.moved)*16) (by omega),bP (n:=((fx+(PM+pm)+pt)*16+q.moved)*16+q.other) (by omega),bP (n:=(((fx+(PM+pm)+pt)*16+q.moved)*16+q.other)*65536) (by omega),bP (by omega)]
 show _=(pZ (zed (sS (aD x k) q e m)) q.dual).1;have hQ:=hv.eq;have b5:0≤sqW e (aD x k).start∧sqW e (aD x k).start≤4096:=b4;have hz:(sS (aD x k) q e m).natAbs≤EE:=S6 (by rw[hpr];omega);have hS:=(Vl.sub (Vl.int hz) hv.ref (by omega)).2;rw[hS.eq]
 congr 1
 rw[hpr,hQ];generalize (aD x k).perTick*(e-(aD x k).start)=pt at *;generalize (aD x k).perMile*q.miles=PM at *;generalize (aD x k).perMile*m=pm at *;generalize sqW e (aD x k).start=t2 at *;generalize (aD x k).fixed=fx at *;have e9:(((fx+(PM+pm)+pt)*16+q.moved)*16+q.other)*65536+t2=(PM*16777216+(q.moved*16+q.other)*65536)+((fx+pm+pt)*16777216+t2):=by omega
 rw[e9];generalize PM*16777216+(q.moved*16+q.other)*65536=z at *;generalize (fx+pm+pt)*16777216+t2=y at *
 grind
theorem uO{α β:Type}{f g:α→List β}:∀{l:List α},(∀a∈l,f a=g a)→l.flatMap f=l.flatMap g
 | [],_=>rfl
 | a::l,h=>by rw[List.flatMap_cons,List.flatMap_cons,h a (by simp),uO (fun b hb=>h b (by simp[hb]))]
theorem As{α β:Type}{f:α→List β}{l:List α}(h:∀a∈l,f a=[]):l.flatMap f=[]:=List.flatMap_eq_nil_iff.2 h
theorem Hz{O:Order}{i:Nat}{v:Visit}(h:v∈fC O (i:Nat)):∃d,v=⟨(i:Nat),d⟩∧(stR O d).place≥0:=by
 unfold fC at h;rcases List.mem_append.1 h with h|h
 · split at h
   · next hb=>exact⟨false,by simpa using h,by simpa[stR]using hb⟩
   · cases h
 · split at h
   · next hb=>exact⟨true,by simpa using h,by simpa[stR]using hb⟩
   · cases h
theorem Lg{w:Wk}{p:Part}{v:Visit}(h:((aF w.x v.order.toNat).off|| !nN w.t.skills (aF w.x v.order.toNat).skills)=true):(cR w p v).2=false:=by
 unfold cR;rw[if_pos (by rw[Bool.or_assoc,h,Bool.or_true])]
theorem XG(w : Wk)(p : Part)(g : Part → List ByteArray)(hs : ∀ o ∈ w.x.orders, 0 ≤ o.skills ∧ o.skills ≤ 1073741823)(ht : 0 ≤ w.t.skills ∧ w.t.skills ≤ 1073741823):
   ((cZ w.x).flatMap fun v=>if(cR w p v).2=true then g (cR w p v).1 else[]) =
   (List.range w.x.orders.length).flatMap fun i => if ((aF w.x i).off || !jU w.t.skills (aF w.x i).skills) = true then [] else
       (fC (aF w.x i) (i:Nat)).flatMap fun v=>if(cR w p v).2=true then g (cR w p v).1 else[]:=by
 unfold cZ;rw[List.flatMap_assoc];refine uO fun i hi=>?_
 have hi:=List.mem_range.1 hi;rw[Hy hi];have hab:=yC ht (hs _ (kU hi));rw[←hab];by_cases hb:((aF w.x i).off|| !nN w.t.skills (aF w.x i).skills)=true
 · rw[if_pos hb]
   refine As fun v hv=>?_
   have hvi:v.order.toNat=i:=by
     split at hv
     · cases hv
     · obtain⟨d,rfl,_⟩:=Hz hv;exact Int.toNat_natCast i
   rw[if_neg];rw[Lg (by rw[hvi];exact hb)];simp
 · rw[if_neg hb]
   rw[if_neg (by intro e;rw[e]at hb;exact hb rfl)]
theorem Gj(h : Ctx x k near)(hd : DuB x.orders.length du dl)(hM : M ≤ 15): ∀ (f : Nat) (p : Part) (q : RP), Rel x (aD x k) p q → (∃ v d, Val x k p q v d) → q.visits ≤ M →
   vH (wOf x k near du M) (cZ x) f p=DG (sOf x k near dl M cn lim fnd le) f q
 | 0,p,q,r,hv,hq=>by
   obtain⟨v,d,hv⟩:=hv;exact Ge h r hv (by omega)
 | f+1,p,q,r,hv,hq=>by
   obtain⟨v,d,hv⟩:=hv;show lO _ p++_=wS _ q++Ei _ q (DG _ f);rw[Ge h r hv (by omega) (cn:=cn) (lim:=lim) (fnd:=fnd) (le:=le) (dl:=dl)]
   congr 1
   unfold Ei;by_cases hvis:q.visits=M
   · rw[if_pos (by simp[hvis])]
     refine As fun u hu=>?_
     rw[if_neg];rw[Dr (by show M≤p.visits;rw[r.visits,hvis];exact Nat.le_refl _)];simp
   · rw[if_neg (by simp;omega)]
     have hT:=h.ty;refine(XG (wOf x k near du M) p _ (fun o ho=>(h.acc.order o ho).skills) hT.skills).trans ?_;refine uO fun i hi=>?_
     have hi:i<x.orders.length:=List.mem_range.1 hi;show(if((aF x i).off|| !jU (aD x k).skills (aF x i).skills)=true then[]else _)=(if((aF x i).off|| !jU (aD x k).skills (aF x i).skills)=true then[]else _);by_cases hb:((aF x i).off|| !jU (aD x k).skills (aF x i).skills)=true
     · rw[if_pos hb,if_pos hb]
     · rw[if_neg hb,if_neg hb]
       simp only[Bool.or_eq_true,not_or,Bool.not_eq_true,Bool.not_eq_false']at hb;refine uO fun u hu=>?_
       obtain⟨dr,rfl,hpl⟩:=Hz hu;obtain⟨n1,n2⟩:=Jw (near:=near) (du:=du) (dl:=dl) (M:=M) (cn:=cn) (lim:=lim) (fnd:=fnd) (le:=le) h r hi hpl hb.1 hb.2 (by rw[r.visits];omega) (by omega);show(if _ then _ else _)=(if(gJ (sOf x k near dl M cn lim fnd le) q ((i:Nat):Int).toNat dr).2=true then DG _ f (gJ (sOf x k near dl M cn lim fnd le) q ((i:Nat):Int).toNat dr).1 else[]);rw[Int.toNat_natCast,←n1];split
       · next hn=>
         obtain⟨r',v1,miles,a⟩:=n2 hn;have hqv:(gJ (sOf x k near dl M cn lim fnd le) q i dr).1.visits=q.visits+1:=by rw[←r'.visits,v1,r.visits]
         exact Gj h hd hM f _ _ r' (JE h hd hi hv (by omega) hqv a) (by omega)
       · rfl
theorem GF(h:Ctx x k near):Rel x (aD x k) (eU (wOf x k near du M)) (zO (aD x k) (aD x k).cap.length)∧Val x k (eU (wOf x k near du M)) (zO (aD x k) (aD x k).cap.length) 0 0:=by
 have hT:=h.ty;have h1:=hT.start;have h2:=hT.close;refine⟨⟨rfl,rfl,rfl,rfl,rfl,?_,Nat.two_pow_pos _,⟨[⟨(aD x k).start,0⟩],⟨?_,?_,?_⟩,rfl⟩⟩,⟨wC.mono (by omega),wC.mono (by omega),?_,?_,?_,?_⟩⟩
 · show(List.replicate (aD x k).cap.length (0:Int)).length=A1 x
   rw[List.length_replicate,CR h.acc h.kind]
 · intro c hc
   have:c=⟨(aD x k).start,0⟩:=List.mem_singleton.1 hc;rw[this];exact List.mem_singleton.2 rfl
 · intro m hm
   rw[List.mem_singleton.1 hm];exact⟨⟨(aD x k).start,0⟩,List.mem_singleton.2 rfl,rfl,Int.le_refl _⟩
 · intro m hm
   rw[List.mem_singleton.1 hm];refine⟨⟨h1.1,by show(aD x k).start≤8192;omega⟩,?_,by show(0:Int)≤4096;decide⟩;show -(12288*((0:Nat):Int))≤0;omega
 · show(0:Rat)=(((aD x k).perMile*0*16777216+(0*16+0)*65536:Int):Rat)-0
   rw[Int.mul_zero];grind
 · exact⟨Int.le_refl 0,by show(0:Int)≤10000*((0:Nat):Int);omega⟩
 · exact⟨Int.le_refl 0,by show(0:Int)≤((0:Nat):Int);omega⟩
 · exact⟨Int.le_refl 0,by show(0:Int)≤((0:Nat):Int);omega⟩
theorem TK{x:Instance}:mF x x.orders.length=(cZ x).length:=by
 have:∀n,n≤x.orders.length→mF x n=((List.range n).flatMap fun i=>if(aF x i).off=true then[]else jX x.orders (i:Nat)).length:=by
   intro n;induction n with
   | zero=>intro _;rfl
   | succ n ih=>
     intro hn;rw[vQ,ih (by omega),List.range_succ,List.flatMap_append,List.length_append,List.flatMap_singleton];unfold Lv;rw[Hy (by omega)];split
     · rfl
     · rfl
 exact this _ (Nat.le_refl _)
end
end Go.Proofs.YtdlijlecpopadaaGreatDoor.Rx
end

section
set_option linter.unusedSimpArgs false
set_option linter.unusedVariables false
namespace Go.Proofs.YtdlijlecpopadaaGreatDoor.Rx
open Go.Aw Go.Aw.D Go.Proofs Ty
open Sq
open Go.Nu
set_option maxRecDepth 100000
structure Cap(n:Int)(t:Nat)(r:Int):Prop where
 lo:n≤r
 hi:r≤n+t
 eq:n+t≤8192→r=n+t
 gt:n+t>8192→r>8192
theorem Same.leaf{w a:Rs}(h:Same w a)(q:RP):wS a q=wS w q:=by
 obtain⟨c,f,l,rfl⟩:=h.ex;rfl
theorem Same.visit{w a:Rs}(h:Same w a)(q:RP)(o:Nat)(d:Bool):gJ a q o d=gJ w q o d:=by
 obtain⟨c,f,l,rfl⟩:=h.ex;rfl
def TC(w:Rs):Nat→RP→List ByteArray
 | 0,_=>[]
 | f+1,q=>DG w f q
theorem Sp(w:Rs)(f:Nat)(q:RP):DG w f q=wS w q++Ei w q (TC w f):=by
 cases f with
 | zero=>
   show wS w q=_;have:Ei w q (TC w 0)=[]:=by
     unfold Ei;split
     · rfl
     · refine As fun i _=>?_
       split
       · rfl
       · exact As fun v _=>by split <;> rfl
   rw[this,List.append_nil]
 | succ f=>rfl
theorem WJ{x:Instance}(hn:x.orders.length≤3):(cZ x).length≤6:=by
 have:=An x x.orders.length;unfold cZ;omega
end Go.Proofs.YtdlijlecpopadaaGreatDoor.Rx
end

section
set_option linter.unusedSimpArgs false
set_option linter.unusedVariables false
namespace Go.Proofs.YtdlijlecpopadaaGreatDoor.Rx
open Go.Aw Go.Aw.D Go.Proofs Ty
open Sq
open Go.Nu
set_option maxRecDepth 100000
theorem Bl{α β γ:Type}(g:γ→β→γ)(f:α→List β):∀(l:List α) (a:γ),(l.flatMap f).foldl g a=l.foldl (fun a v=>(f v).foldl g a) a
 | [],_=>rfl
 | v::l,a=>by rw[List.flatMap_cons,List.foldl_append,List.foldl_cons,Bl g f l]
theorem zH{α γ:Type}{I:γ→Prop}{g g':γ→α→γ}:∀(l:List α) (a:γ),I a→(∀a v,v∈l→I a→g a v=g' a v∧I (g a v))→l.foldl g a=l.foldl g' a
 | [],_,_,_=>rfl
 | v::l,a,ha,h=>by
   obtain⟨h1,h2⟩:=h a v (by simp) ha;rw[List.foldl_cons,List.foldl_cons,←h1];exact zH l (g a v) h2 fun b u hu hb=>h b u (by simp[hu]) hb
theorem KF{w:Rs}(hl:w.limited=false):∀(f:Nat) (q:RP) (a:Rs),Same w a→IR f a q=(DG w f q).foldl AW a
 | f,q,a,ha=>by
   have hrec:∀(q:RP) (a:Rs),Same w a→wR f a q=(TC w f q).foldl AW a:=by
     cases f with
     | zero=>exact fun q a _=>rfl
     | succ f=>exact fun q a h1=>KF hl f q a h1
   rw[Sp,List.foldl_append,Po,←ha.leaf q,←TN];obtain⟨s1,s2,s3,s4,s5⟩:=ha.st;have hsm:=ha.trans (Dh a q ha.sz);unfold Kn Ei;rw[s3,s4,hl,Bool.false_and,Bool.or_false,s1];by_cases hb:((q.visits:Int) == (w.most:Int))=true
   · rw[if_pos hb,if_pos hb];rfl
   rw[if_neg hb,if_neg hb,Bl];refine zH (I:=Same w) _ _ hsm fun b i _ hbs=>⟨?_,hbs.trans (Qh f q b i hbs.sz)⟩
   obtain⟨t1,t2,t3,t4,t5⟩:=hbs.st;unfold EP;rw[t1,t2];by_cases hof:((aF w.x i).off|| !jU w.t.skills (aF w.x i).skills)=true
   · rw[if_pos hof,if_pos hof];rfl
   rw[if_neg hof,if_neg hof,Bl];refine zH (I:=Same w) _ _ hbs fun c v _ hcs=>⟨?_,hcs.trans (BQ f q c v hcs.sz)⟩
   unfold El;rw[hcs.visit];by_cases hv:(gJ w q v.order.toNat v.drop).2=true
   · rw[if_pos hv,if_pos hv]
     exact hrec _ c hcs
   · rw[if_neg hv,if_neg hv];rfl
structure Min(l:List ByteArray)(found:Bool)(best:ByteArray):Prop where
 no:found=false→l=[]∧best=ByteArray.empty
 yes:found=true→best∈l∧∀r∈l,¬qD r best<0
def Fe(l:List ByteArray):Prop:=∀a∈l,bS a=true
theorem Min.uniq{l:List ByteArray}(hn:Fe l){f g:Bool}{a b:ByteArray}(h1:Min l f a)(h2:Min l g b):f=g∧a=b:=by
 cases f with
 | false=>
   obtain⟨e1,e2⟩:=h1.no rfl;cases g with
   | false=>exact⟨rfl,by rw[e2,(h2.no rfl).2]⟩
   | true=>have:=(h2.yes rfl).1;rw[e1]at this;cases this
 | true=>
   obtain⟨m1,c1⟩:=h1.yes rfl;cases g with
   | false=>rw[(h2.no rfl).1]at m1;cases m1
   | true=>
     obtain⟨m2,c2⟩:=h2.yes rfl;have q1:=(pT (hn _ m2) (hn _ m1)).1 (c1 _ m2);have q2:=(pT (hn _ m1) (hn _ m2)).1 (c2 _ m1);refine⟨rfl,?_⟩;rw[←BL (hn _ m1),←BL (hn _ m2),Rat.le_antisymm q1 q2]
theorem Jk:∀(l P:List ByteArray) (a:Rs),Fe (P++l)→Min P a.found a.least→Min (P++l) (l.foldl AW a).found (l.foldl AW a).least
 | [],P,a,_,h=>by rw[List.append_nil];exact h
 | v::l,P,a,hn,h=>by
   have key:Min (P++[v]) (AW a v).found (AW a v).least:=by
     unfold AW;split
     · next hb=>
       refine⟨fun e=>(by cases e),fun _=>⟨by simp,fun r hr=>?_⟩⟩;rcases List.mem_append.1 hr with hr|hr
       · cases hf:a.found with
         | false=>rw[(h.no hf).1]at hr;cases hr
         | true=>
           obtain⟨m1,c1⟩:=h.yes hf;rw[hf]at hb;have hb:qD v a.least<0:=by simpa using hb
           have q1:=(pT (hn _ (by simp[hr])) (hn _ (by simp[m1]))).1 (c1 r hr);have rv:=hn v (by simp);have ra:=hn a.least (by simp[m1]);have q2:¬lF a.least≤lF v:=fun hc=>(pT rv ra).2 hc hb
           show ¬qD r v<0;rw[pT (hn _ (by simp[hr])) rv]
           grind
       · rw[List.mem_singleton.1 hr]
         have rv:=hn v (by simp);show ¬qD v v<0;rw[pT rv rv];exact Rat.le_refl
     · next hb=>
       simp only[Bool.or_eq_true,not_or,Bool.not_eq_true',decide_eq_true_eq]at hb;have hf:a.found=true:=by simpa using hb.1
       obtain⟨m1,c1⟩:=h.yes hf;refine⟨fun e=>(by rw[show a.found=false from e]at hf;cases hf),fun _=>⟨List.mem_append_left _ m1,fun r hr=>?_⟩⟩;rcases List.mem_append.1 hr with hr|hr
       · exact c1 r hr
       · rw[List.mem_singleton.1 hr];exact hb.2
   have:=Jk l (P++[v]) (AW a v) (by rw[List.append_assoc];exact hn) key;rw[List.append_assoc]at this;exact this
section
variable{x:Instance}{k:Nat}{near:List Int}{du:Option (List ByteArray)}{dl:List ByteArray}{M:Nat}{cn:Int}{lim fnd:Bool}{le:ByteArray}{p p':Part}{q q':RP}{o:Nat}{dr:Bool}{v d:Rat}{miles:Int}
def Ok(x:Instance)(k:Nat)(M:Nat)(p:Part):Prop:=∃q,Rel x (aD x k) p q∧(∃v d,Val x k p q v d)∧q.visits≤M
theorem Ag(h:Ctx x k near):Ok x k M (eU (wOf x k near du M)):=by
 obtain⟨r,v⟩:=GF (du:=du) (M:=M) h;exact⟨_,r,⟨_,_,v⟩,Nat.zero_le _⟩
def Vis(x:Instance)(v:Visit):Prop:=∃i d,v=⟨(i:Nat),d⟩∧i<x.orders.length∧(stR (aF x i) d).place≥0∧(aF x i).off=false
theorem CK{v:Visit}(hv:v∈cZ x):Vis x v:=by
 unfold cZ at hv;obtain⟨i,hi,hv⟩:=List.mem_flatMap.1 hv;have hi:=List.mem_range.1 hi;split at hv
 · cases hv
 · next ho=>
   rw[Hy hi]at hv;obtain⟨d,e,hp⟩:=Hz hv;exact⟨i,d,e,hi,hp,by simpa using ho⟩
theorem BS{w:Wk}{p:Part}{v:Visit}(h:(cR w p v).2=true):nN w.t.skills (aF w.x v.order.toNat).skills=true∧p.visits<w.most:=by
 refine⟨?_,?_⟩
 · rw[←Bool.not_eq_false]
   intro e;rw[Lg (by rw[e];simp)]at h;cases h
 · rcases Nat.lt_or_ge p.visits w.most with h1|h1
   · exact h1
   · rw[Dr h1]at h;cases h
theorem OM(h : Ctx x k near)(hd : DuB x.orders.length du dl)(hM : M ≤ 15)(hp : Ok x k M p){u : Visit}(hu : Vis x u)(hn : (cR (wOf x k near du M) p u).2 = true):
   Ok x k M (cR (wOf x k near du M) p u).1∧(cR (wOf x k near du M) p u).1.visits=p.visits+1:=by
 obtain⟨q,r,⟨v,d,hv⟩,hq⟩:=hp;obtain⟨i,dr,rfl,hi,hpl,hof⟩:=hu;obtain⟨ha,hl⟩:=BS hn;have ha:nN (aD x k).skills (aF x ((i:Nat):Int).toNat).skills=true:=ha;have hl:p.visits<M:=hl;rw[Int.toNat_natCast,yC h.ty.skills (h.acc.order _ (kU hi)).skills]at ha;obtain⟨n1,n2⟩:=Jw (near:=near) (du:=du) (dl:=dl) (M:=M) (cn:=0) (lim:=false) (fnd:=false) (le:=ByteArray.empty) h r hi hpl hof ha hl (by omega);obtain⟨r',v1,miles,a⟩:=n2 hn;have hv0:=r.visits;have hqv:(gJ (sOf x k near dl M 0 false false ByteArray.empty) q i dr).1.visits=q.visits+1:=by rw[←r'.visits,v1,r.visits]
 exact⟨⟨_,r',JE h hd hi hv (by omega) hqv a,by omega⟩,v1⟩
theorem C8(h:Ctx x k near)(hM:M≤15)(hp:Ok x k M p)(he:(iU (wOf x k near du M) p).2.2=true):∃v m,Vl (3*p.visits+1) p.value v∧(0≤(iU (wOf x k near du M) p).1∧(iU (wOf x k near du M) p).1≤4096)∧m=(iU (wOf x k near du M) p).2.1∧m=mil x.net (aD x k) p.place (aD x k).dst∧(0≤m∧m≤10000):=by
 obtain⟨q,r,⟨v,d,hv⟩,hq⟩:=hp;obtain⟨R,hR,hq2⟩:=r.clk;have hT:=h.ty;have hpv:=r.visits;obtain⟨c1,c2⟩:=Pn (place:=p.place) (goal:=(aD x k).dst) (fun a ha=>h.acc.arc a ha) hT.rest (show p.visits≤16 by omega) hR (aD x k).close;have hra:∀a∈(fT x.net (aD x k) p.place (aD x k).dst (aD x k).close (cO (aD x k) R)).1,0≤a.time∧a.time≤4096:=fun a hm=>by
   rw[(tI _ _ _ _ _ _).1]at hm;obtain⟨g1,g2,_⟩:=Ho (fun a ha=>h.acc.arc a ha) hT.rest (show p.visits≤16 by omega) hR hm;have:=hT.close;omega
 have hmi:(fT x.net (aD x k) p.place (aD x k).dst (aD x k).close (cO (aD x k) R)).1≠[]→(fT x.net (aD x k) p.place (aD x k).dst (aD x k).close (cO (aD x k) R)).2=mil x.net (aD x k) p.place (aD x k).dst:=fun hne=>(tI _ _ _ _ _ _).2 hne
 have eE:iU (wOf x k near du M) p=if((p.visits:Int) == 0||(p.board:Int) != 0)=true then(0,0,false)
   else((bH x.net (aD x k) p.place (aD x k).dst p.clocks).1.foldl (lJ (aD x k).close) (-1),(bH x.net (aD x k) p.place (aD x k).dst p.clocks).2,decide ((bH x.net (aD x k) p.place (aD x k).dst p.clocks).1.foldl (lJ (aD x k).close) (-1)≥0)):=rfl
 rw[eE]at he ⊢;by_cases hb:((p.visits:Int) == 0||(p.board:Int) != 0)=true
 · rw[if_pos hb]at he;cases he
 rw[if_neg hb]at he ⊢;have hA:=c1.1 (of_decide_eq_true he);obtain⟨c3,c4⟩:=c2 hA;obtain⟨⟨a,ha,hae⟩,_⟩:=BE hA;have hh:=hra a ha;rw[hae,←c3]at hh;have hmr:=CX h.mil (aD x k) p.place (aD x k).dst;refine⟨v,_,by rw[hpv];exact hv.own,hh,rfl,?_,?_⟩
 · show(bH x.net (aD x k) p.place (aD x k).dst p.clocks).2=_
   rw[c4,hmi hA]
 · show 0≤(bH x.net (aD x k) p.place (aD x k).dst p.clocks).2∧(bH x.net (aD x k) p.place (aD x k).dst p.clocks).2≤_
   rw[c4,hmi hA];exact hmr
theorem Ef(h:Ctx x k near)(hM:M≤15)(hp:Ok x k M p):Fe (lO (wOf x k near du M) p):=by
 intro a ha;unfold lO at ha;split at ha
 · next he=>
   obtain⟨v,m,h1,h2,h3,h4,h5⟩:=C8 h hM hp he;obtain⟨q,r,_,hq⟩:=hp;have hpv:=r.visits;rw[List.mem_singleton.1 ha,←h3];exact(xI h (by omega) h1 h2 h5).right (by omega)
 · cases ha
theorem yF(h:Ctx x k near)(hd:DuB x.orders.length du dl)(hM:M≤15):∀(f:Nat) (p:Part),Ok x k M p→Fe (vH (wOf x k near du M) (cZ x) f p)
 | 0,p,hp=>Ef h hM hp
 | f+1,p,hp=>by
   intro a ha;rcases List.mem_append.1 (show a∈lO (wOf x k near du M) p++(cZ x).flatMap fun v=>if(cR (wOf x k near du M) p v).2=true then vH (wOf x k near du M) (cZ x) f (cR (wOf x k near du M) p v).1 else[]from ha)with ha|ha
   · exact Ef h hM hp a ha
   · obtain⟨v,hv,ha⟩:=List.mem_flatMap.1 ha
     split at ha
     · next hn=>exact yF h hd hM f _ (OM h hd hM hp (CK hv) hn).1 a ha
     · cases ha
theorem WO(h : Ctx x k near)(hd : DuB x.orders.length du dl)(hM : (cZ x).length ≤ 15):
   Min (vH (wOf x k near du (cZ x).length) (cZ x) (cZ x).length (eU (wOf x k near du (cZ x).length))) (sA x k dl near false).found (sA x k dl near false).least:=by
 have hs:sA x k dl near false=IR (cZ x).length (sOf x k near dl (cZ x).length 0 false false ByteArray.empty) (zO (aD x k) (aD x k).cap.length):=by
   unfold sA;rw[TK];rfl
 obtain⟨f1,f2⟩:=GF (du:=du) (M:=(cZ x).length) h;have ht:=Gj (du:=du) (dl:=dl) (M:=(cZ x).length) (cn:=0) (lim:=false) (fnd:=false) (le:=ByteArray.empty) h hd (by omega) (cZ x).length _ _ f1 ⟨_,_,f2⟩ (Nat.zero_le _);rw[hs,KF (w:=sOf x k near dl (cZ x).length 0 false false ByteArray.empty) rfl _ _ _ (.refl (by show ByteArray.empty.size≤1048576;decide)),←ht];have hn:=yF h hd hM (cZ x).length _ (Ag (du:=du) (M:=(cZ x).length) h);exact Jk _ [] _ hn ⟨fun _=>⟨rfl,rfl⟩,fun e=>(by cases e)⟩
end
end Go.Proofs.YtdlijlecpopadaaGreatDoor.Rx
end
