/- Texts joined by a program: RyA, RyB, RyC, RyD, CuR, SaidRC, EndRC. -/
import Derived.Lib.LaidIn
import Derived.MakeChecks
import Derived.Stop.LaidErr
import Derived.Test.YtdlijlecpopadaaGreatDoorCards
import Derived.Test.YtdlijlecpopadaaGreatDoorTie
import Derived.Deep.DeepHandedRow
import Derived.Deep.DeepWitnessRowRef
import Derived.SevenTiedAt
import Derived.Test.YtdlijlecpopadaaGreatDoorZy23
import Derived.Test.YtdlijlecpopadaaGreatDoorZy36

section
set_option linter.unusedSimpArgs false
set_option linter.unusedVariables false
namespace Go.Proofs.YtdlijlecpopadaaGreatDoor.Rx
open Go.Aw Go.Aw.D Go.Proofs Ty
open Sq
open Go.Nu
set_option maxRecDepth 100000
def oT(s:Rs)(q:RP):List ByteArray:=
 if((q.visits:Int) == 0||(q.board:Int) != 0)=true then[]
 else if(fU s.x.net s.t q.place s.t.dst s.t.close q.moms).1.length=0 then[]
 else[(pQ (zed (rY s.t q (Ia (fU s.x.net s.t q.place s.t.dst s.t.close q.moms).1) (fU s.x.net s.t q.place s.t.dst s.t.close q.moms).2)) q.dual).1]
theorem Ug(s:Rs)(q:RP):vY s q=(oT s q).foldl Hn s:=by
 unfold vY oT;split
 · rfl
 · simp only
   split <;> rfl
def uX(w:Wk)(p:Part):List ByteArray:=if(uT w p).2.2=true then[rZ w p (uT w p).1 (uT w p).2.1]else[]
def vO(w:Wk)(vs:List Visit):Nat→Part→List ByteArray
 | 0,p=>uX w p
 | f+1,p=>uX w p++vs.flatMap fun v=>if(dG w p v).2=true then vO w vs f (dG w p v).1 else[]
def xQ(s:Rs)(q:RP)(g:RP→List ByteArray):List ByteArray:=
 if ((q.visits : Int) == (s.most : Int)) = true then [] else
     (List.range s.x.orders.length).flatMap fun i=>if((aJ s.x i).off|| !jM s.t.skills (aJ s.x i).skills)=true then[]else
       (dX (aJ s.x i) (i:Nat)).flatMap fun v=>if(fX s q v.order.toNat v.drop).2=true then g (fX s q v.order.toNat v.drop).1 else[]
def BW(s:Rs):Nat→RP→List ByteArray
 | 0,q=>oT s q
 | f+1,q=>oT s q++xQ s q (BW s f)
theorem Dk{a:Int}{k:Nat}{n:Int}(ha: -1≤a)(hn:0≤n∧n≤1000):kQ a k n=n+jZ a k∧0≤jZ a k∧jZ a k≤1:=by
 unfold kQ jZ;by_cases h1:a= -1
 · subst h1
   rw[if_neg (by simp),if_neg (by simp)];omega
 · by_cases h2:a=(k:Int)
   · rw[if_neg (by simp[h2]),if_neg (by simp[h2])]
     omega
   · have h3:a≥0:=by omega
     rw[if_pos (by simp[h2,h3]),if_pos (by simp[h1,h2]),cR (by omega)];omega
structure DuB(n:Nat)(du:Option (List ByteArray))(dl:List ByteArray):Prop where
 len:dl.length=n
 some:∀l,du=some l→l=dl
 none:du=none→∀a∈dl,a=dec 0
 right:∀a∈dl,Vl 1 a (yD a)
theorem DuB.at{n:Nat}{du:Option (List ByteArray)}{dl:List ByteArray}(h:DuB n du dl){o:Nat}(ho:o<n):dl.getD o ByteArray.empty∈dl:=by
 rw[List.getD,List.getElem?_eq_getElem (by rw[h.len];exact ho)];exact List.getElem_mem _
theorem RE:dec 0=hJ 0:=by
 have h1:=KX 0;rw[show zed 0=dec 0 from cX 0]at h1;exact h1.symm
theorem qW:Vl 0 (dec 0) 0:=⟨RE,WD (Nat.le_of_eq (Nat.pow_zero _).symm)⟩
theorem zI:yD (dec 0)=0:=qW.val
structure Val(x:Instance)(k:Nat)(p:Part)(q:RP)(v d:Rat):Prop where
 own:Vl (3*q.visits+1) p.value v
 ref:Vl (q.visits+1) q.dual d
 eq:v=((((aI x k).perMile*q.miles)*16777216+(q.moved*16+q.other)*65536:Int):Rat)-d
 miles:0≤q.miles∧q.miles≤10000*(q.visits:Int)
 moved:0≤q.moved∧q.moved≤(q.visits:Int)
 other:0≤q.other∧q.other≤(q.visits:Int)
section
variable{x:Instance}{k:Nat}{near:List Int}{du:Option (List ByteArray)}{dl:List ByteArray}{M:Nat}{cn:Int}{lim fnd:Bool}{le:ByteArray}{p p':Part}{q q':RP}{o:Nat}{dr:Bool}{v d:Rat}{miles:Int}
theorem qZ{a b:Int}(ha:0≤a∧a≤100){c:Int}(hb:0≤b∧b≤c):0≤a*b∧a*b≤100*c:=⟨Int.mul_nonneg ha.1 hb.1,Int.mul_le_mul ha.2 hb.2 hb.1 (by decide)⟩
theorem Pn(h : Ctx x k near)(hd : DuB x.orders.length du dl)(ho : o < x.orders.length)(hv : Val x k p q v d)(h16 : q.visits ≤ 15)(a : Adds x k dl p p' q q' o dr (yF x k near du p q o dr).value miles):
   ∃vb db,Vl (3*q.visits+3) (yF x k near du p q o dr).value vb∧Vl (q.visits+2) q'.dual db∧vb=((((aI x k).perMile*q.miles)*16777216+(q'.moved*16+q'.other)*65536:Int):Rat)-db ∧
     (0≤q'.moved∧q'.moved≤(q.visits:Int)+1)∧(0≤q'.other∧q'.other≤(q.visits:Int)+1):=by
 have hm:=hv.moved;have ho2:=hv.other;have hO:=h.led _ (sR ho);have hD:=hd.at ho;have hDr:=hd.right _ hD;have a1:=a.dual;have a2:=a.moved;have a3:=a.other;unfold yF;simp only;cases hs:dI (aJ x o) dr with
 | false=>
   rw[hs]at a1 a2 a3;simp only[Bool.false_eq_true,if_false]at a1 a2 a3 ⊢;rw[a1,a2,a3];exact⟨v,d,hv.own.mono (by omega),hv.ref.mono (by omega),hv.eq,by omega,by omega⟩
 | true=>
   rw[hs]at a1 a2 a3;simp only[if_true]at a1 a2 a3 ⊢;obtain⟨m1,m2⟩:=Dk (k:=k) hO.2 (show 0≤q.moved∧q.moved≤1000 by omega);obtain⟨m3,m4⟩:=Dk (k:=k) hO.1 (show 0≤q.other∧q.other≤1000 by omega);rw[m1]at a2;rw[m3]at a3;rw[a1,a2,a3];have e:=hv.eq;generalize jZ (aJ x o).now k=dn at *;generalize jZ (aJ x o).last k=dl2 at *;have hT:=hDr;have w1:=hv.own.addV (n:=(dn*16+dl2)*65536) (by omega) (by omega);have w2:=(hv.ref.add hT (by omega)).2;have hnone:du=none→dl.getD o ByteArray.empty=dec 0:=fun e=>hd.none e _ hD
   have hsome:=hd.some;generalize hDD:dl.getD o ByteArray.empty=D at *;have key:Vl (3*q.visits+1+1+1) (zQ (addV p.value ((dn*16+dl2)*65536)) o du) (v+(((dn*16+dl2)*65536:Int):Rat)-yD D):=by
     cases du with
     | none=>
       rw[hnone rfl,zI,Rat.sub_eq_add_neg,Rat.neg_zero,Rat.add_zero];exact w1.mono (by omega)
     | some l=>
       have hl:=hsome l rfl;subst hl;show Vl _ (pQ (addV p.value ((dn*16+dl2)*65536)) (l.getD o ByteArray.empty)).1 _;rw[hDD];exact(w1.sub hT (by omega)).2
   refine⟨_,_,key.mono (by omega),w2.mono (by omega),?_,by omega,by omega⟩;generalize yD D=rD at *;generalize (aI x k).perMile*q.miles=PM at *;have e2:PM*16777216+((q.moved+dn)*16+(q.other+dl2))*65536=(PM*16777216+(q.moved*16+q.other)*65536)+(dn*16+dl2)*65536:=by omega
   rw[e2];generalize PM*16777216+(q.moved*16+q.other)*65536=z at *;generalize (dn*16+dl2)*65536=y at *
   grind
theorem Re(h : Ctx x k near)(hd : DuB x.orders.length du dl)(ho : o < x.orders.length)(hv : Val x k p q v d)(h16 : q.visits ≤ 15)(hq : q'.visits = q.visits + 1)(a : Adds x k dl p p' q q' o dr (yF x k near du p q o dr).value miles):
   ∃v' d',Val x k p' q' v' d':=by
 obtain⟨vb,db,b1,b2,b3,b4,b5⟩:=Pn h hd ho hv h16 a;have hp:=h.money.2.1;have hr:=a.rng;have hm:=hv.miles;have hbx:=qZ hp hr;have a1:=a.value;have a2:=a.miles;rw[cR (by omega)]at a2;have e1:W ((aI x k).perMile*miles)=(aI x k).perMile*miles:=cR (by omega);have e3:=Int.mul_add (aI x k).perMile q.miles miles;rw[e1]at a1;rw[←a2]at e3;generalize (aI x k).perMile*q.miles=PM at *;generalize hpm:(aI x k).perMile*miles=pm at *;have e2:W (pm*16777216)=pm*16777216:=cR (by omega);rw[e2]at a1;have w:=b1.addV (n:=pm*16777216) (by omega) (by omega);rw[←a1]at w;refine⟨_,db,w.mono (by omega),b2.mono (by omega),?_,by omega,by omega,by omega⟩;rw[e3,b3];have e4:(PM+pm)*16777216+(q'.moved*16+q'.other)*65536=(PM*16777216+(q'.moved*16+q'.other)*65536)+pm*16777216:=by omega
 rw[e4];generalize PM*16777216+(q'.moved*16+q'.other)*65536=z at *;generalize pm*16777216=y at *
 grind
end
end Go.Proofs.YtdlijlecpopadaaGreatDoor.Rx
end

section
set_option linter.unusedSimpArgs false
set_option linter.unusedVariables false
namespace Go.Proofs.YtdlijlecpopadaaGreatDoor.Rx
open Go.Aw Go.Aw.D Go.Proofs Ty
open Sq
open Go.Nu
set_option maxRecDepth 100000
theorem Sx{n:Int}(h: -4096≤n∧n≤4096): -64≤Int.tdiv n 64∧Int.tdiv n 64≤64:=by
 by_cases h0:0≤n
 · rw[Int.tdiv_eq_ediv_of_nonneg h0];omega
 · have e:Int.tdiv n 64= -(Int.tdiv (-n) 64):=by rw[Int.neg_tdiv];omega
   rw[e,Int.tdiv_eq_ediv_of_nonneg (by omega)];omega
theorem U9{n:Int}(h: -64≤n∧n≤64):0≤n*n∧n*n≤4096:=by
 have e:n*n=((n.natAbs*n.natAbs:Nat):Int):=by rw[Int.natCast_mul,Int.natAbs_mul_self']
 have:=Nat.mul_le_mul (show n.natAbs≤64 by omega) (show n.natAbs≤64 by omega);rw[e];omega
def sqW(e s:Int):Int:=Int.tdiv (e-s) 64*Int.tdiv (e-s) 64
section
variable{x:Instance}{k:Nat}{near:List Int}{du:Option (List ByteArray)}{dl:List ByteArray}{M:Nat}{cn:Int}{lim fnd:Bool}{le:ByteArray}{p p':Part}{q q':RP}{o:Nat}{dr:Bool}{v d:Rat}{miles:Int}
theorem QU(h : Ctx x k near){n : Nat}(hn : n ≤ 50)(hv : Vl n p.value v){e m : Int}(he : 0 ≤ e ∧ e ≤ 4096)(hm : 0 ≤ m ∧ m ≤ 10000):
   Vl (n+1) (rZ (wOf x k near du M) p e m) (v+(((((aI x k).fixed+(aI x k).perMile*m)+(aI x k).perTick*(e-(aI x k).start))*16777216+sqW e (aI x k).start:Int):Rat)):=by
 have hT:=h.ty;have h1:=hT.start;have h2:=hT.close;obtain⟨f1,f2,f3⟩:=h.money;have b1:=qZ f2 hm;have hw: -4096≤e-(aI x k).start∧e-(aI x k).start≤4096:=by omega
 have b2: -409600≤(aI x k).perTick*(e-(aI x k).start)∧(aI x k).perTick*(e-(aI x k).start)≤409600:=by
   by_cases h0:0≤e-(aI x k).start
   · have:=qZ f3 (c:=4096) ⟨h0,hw.2⟩;omega
   · have:=qZ f3 (b:= -(e-(aI x k).start)) (c:=4096) ⟨by omega,by omega⟩
     rw[Int.mul_neg]at this;omega
 have b3:=Sx hw;have b4:=U9 b3;unfold rZ SU Gr;show Vl (n+1) (addV p.value (W (W (W (W ((aI x k).fixed+W ((aI x k).perMile*m))+W ((aI x k).perTick*W (e-(aI x k).start)))*16777216)+W (W (Int.tdiv (W (e-(aI x k).start)) 64)*W (Int.tdiv (W (e-(aI x k).start)) 64))))) _;rw[cR (n:=e-(aI x k).start) (by omega)];unfold sqW;generalize (aI x k).perTick*(e-(aI x k).start)=pt at *;generalize (aI x k).perMile*m=pm at *;generalize Int.tdiv (e-(aI x k).start) 64=tt at *;rw[cR (n:=tt) (by omega)];generalize tt*tt=t2 at *;rw[cR (n:=pm) (by omega),cR (n:=pt) (by omega),cR (n:=t2) (by omega),cR (n:=(aI x k).fixed+pm) (by omega),cR (n:=(aI x k).fixed+pm+pt) (by omega),cR (n:=((aI x k).fixed+pm+pt)*16777216) (by omega),cR (n:=((aI x k).fixed+pm+pt)*16777216+t2) (by omega)];exact hv.addV (by omega) (by omega)
theorem FW(h : Ctx x k near)(r : Rel x (aI x k) p q)(hv : Val x k p q v d)(h16 : q.visits ≤ 16):
   uX (wOf x k near du M) p=oT (sOf x k near dl M cn lim fnd le) q:=by
 obtain⟨R,hR,hq⟩:=r.clk;have hT:=h.ty;have hpv:=r.visits;obtain⟨c1,c2⟩:=WE (place:=p.place) (goal:=(aI x k).dst) (fun a ha=>h.acc.arc a ha) hT.rest (show p.visits≤16 by omega) hR (aI x k).close;have hra:∀a∈(fU x.net (aI x k) p.place (aI x k).dst (aI x k).close q.moms).1,0≤a.time∧a.time≤4096:=fun a hm=>by
   rw[hq,(Av _ _ _ _ _ _).1]at hm;obtain⟨g1,g2,_⟩:=Nc (fun a ha=>h.acc.arc a ha) hT.rest (show p.visits≤16 by omega) hR hm;have:=hT.close;omega
 have hmi:(fU x.net (aI x k) p.place (aI x k).dst (aI x k).close q.moms).1≠[]→0≤(fU x.net (aI x k) p.place (aI x k).dst (aI x k).close q.moms).2∧(fU x.net (aI x k) p.place (aI x k).dst (aI x k).close q.moms).2≤10000:=fun hne=>by
   rw[(Av _ _ _ _ _ _).2 hne];exact OV h.mil _ _ _
 rw[←hq]at c1 c2;have eE:uT (wOf x k near du M) p=if((p.visits:Int) == 0||(p.board:Int) != 0)=true then(0,0,false)
   else((cU x.net (aI x k) p.place (aI x k).dst p.clocks).1.foldl (pM (aI x k).close) (-1),(cU x.net (aI x k) p.place (aI x k).dst p.clocks).2,decide ((cU x.net (aI x k) p.place (aI x k).dst p.clocks).1.foldl (pM (aI x k).close) (-1)≥0)):=rfl
 unfold uX oT;rw[eE,r.visits,r.board];by_cases hb:((q.visits:Int) == 0||(q.board:Int) != 0)=true
 · rw[if_pos hb,if_pos hb];rfl
 rw[if_neg hb,if_neg hb,←r.place];simp only;generalize cU x.net (aI x k) p.place (aI x k).dst p.clocks=D at *;generalize fU x.net (aI x k) p.place (aI x k).dst (aI x k).close q.moms=A at *;by_cases hA:A.1=[]
 · have hD:¬D.1.foldl (pM (aI x k).close) (-1)≥0:=fun hc=>c1.1 hc hA
   rw[if_neg (by simpa using hD),if_pos (by rw[hA];rfl)]
 have hA0:¬A.1.length=0:=fun e=>hA (List.length_eq_zero_iff.1 e)
 obtain⟨c3,c4⟩:=c2 hA;rw[if_pos (by rw[decide_eq_true_eq];exact c1.2 hA),if_neg hA0,c3,c4];obtain⟨⟨a,ha,hae⟩,_⟩:=F6 hA;have he:=hra a ha;rw[hae]at he;have hm:=hmi hA;generalize A.2=m at *;generalize Ia A.1=e at *;have hP:=QU (du:=du) (M:=M) h (n:=3*q.visits+1) (by omega) hv.own he hm;refine congrArg (fun a=>[a]) ?_;rw[hP.eq];have h1:=hT.start;have h2:=hT.close;obtain⟨f1,f2,f3⟩:=h.money;have hqm:=hv.miles;have hmo:=hv.moved;have hot:=hv.other;have b1:=qZ f2 hm;have b0:=qZ f2 (b:=q.miles) (c:=160000) ⟨by omega,by omega⟩;have hw: -4096≤e-(aI x k).start∧e-(aI x k).start≤4096:=by omega
 have b2: -409600≤(aI x k).perTick*(e-(aI x k).start)∧(aI x k).perTick*(e-(aI x k).start)≤409600:=by
   by_cases h0:0≤e-(aI x k).start
   · have:=qZ f3 (c:=4096) ⟨h0,hw.2⟩;omega
   · have:=qZ f3 (b:= -(e-(aI x k).start)) (c:=4096) ⟨by omega,by omega⟩
     rw[Int.mul_neg]at this;omega
 have b3:=Sx hw;have b4:=U9 b3;have e1:=Int.mul_add (aI x k).perMile q.miles m;have hpr:rY (aI x k) q e m=((((aI x k).fixed+((aI x k).perMile*q.miles+(aI x k).perMile*m)+(aI x k).perTick*(e-(aI x k).start))*16+q.moved)*16+q.other)*65536+sqW e (aI x k).start:=by
   unfold rY SX E1 sqW;rw[cR (n:=e-(aI x k).start) (by omega),cR (n:=q.miles+m) (by omega),e1];generalize (aI x k).perTick*(e-(aI x k).start)=pt at *;generalize (aI x k).perMile*q.miles=PM at *;generalize (aI x k).perMile*m=pm at *;generalize Int.tdiv (e-(aI x k).start) 64=tt at *;rw[cR (n:=tt) (by omega)];generalize tt*tt=t2 at *;generalize (aI x k).fixed=fx at *;rw[cR (n:=PM+pm) (by omega),cR (n:=pt) (by omega),cR (n:=t2) (by omega),cR (n:=fx+(PM+pm)) (by omega),cR (n:=fx+(PM+pm)+pt) (by omega),cR (n:=(fx+(PM+pm)+pt)*16) (by omega),cR (n:=(fx+(PM+pm)+pt)*16+q.moved) (by omega),cR (n:=((fx+(PM+pm)+pt)*16+q.moved)*16) (by omega),cR (n:=((fx+(PM+pm)+pt)*16+q.moved)*16+q.other) (by omega),cR (n:=(((fx+(PM+pm)+pt)*16+q.moved)*16+q.other)*65536) (by omega),cR (by omega)]
 show _=(pQ (zed (rY (aI x k) q e m)) q.dual).1;have hQ:=hv.eq;have b5:0≤sqW e (aI x k).start∧sqW e (aI x k).start≤4096:=b4;have hz:(rY (aI x k) q e m).natAbs≤EE:=UO (by rw[hpr];omega);have hS:=(Vl.sub (Vl.int hz) hv.ref (by omega)).2;rw[hS.eq]
 congr 1
 rw[hpr,hQ];generalize (aI x k).perTick*(e-(aI x k).start)=pt at *;generalize (aI x k).perMile*q.miles=PM at *;generalize (aI x k).perMile*m=pm at *;generalize sqW e (aI x k).start=t2 at *;generalize (aI x k).fixed=fx at *;have e9:(((fx+(PM+pm)+pt)*16+q.moved)*16+q.other)*65536+t2=(PM*16777216+(q.moved*16+q.other)*65536)+((fx+pm+pt)*16777216+t2):=by omega
 rw[e9];generalize PM*16777216+(q.moved*16+q.other)*65536=z at *;generalize (fx+pm+pt)*16777216+t2=y at *
 grind
theorem tV{α β:Type}{f g:α→List β}:∀{l:List α},(∀a∈l,f a=g a)→l.flatMap f=l.flatMap g
 | [],_=>rfl
 | a::l,h=>by rw[List.flatMap_cons,List.flatMap_cons,h a (by simp),tV (fun b hb=>h b (by simp[hb]))]
theorem Ah{α β:Type}{f:α→List β}{l:List α}(h:∀a∈l,f a=[]):l.flatMap f=[]:=List.flatMap_eq_nil_iff.2 h
theorem Ol{O:Order}{i:Nat}{v:Visit}(h:v∈dX O (i:Nat)):∃d,v=⟨(i:Nat),d⟩∧(stR O d).place≥0:=by
 unfold dX at h;rcases List.mem_append.1 h with h|h
 · split at h
   · next hb=>exact⟨false,by simpa using h,by simpa[stR]using hb⟩
   · cases h
 · split at h
   · next hb=>exact⟨true,by simpa using h,by simpa[stR]using hb⟩
   · cases h
theorem Ti{w:Wk}{p:Part}{v:Visit}(h:((aJ w.x v.order.toNat).off|| !pG w.t.skills (aJ w.x v.order.toNat).skills)=true):(dG w p v).2=false:=by
 unfold dG;rw[if_pos (by rw[Bool.or_assoc,h,Bool.or_true])]
theorem X3(w : Wk)(p : Part)(g : Part → List ByteArray)(hs : ∀ o ∈ w.x.orders, 0 ≤ o.skills ∧ o.skills ≤ 1073741823)(ht : 0 ≤ w.t.skills ∧ w.t.skills ≤ 1073741823):
   ((fJ w.x).flatMap fun v=>if(dG w p v).2=true then g (dG w p v).1 else[]) =
   (List.range w.x.orders.length).flatMap fun i => if ((aJ w.x i).off || !jM w.t.skills (aJ w.x i).skills) = true then [] else
       (dX (aJ w.x i) (i:Nat)).flatMap fun v=>if(dG w p v).2=true then g (dG w p v).1 else[]:=by
 unfold fJ;rw[List.flatMap_assoc];refine tV fun i hi=>?_
 have hi:=List.mem_range.1 hi;rw[Oy hi];have hab:=GB ht (hs _ (sR hi));rw[←hab];by_cases hb:((aJ w.x i).off|| !pG w.t.skills (aJ w.x i).skills)=true
 · rw[if_pos hb]
   refine Ah fun v hv=>?_
   have hvi:v.order.toNat=i:=by
     split at hv
     · cases hv
     · obtain⟨d,rfl,_⟩:=Ol hv;exact Int.toNat_natCast i
   rw[if_neg];rw[Ti (by rw[hvi];exact hb)];simp
 · rw[if_neg hb]
   rw[if_neg (by intro e;rw[e]at hb;exact hb rfl)]
theorem Fa(h : Ctx x k near)(hd : DuB x.orders.length du dl)(hM : M ≤ 15): ∀ (f : Nat) (p : Part) (q : RP), Rel x (aI x k) p q → (∃ v d, Val x k p q v d) → q.visits ≤ M →
   vO (wOf x k near du M) (fJ x) f p=BW (sOf x k near dl M cn lim fnd le) f q
 | 0,p,q,r,hv,hq=>by
   obtain⟨v,d,hv⟩:=hv;exact FW h r hv (by omega)
 | f+1,p,q,r,hv,hq=>by
   obtain⟨v,d,hv⟩:=hv;show uX _ p++_=oT _ q++xQ _ q (BW _ f);rw[FW h r hv (by omega) (cn:=cn) (lim:=lim) (fnd:=fnd) (le:=le) (dl:=dl)]
   congr 1
   unfold xQ;by_cases hvis:q.visits=M
   · rw[if_pos (by simp[hvis])]
     refine Ah fun u hu=>?_
     rw[if_neg];rw[Ka (by show M≤p.visits;rw[r.visits,hvis];exact Nat.le_refl _)];simp
   · rw[if_neg (by simp;omega)]
     have hT:=h.ty;refine(X3 (wOf x k near du M) p _ (fun o ho=>(h.acc.order o ho).skills) hT.skills).trans ?_;refine tV fun i hi=>?_
     have hi:i<x.orders.length:=List.mem_range.1 hi;show(if((aJ x i).off|| !jM (aI x k).skills (aJ x i).skills)=true then[]else _)=(if((aJ x i).off|| !jM (aI x k).skills (aJ x i).skills)=true then[]else _);by_cases hb:((aJ x i).off|| !jM (aI x k).skills (aJ x i).skills)=true
     · rw[if_pos hb,if_pos hb]
     · rw[if_neg hb,if_neg hb]
       simp only[Bool.or_eq_true,not_or,Bool.not_eq_true,Bool.not_eq_false']at hb;refine tV fun u hu=>?_
       obtain⟨dr,rfl,hpl⟩:=Ol hu;obtain⟨n1,n2⟩:=Q6 (near:=near) (du:=du) (dl:=dl) (M:=M) (cn:=cn) (lim:=lim) (fnd:=fnd) (le:=le) h r hi hpl hb.1 hb.2 (by rw[r.visits];omega) (by omega);show(if _ then _ else _)=(if(fX (sOf x k near dl M cn lim fnd le) q ((i:Nat):Int).toNat dr).2=true then BW _ f (fX (sOf x k near dl M cn lim fnd le) q ((i:Nat):Int).toNat dr).1 else[]);rw[Int.toNat_natCast,←n1];split
       · next hn=>
         obtain⟨r',v1,miles,a⟩:=n2 hn;have hqv:(fX (sOf x k near dl M cn lim fnd le) q i dr).1.visits=q.visits+1:=by rw[←r'.visits,v1,r.visits]
         exact Fa h hd hM f _ _ r' (Re h hd hi hv (by omega) hqv a) (by omega)
       · rfl
theorem Pj(h:Ctx x k near):Rel x (aI x k) (iE (wOf x k near du M)) (tY (aI x k) (aI x k).cap.length)∧Val x k (iE (wOf x k near du M)) (tY (aI x k) (aI x k).cap.length) 0 0:=by
 have hT:=h.ty;have h1:=hT.start;have h2:=hT.close;refine⟨⟨rfl,rfl,rfl,rfl,rfl,?_,Nat.two_pow_pos _,⟨[⟨(aI x k).start,0⟩],⟨?_,?_,?_⟩,rfl⟩⟩,⟨qW.mono (by omega),qW.mono (by omega),?_,?_,?_,?_⟩⟩
 · show(List.replicate (aI x k).cap.length (0:Int)).length=AU x
   rw[List.length_replicate,Cn h.acc h.kind]
 · intro c hc
   have:c=⟨(aI x k).start,0⟩:=List.mem_singleton.1 hc;rw[this];exact List.mem_singleton.2 rfl
 · intro m hm
   rw[List.mem_singleton.1 hm];exact⟨⟨(aI x k).start,0⟩,List.mem_singleton.2 rfl,rfl,Int.le_refl _⟩
 · intro m hm
   rw[List.mem_singleton.1 hm];refine⟨⟨h1.1,by show(aI x k).start≤8192;omega⟩,?_,by show(0:Int)≤4096;decide⟩;show -(12288*((0:Nat):Int))≤0;omega
 · show(0:Rat)=(((aI x k).perMile*0*16777216+(0*16+0)*65536:Int):Rat)-0
   rw[Int.mul_zero];grind
 · exact⟨Int.le_refl 0,by show(0:Int)≤10000*((0:Nat):Int);omega⟩
 · exact⟨Int.le_refl 0,by show(0:Int)≤((0:Nat):Int);omega⟩
 · exact⟨Int.le_refl 0,by show(0:Int)≤((0:Nat):Int);omega⟩
theorem Uw{x:Instance}:lR x x.orders.length=(fJ x).length:=by
 have:∀n,n≤x.orders.length→lR x n=((List.range n).flatMap fun i=>if(aJ x i).off=true then[]else jW x.orders (i:Nat)).length:=by
   intro n;induction n with
   | zero=>intro _;rfl
   | succ n ih=>
     intro hn;rw[wI,ih (by omega),List.range_succ,List.flatMap_append,List.length_append,List.flatMap_singleton];unfold J3;rw[Oy (by omega)];split
     · rfl
     · rfl
 exact this _ (Nat.le_refl _)
end
end Go.Proofs.YtdlijlecpopadaaGreatDoor.Rx
end

section
set_option linter.unusedSimpArgs false
set_option linter.unusedVariables false
namespace Go.Proofs.YtdlijlecpopadaaGreatDoor.Rx
open Go.Aw Go.Aw.D Go.Proofs Ty
open Sq
open Go.Nu
set_option maxRecDepth 100000
structure Cap(n:Int)(t:Nat)(r:Int):Prop where
 lo:n≤r
 hi:r≤n+t
 eq:n+t≤8192→r=n+t
 gt:n+t>8192→r>8192
theorem Cap.refl(n:Int):Cap n 0 n:=⟨Int.le_refl _,by omega,by omega,by omega⟩
theorem Cap.big{n:Int}(h:n>8192)(t:Nat):Cap n t n:=⟨Int.le_refl _,by omega,by omega,by omega⟩
theorem Cap.trans{n m r:Int}{t u:Nat}(h:Cap n t m)(g:Cap m u r):Cap n (t+u) r:=by
 obtain⟨h1,h2,h3,h4⟩:=h;obtain⟨g1,g2,g3,g4⟩:=g;exact⟨by omega,by omega,by omega,by omega⟩
theorem Ax{α β γ : Type}(cnt : γ → Int)(I : γ → Prop)(step : γ → α → γ)(f : α → List β)(B : Int): ∀ (l : List α) (a : γ),
   (∀a v,v∈l→I a→0≤cnt a→cnt a+(f v).length≤B→I (step a v)∧Cap (cnt a) (f v).length (cnt (step a v)))→I a→0≤cnt a→cnt a+(l.flatMap f).length≤B →
   I (l.foldl step a)∧Cap (cnt a) (l.flatMap f).length (cnt (l.foldl step a))
 | [],a,_,hI,_,_=>⟨hI,.refl _⟩
 | v::l,a,h,hI,h0,hB=>by
   rw[List.flatMap_cons,List.length_append]at hB;obtain⟨i1,c1⟩:=h a v (by simp) hI h0 (by omega);have c1h:=c1.hi;have c1l:=c1.lo;obtain⟨i2,c2⟩:=Ax cnt I step f B l (step a v) (fun b u hu=>h b u (by simp[hu])) i1 (by omega) (by omega);refine⟨i2,?_⟩;rw[List.flatMap_cons,List.length_append];exact c1.trans c2
theorem Lr{w:Wk}{p:Part}{n:Int}(h0:0≤n)(hB:n+(uX w p).length≤1099511627776):Cap n (uX w p).length (Ce w p n):=by
 unfold Ce uX at *;split
 · next h=>rw[if_pos h]at hB;rw[cR (by simp at hB;omega)];exact⟨by omega,by simp,by simp,by simp⟩
 · exact .refl n
theorem OA(w:Wk)(vs:List Visit):∀(f:Nat) (p:Part) (n:Int),0≤n→n+(vO w vs f p).length≤1099511627776→Cap n (vO w vs f p).length (mG w vs f p n)
 | 0,p,n,h0,hB=>Lr h0 hB
 | f+1,p,n,h0,hB=>by
   have e:vO w vs (f+1) p=uX w p++vs.flatMap fun v=>if(dG w p v).2=true then vO w vs f (dG w p v).1 else[]:=rfl
   rw[e,List.length_append]at hB ⊢;have c1:=Lr (w:=w) (p:=p) h0 (by omega);have h1:=c1.lo;have h2:=c1.hi;refine c1.trans ?_;exact(Ax (γ:=Int) id (fun _=>True) (fun n v=>if n>8192 then n else if(dG w p v).2=true then mG w vs f (dG w p v).1 n else n) (fun v=>if(dG w p v).2=true then vO w vs f (dG w p v).1 else[]) 1099511627776 vs (Ce w p n) (fun a v _ _ ha hb=>⟨trivial,by
     show Cap a _ (if a>8192 then a else if(dG w p v).2=true then mG w vs f (dG w p v).1 a else a);by_cases hc:a>8192
     · rw[if_pos hc];exact .big hc _
     · rw[if_neg hc]
       by_cases hn:(dG w p v).2=true
       · rw[if_pos hn,if_pos hn]
         rw[if_pos hn]at hb;exact OA w vs f _ a ha hb
       · rw[if_neg hn,if_neg hn];exact .refl a⟩) trivial (by show 0≤Ce w p n;omega) (by show Ce w p n+_≤_;omega)).2
theorem Same.leaf{w a:Rs}(h:Same w a)(q:RP):oT a q=oT w q:=by
 obtain⟨c,f,l,rfl⟩:=h.ex;rfl
theorem Same.visit{w a:Rs}(h:Same w a)(q:RP)(o:Nat)(d:Bool):fX a q o d=fX w q o d:=by
 obtain⟨c,f,l,rfl⟩:=h.ex;rfl
theorem Pl(a:Rs)(v:ByteArray):(Hn a v).count=W (a.count+1):=by unfold Hn;split <;> rfl
theorem TU(s:Rs)(q:RP):oT s q=[]∨∃v,oT s q=[v]:=by
 unfold oT;split
 · exact .inl rfl
 · split
   · exact .inl rfl
   · exact .inr ⟨_,rfl⟩
theorem Wz{a:Rs}{q:RP}(h0:0≤a.count)(hB:a.count+(oT a q).length≤1099511627776):(vY a q).count=a.count+(oT a q).length:=by
 rw[Ug];rcases TU a q with e|⟨v,e⟩
 · rw[e];simp
 · rw[e]at hB ⊢
   show(Hn a v).count=_;rw[Pl,cR (by simp at hB;omega)];rfl
def CM(w:Rs):Nat→RP→List ByteArray
 | 0,_=>[]
 | f+1,q=>BW w f q
theorem Uj(w:Rs)(f:Nat)(q:RP):BW w f q=oT w q++xQ w q (CM w f):=by
 cases f with
 | zero=>
   show oT w q=_;have:xQ w q (CM w 0)=[]:=by
     unfold xQ;split
     · rfl
     · refine Ah fun i _=>?_
       split
       · rfl
       · exact Ah fun v _=>by split <;> rfl
   rw[this,List.append_nil]
 | succ f=>rfl
theorem OK{w:Rs}(hl:w.limited=true):∀(f:Nat) (q:RP) (a:Rs),Same w a→0≤a.count→a.count+(BW w f q).length≤1099511627776→Cap a.count (BW w f q).length (EA f a q).count
 | f,q,a,ha,h0,hB=>by
   have hrec:∀(q:RP) (a:Rs),Same w a→0≤a.count→a.count+(CM w f q).length≤1099511627776→Cap a.count (CM w f q).length (uI f a q).count:=by
     cases f with
     | zero=>exact fun q a _ _ _=>.refl _
     | succ f=>exact fun q a h1 h2 h3=>OK hl f q a h1 h2 h3
   rw[Uj,List.length_append]at hB ⊢;rw[NN];obtain⟨s1,s2,s3,s4,s5⟩:=ha.st;have hlf:=ha.leaf q;have hf:=Wz (a:=a) (q:=q) h0 (by rw[hlf];omega);rw[hlf]at hf;have hsm:=ha.trans (CE a q ha.sz);unfold Jg;rw[s3,s4,hl,Bool.true_and];by_cases hb:(((q.visits:Int) == (w.most:Int))||decide ((vY a q).count>8192))=true
   · rw[if_pos hb]
     simp only[Bool.or_eq_true,decide_eq_true_eq]at hb;rcases hb with hb|hb
     · have:xQ w q (CM w f)=[]:=by unfold xQ;rw[if_pos hb]
       rw[this,hf];exact⟨by omega,by simp,by simp,by simp⟩
     · rw[hf]at hb ⊢
       exact⟨by omega,by omega,by omega,by omega⟩
   · rw[if_neg hb]
     have hb1:¬((q.visits:Int) == (w.most:Int))=true:=fun e=>hb (by rw[e];rfl)
     have hk:xQ w q (CM w f)=(List.range w.x.orders.length).flatMap fun i=>if((aJ w.x i).off|| !jM w.t.skills (aJ w.x i).skills)=true then[]else
       (dX (aJ w.x i) (i:Nat)).flatMap fun v=>if(fX w q v.order.toNat v.drop).2=true then CM w f (fX w q v.order.toNat v.drop).1 else[]:=by unfold xQ;rw[if_neg hb1]
     rw[hk]at hB ⊢;have hc1:Cap a.count (oT w q).length (vY a q).count:=by rw[hf];exact⟨by omega,by omega,by omega,by omega⟩
     refine hc1.trans ?_;rw[s1];refine(Ax (fun a:Rs=>a.count) (Same w) (DG (uI f) q) _ 1099511627776 (List.range w.x.orders.length) (vY a q) (fun b i _ hbs hb0 hbB=>?_) hsm (by rw[hf];omega) (by rw[hf];omega)).2;obtain⟨t1,t2,t3,t4,t5⟩:=hbs.st;refine⟨hbs.trans (QQ f q b i hbs.sz),?_⟩;unfold DG;rw[t1,t2];by_cases hof:((aJ w.x i).off|| !jM w.t.skills (aJ w.x i).skills)=true
     · rw[if_pos hof,if_pos hof];exact .refl _
     · rw[if_neg hof,if_neg hof]
       rw[if_neg hof]at hbB;refine(Ax (fun a:Rs=>a.count) (Same w) (Cf (uI f) q) _ 1099511627776 (dX (aJ w.x i) (i:Nat)) b (fun c v _ hcs hc0 hcB=>?_) hbs hb0 hbB).2;refine⟨hcs.trans (Ba f q c v hcs.sz),?_⟩;unfold Cf;rw[hcs.visit];by_cases hv:(fX w q v.order.toNat v.drop).2=true
       · rw[if_pos hv,if_pos hv]
         rw[if_pos hv]at hcB;exact hrec _ c hcs hc0 hcB
       · rw[if_neg hv,if_neg hv];exact .refl _
theorem O0{α β:Type}{f:α→List β}{B:Nat}:∀{l:List α},(∀a∈l,(f a).length≤B)→(l.flatMap f).length≤l.length*B
 | [],_=>by simp
 | a::l,h=>by
   rw[List.flatMap_cons,List.length_append,List.length_cons,Nat.succ_mul];have h1:=h a (by simp);have h2:=O0 (l:=l) (fun b hb=>h b (by simp[hb]));omega
theorem Kl(w:Wk)(p:Part):(uX w p).length≤1:=by unfold uX;split <;> simp
theorem Od(w:Wk)(vs:List Visit)(h:vs.length≤6):∀(f:Nat) (p:Part),(vO w vs f p).length≤7^f
 | 0,p=>Kl w p
 | f+1,p=>by
   show(uX w p++vs.flatMap fun v=>if(dG w p v).2=true then vO w vs f (dG w p v).1 else[]).length≤7^(f+1);rw[List.length_append];have h1:=Kl w p;have h2:=O0 (l:=vs) (f:=fun v=>if(dG w p v).2=true then vO w vs f (dG w p v).1 else[]) (B:=7^f) (fun v _=>by
     split
     · exact Od w vs h f _
     · simp)
   have h3:vs.length*7^f≤6*7^f:=Nat.mul_le_mul_right _ h;have h4:7^(f+1)=6*7^f+7^f:=by rw[Nat.pow_succ];omega
   have h5:0<7^f:=Nat.pow_pos (by decide);omega
theorem Vs{x:Instance}(hn:x.orders.length≤3):(fJ x).length≤6:=by
 have:=zS x x.orders.length;unfold fJ;omega
theorem Sp(n:Nat):DuB n none (List.replicate n (dec 0)):=
 ⟨List.length_replicate,fun _ e=>(by cases e),fun _ a ha=>List.eq_of_mem_replicate ha,fun a ha=>by rw[List.eq_of_mem_replicate ha,zI];exact qW.mono (by decide)⟩
theorem IY{x:Instance}(h:lQ x=[])(hn:x.orders.length≤3)(kind:Int)(near:List Int):uS x kind near=oG x kind near:=by
 unfold uS oG;rw[Pp (by omega)];by_cases hb:(HJ x kind|| !mI x near)=true
 · rw[if_pos hb,if_pos hb]
 rw[if_neg hb,if_neg hb];simp only[Bool.or_eq_true,not_or,Bool.not_eq_true,Bool.not_eq_false']at hb;obtain⟨k,rfl,hk⟩:=Tz hb.1;have hl:mI x near=true:=by simpa using hb.2
 obtain⟨l1,_⟩:=Gh hl (by omega);have hc:=ZW h hk (by omega) l1;have h6:=Vs hn;rw[Int.toNat_natCast];have hw:kP x k near=wOf x k near none (fJ x).length:=rfl;have hs:wX x k (List.replicate x.orders.length (dec 0)) near true=EA (fJ x).length (sOf x k near (List.replicate x.orders.length (dec 0)) (fJ x).length 0 true false ByteArray.empty) (tY (aI x k) (aI x k).cap.length):=by
   unfold wX;rw[Uw];rfl
 obtain⟨f1,f2⟩:=Pj (du:=none) (M:=(fJ x).length) hc;have ht:=Fa (du:=none) (dl:=List.replicate x.orders.length (dec 0)) (M:=(fJ x).length) (cn:=0) (lim:=true) (fnd:=false) (le:=ByteArray.empty) hc (Sp _) (by omega) (fJ x).length _ _ f1 ⟨_,_,f2⟩ (Nat.zero_le _);have hsz:=Od (wOf x k near none (fJ x).length) (fJ x) h6 (fJ x).length (iE (wOf x k near none (fJ x).length));have h7:7^(fJ x).length≤7^6:=Nat.pow_le_pow_right (by decide) h6;have c1:=OA (wOf x k near none (fJ x).length) (fJ x) (fJ x).length (iE (wOf x k near none (fJ x).length)) 0 (Int.le_refl _) (by omega);have c2:=OK (w:=sOf x k near (List.replicate x.orders.length (dec 0)) (fJ x).length 0 true false ByteArray.empty) rfl (fJ x).length (tY (aI x k) (aI x k).cap.length) _ (.refl (by show ByteArray.empty.size≤1048576;decide)) (Int.le_refl _) (by rw[←ht];show(0:Int)+_≤_;omega);rw[←ht]at c2;rw[hs,hw];generalize (vO (wOf x k near none (fJ x).length) (fJ x) (fJ x).length (iE (wOf x k near none (fJ x).length))).length=T at *;generalize mG (wOf x k near none (fJ x).length) (fJ x) (fJ x).length (iE (wOf x k near none (fJ x).length)) 0=a at *;simp only;generalize (EA (fJ x).length (sOf x k near (List.replicate x.orders.length (dec 0)) (fJ x).length 0 true false ByteArray.empty) (tY (aI x k) (aI x k).cap.length)).count=b at *;obtain⟨_,_,e1,g1⟩:=c1;have e2:(0:Int)+T≤8192→b=0+T:=c2.eq;have g2:(0:Int)+T>8192→b>8192:=c2.gt;by_cases hT:(0:Int)+T≤8192
 · rw[e1 hT,e2 hT]
 · rw[if_pos (g1 (by omega)),if_pos (g2 (by omega))]
end Go.Proofs.YtdlijlecpopadaaGreatDoor.Rx
end

section
set_option linter.unusedSimpArgs false
set_option linter.unusedVariables false
namespace Go.Proofs.YtdlijlecpopadaaGreatDoor.Rx
open Go.Aw Go.Aw.D Go.Proofs Ty Go.Nu Go.So
open Sq (W jW eM kE NetOk)
open Nu (ltB geB sZ)
open Mv (fZ fA kI NC.pc bR)
set_option maxRecDepth 100000
def AM(x:Instance):Bool:=decide (x.orders.length≤3)&&(lQ x).isEmpty
theorem U5{x:Instance}(h:AM x=true):lQ x=[]∧x.orders.length≤3:=by
 unfold AM at h;simp only[Bool.and_eq_true,decide_eq_true_eq,List.isEmpty_iff]at h;exact⟨h.2,h.1⟩
theorem KW(x:Instance)(h:InB x):PC Tryz.prog 17 [.agg (aS x)] (boo (AM x)):=by
 have hck:=NC.pc (WO x h);have hr:AM x=(decide ((x.orders.length:Int)≤3)&&((lQ x).length:Int) == 0):=by
   unfold AM
   congr 1
   · rw[Bool.eq_iff_iff];simp;omega
   · cases lQ x <;> rfl
 refine PC.body (c:=Tryz.f17.body.getD .skip) (fun _=>false) mixed Tryz.func17 rfl (by kernel_rfl) ?_;unfold Tryz.f17;simp only[Option.getD_some];simp only[go_sem];refine⟨_,fun _=>hck.qn,?_⟩;simp only[go_sem,List.length_map];rw[hr];refine fA ?_;generalize decide ((x.orders.length:Int)≤3)=b;cases b <;> rfl
theorem EF(x:Instance)(kind:Int)(near:List Int)(h:InB x)(hnl:near.length≤1048576):PC Tryz.prog 5 [.agg (aS x),int kind,.sl (near.map aO)] (boo true):=by
 have hr:=KW x h;refine PC.body (c:=Tryz.f5.body.getD .skip) (fun _=>false) mixed Tryz.func5 rfl (by kernel_rfl) ?_;unfold Tryz.f5;simp only[Option.getD_some];simp only[go_sem];refine PC.use hr ?_;simp only[go_sem,List.length_map];by_cases hb:AM x=true
 case neg=>
   rw[eq_false_of_ne_true hb];refine aB (fun _=>?_) (fun hb=>?_)
   · simp only[go_sem]
     refine PC.use Dx ?_;simp only[go_sem];exact .refl _
   · simp at hb
 rw[hb];refine aB (fun hb=>by simp at hb) (fun _=>?_);obtain⟨hc,hn⟩:=U5 hb;have hacc:=Ue hc;have hA:=IZ x (Yw hacc (by omega)) kind near hnl;have hB:=Nl x (Y7 hacc (by omega)) kind near hnl;rw[IY hc hn]at hA;generalize oG x kind near=N at hA hB;simp only[go_sem];refine PC.use hA ?_;simp only[go_sem];refine PC.use hB ?_;simp only[go_sem];refine⟨_,fun _=>Dx.q rfl,?_⟩;simp only[go_sem];refine fA ?_;simp
end Go.Proofs.YtdlijlecpopadaaGreatDoor.Rx
end

section
set_option linter.unusedSimpArgs false
set_option linter.unusedVariables false
namespace Go.Aw.D
open Go.Aw Go.RowKit Go.Proofs Go.Proofs.YtdlijlecpopadaaGreatDoor Go.WideShapes Go.ChangeShapes
set_option maxRecDepth 100000
section
variable{H:Type}{e:TypeId×Value→H}{w:World}
end
theorem Xk{H : Type}{e : TypeId × Value → H}{P : Program}{W : World}{t : TypeId}{r : Reach}{b0 : Nat}{v : Value}{d : DataW H}{ps : List MemPlace}(ht : P.underlying t = some (.int .i64))
   (hval:Value.okWide P W r b0 t v) (hd:DataW.Trod e P W 0 (fun _=>true) true t v d ps):∃x:Int,rep (Sw W) W (.v (.int .i64 x)) v∧∀n,BK H d≤n→kW n x:=by
 obtain⟨x,rfl⟩:=okWide_int ht hval;obtain⟨fuel,h⟩:=hd;obtain⟨n,h1,_,hw⟩:=DataW.trod_int ht h;have h2:(Value.int .i64 x)=.int .i64 n:=by
   have:(Value.cells (.int .i64 x))=#[.int .i64 x]:=rfl;rw[this]at h1;simpa using h1
 cases h2;exact⟨x,by simp only[rep],fun _ _=>bounds_i64 hw⟩
def G0:List (String×DataW Unit):=[("math/bits.deBruijn32tab",Go.Proofs.YtdlijlecpopadaaGreatDoor.Rows.laid_math_bits_deBruijn32tab),("math/bits.deBruijn64tab",Go.Proofs.YtdlijlecpopadaaGreatDoor.Rows.laid_math_bits_deBruijn64tab),("internal/strconv.uint64pow10",Go.Proofs.YtdlijlecpopadaaGreatDoor.Rows.laid_internal_strconv_uint64pow10)]
theorem Ra:(Go.Proofs.YtdlijlecpopadaaGreatDoor.Rows.laid_math_bits_deBruijn64tab:DataW Unit)=Lib.tabData .u8 (Lib.deBruijn64tab.map fun z:Nat=>(z:Int)):=by kernel_rfl
theorem UQ:(Go.Proofs.YtdlijlecpopadaaGreatDoor.Rows.laid_internal_strconv_uint64pow10:DataW Unit)=Lib.tabData .u64 Lib.pow10Tab:=by kernel_rfl
theorem Pi{W:World}(h:laidMetH Tryz.prog G0 W):He W:=by
 have h0:laidMet Tryz.prog G0 W:=(Go.MakeChecks.laidMetH_plain Tryz.prog G0 W (by kernel_rfl))▸h;have h1:=laidMet.tail h0;have h2:=laidMet.tail h1;rw[Ra]at h1;rw[UQ]at h2;have b:=Lib.tabIs_of_head (g:=3) (by kernel_rfl) (by kernel_rfl) (t:=368) (e:=5) (n:=64) Tryz.underlying368 Tryz.underlying5 (by kernel_rfl) (by kernel_rfl) h1;have p:=Lib.tabIs_of_head (g:=1) (by kernel_rfl) (by kernel_rfl) (t:=341) (e:=299) (n:=20) Tryz.underlying341 Tryz.underlying299 (by kernel_rfl) (by kernel_rfl) h2;unfold Lib.TabIs World.var? at b p;rw[show Tryz.prog.globalNamed "math/bits.deBruijn64tab" = some 3 by kernel_rfl]at b;rw[show Tryz.prog.globalNamed "internal/strconv.uint64pow10" = some 1 by kernel_rfl]at p;intro t ht;simp only[P3,List.mem_cons,List.not_mem_nil,or_false]at ht;rcases ht with rfl|rfl
 · exact p
 · have:Nh=((Lib.deBruijn64tab.map fun z:Nat=>(z:Int)).map fun z=>Value.int .u8 z).toArray:=by simp[Nh]
   rw[this];exact b
end Go.Aw.D
end

section
set_option linter.unusedSimpArgs false
set_option linter.unusedVariables false
namespace Go.Proofs.YtdlijlecpopadaaGreatDoor.relaxCounts
open Go.Aw Go.Aw.D Go.Proofs Go.RowKit Go.ChangeShapes Go.WideShapes Go.ChangeAt
set_option maxRecDepth 100000
def Om:Prop:=∀(x0:Instance) (x1:Int) (x2:List Int),A9 1048576 x0→kW 1048576 x1→(bL kW) 1048576 x2→PC Tryz.prog 5 [.agg (aS x0),.v (.int .i64 x1),.sl (x2.map aO)] (.v (.bool true))
theorem own:ownKnob Tryz.prog.godebug=none:=by kernel_rfl
theorem laid:laidOutB Tryz.prog=true:=by kernel_rfl
theorem HV:Tryz.prog.readableRec 30=true∧30<Tryz.prog.types.size:=⟨by kernel_rfl,by decide +kernel⟩
theorem XK:Tryz.prog.readableRec 3=true∧3<Tryz.prog.types.size:=⟨by kernel_rfl,by decide +kernel⟩
theorem RZ:Tryz.prog.readableRec 31=true∧31<Tryz.prog.types.size:=⟨by kernel_rfl,by decide +kernel⟩
theorem T4(hh : Om)(H : Type)(enc : TypeId × Value → H)(W : World)(base : Nat)(args : Array Value)(ds gs : List (DataW H))(before : List MemPlace)
   (hval:∀(j:Nat) t v,Tryz.f5.params[j]?=some t→args[j]?=some v→Value.okWide Tryz.prog W .any base t v)
   (hW:DataW.Whole enc Tryz.prog Tryz.f5.params.toList Rows.relaxCountsSpec.vars false W args.toList ds gs before) (hk:Rows.uptoSmall H (ds++gs)=true) (ht:He W):
   Calls Tryz.prog 5 args W fun e W'=>∃v,e=.returned v∧Rows.relaxCountsSpec.post enc Tryz.prog Tryz.f5 false true false false W args v W':=by
 have hW':=hW;obtain⟨p,q,hA0,hV,rfl,hfz,hnd⟩:=hW;have hA:DataW.TrodAll enc Tryz.prog W 0 (fun _=>true) true [30,3,31] args.toList ds p:=hA0;obtain⟨v0,v1,v2,d0,d1,d2,p0,p1,p2,rfl,rfl,rfl,h0,h1,h2⟩:=trodAll_three hA;obtain⟨rfl,rfl⟩:=trodVars_none hV;clear hA0;simp only[List.append_nil]at hW' hk;have hb:Rows.uptoBulkAll [d0,d1,d2]≤1048576:=of_decide_eq_true hk;simp only[Rows.uptoBulkAll]at hb;obtain⟨x0,r0,b0⟩:=L1 Tryz.underlying30 KG (hval 0 30 v0 rfl rfl) h0;obtain⟨x1,r1,b1⟩:=Xk Tryz.underlying3 (hval 1 3 v1 rfl rfl) h1;obtain⟨x2,r2,b2⟩:=Qe Tryz.underlying31 HH (hval 2 31 v2 rfl rfl) h2;refine(IR (vals:=[v0,v1,v2]) (hh x0 x1 x2 (b0 _ (by simp only[BK];omega)) (b1 _ (by simp only[BK];omega)) (b2 _ (by simp only[BK];omega))) ht (by simp only[aZ];exact⟨_,_,rfl,r0,⟨_,_,rfl,r1,⟨_,_,rfl,r2,rfl⟩⟩⟩)).mono fun e W' ⟨he,hg⟩=>?_
 subst he;exact⟨_,rfl,Pu laid (by
   intro t ht;have ht:t∈[30,3,31]:=ht;simp only[List.mem_cons,List.not_mem_nil,or_false]at ht;rcases ht with rfl|rfl|rfl
   · exact HV
   · exact XK
   · exact RZ
   ) rfl Tryz.underlying4 rfl (gs:=[]) (by simpa using hW') rfl rfl rfl hg⟩
def cellsOf:DataW Unit→Array Value
 | .agg l=>(l.map fun d=>match d with| .lit (.int k n)=>Value.int k n|_=>undef).toArray
 | _=>#[]
noncomputable def AG(os:Os):World:=
 let w0:=World.holding Tryz.prog os ⟨#[],#[],[]⟩
 let put (h:Array Obj) (g:Nat) (cs:Array Value):Array Obj:=h.modify g fun
   | .cells _ t frozen=>.cells cs t frozen
   | o=>o
 let h1:=put w0.heap 2 (cellsOf Rows.laid_math_bits_deBruijn32tab)
 let h2:=put h1 3 (cellsOf Rows.laid_math_bits_deBruijn64tab)
 let h3:=put h2 1 (cellsOf Rows.laid_internal_strconv_uint64pow10)
 { w0 with heap:=h3 }
theorem TH(os:Os):laidMet Tryz.prog Rows.relaxCountsUptoRow.laid ((AG os).forCall (fun _ _=>0) ⟨#[],#[.agg #[.slice none 0 0,.slice none 0 0,.slice none 0 0,.slice none 0 0,.slice none 0 0,.slice none 0 0],.int .i64 0,.slice none 0 0],[]⟩).memory:=
 laidMet_of_run' 8 (by kernel_rfl) (by kernel_rfl)
theorem agR(os:Os){H:Type}(enc:TypeId×Value→H):∃places,DataW.whole enc Tryz.prog ((AG os).forCall (fun _ _=>0) ⟨#[],#[.agg #[.slice none 0 0,.slice none 0 0,.slice none 0 0,.slice none 0 0,.slice none 0 0,.slice none 0 0],.int .i64 0,.slice none 0 0],[]⟩).memory Tryz.f5.params.toList Rows.relaxCountsSpec.vars false (#[.agg #[.slice none 0 0,.slice none 0 0,.slice none 0 0,.slice none 0 0,.slice none 0 0,.slice none 0 0],.int .i64 0,.slice none 0 0]:Array Value).toList 8=some ([.agg [.agg [.nil,.nil],.nil,.nil,.nil,.nil],.lit (.int .i64 0),.nil],[],places):=
 ⟨[],by kernel_rfl⟩
theorem Zh(hh : Om)(os : Os)(started : os.Started)(H : Type)(enc : TypeId × Value → H)(F : Stop.Interp):
   ReturnsInHanded {} Tryz.checked os 5 .any ((Rows.OpenSpec.upto Rows.relaxCountsSpec).preRow enc Tryz.prog Tryz.f5 Rows.relaxCountsUptoRow.domain false Rows.relaxCountsUptoRow.laid) (((Rows.OpenSpec.upto Rows.relaxCountsSpec).at F).post enc Tryz.prog Tryz.f5 false true false false):=by
 obtain⟨places,hx⟩:=agR os enc;refine returnsInHanded_of_row (C:=Tryz.checked) (s:=Rows.OpenSpec.upto Rows.relaxCountsSpec) own started (by kernel_rfl) Tryz.func5
   (witness_row_atRef (enc:=enc) (C:=Tryz.checked) false (AG os) #[.agg #[.slice none 0 0,.slice none 0 0,.slice none 0 0,.slice none 0 0,.slice none 0 0,.slice none 0 0],.int .i64 0,.slice none 0 0] rfl (by kernel_rfl) (by kernel_rfl) (by kernel_rfl)
     (OpenSpec.preRow_of_cond 8 hx (by kernel_rfl) (fun k hk=>by cases hk;kernel_rfl) (by kernel_rfl) (TH os))) ?_
 intro W base args ds gs before hval hW _ hk _ hlaid _ _;exact T4 hh H enc W base args ds gs before hval hW (hk _ rfl) (Pi hlaid)
theorem ZT{a b:Bool}(h1:a=true)(h2:b=true):(a&&b)=true:=by rw[h1,h2];rfl
set_option maxHeartbeats 4000000 in
theorem YM:joinedFacts Tryz.prog 5 Tryz.f5 (Rows.OpenSpec.upto Rows.relaxCountsSpec).bare Rows.relaxCountsUptoRow=true:=by
  unfold joinedFacts
  repeat' (first|with_reducible refine ZT ?_ ?_|(as_aux_lemma=>kernel_rfl))
set_option maxHeartbeats 4000000 in
theorem over (hh:Om):Rows.RelaxCountsUptoSaid:=
  OpenClaim.holds_of_cond 5 Tryz.f5 rfl rfl rfl rfl rfl rfl rfl ⟨rfl,rfl,rfl,rfl,rfl⟩ rfl rfl rfl rfl rfl (by as_aux_lemma=>kernel_rfl) Tryz.func5 YM
    (of_decide_eq_true (by as_aux_lemma=>kernel_rfl)) (by unfold Func.isWrapper;first|(rw[if_pos (by decide +kernel)];kernel_rfl)|(rw[if_neg (by decide +kernel)];exact⟨rfl,rfl⟩))
    (fun os started H enc _ F=>by rw[OpenClaim.pre_eq_preRow];exact Zh hh os started H enc F)
set_option maxHeartbeats 4000000 in
theorem card (hh:Om):Rows.RelaxCountsUptoCardSaid:=
  Claim7.holds_tied_plain_at .later [] _ _ _ _ (over hh) (fun _ h=>by cases h) (by as_aux_lemma=>kernel_rfl) (fun _ h=>by cases h) relaxCountsUpto_row_tie rfl ⟨rfl,rfl⟩ (by as_aux_lemma=>kernel_rfl) rfl
    (fun f fn hf hfn=>by
      obtain rfl:f=5:=Option.some.inj ((show Tryz.prog.funcNamed "lorry/lorrylaw32.RelaxCounts" = some 5 by as_aux_lemma=>kernel_rfl).symm.trans hf) |>.symm
      obtain rfl:fn=Tryz.f5:=(Option.some.inj (Tryz.func5.symm.trans hfn)).symm
      refine⟨by as_aux_lemma=>kernel_rfl,fun j t ht=>?_⟩
      have ht:(#[30,3,31]:Array TypeId)[j]?=some t:=ht
      have hm:=Array.mem_of_getElem? ht
      simp only[Array.mem_def,List.mem_cons,List.not_mem_nil,or_false,or_self]at hm
      rcases hm with rfl|rfl|rfl
      · exact(show Tryz.prog.wantsStandIn 30=false by as_aux_lemma=>kernel_rfl)
      · exact(show Tryz.prog.wantsStandIn 3=false by as_aux_lemma=>kernel_rfl)
      · exact(show Tryz.prog.wantsStandIn 31=false by as_aux_lemma=>kernel_rfl)) (by as_aux_lemma=>kernel_rfl)
end Go.Proofs.YtdlijlecpopadaaGreatDoor.relaxCounts
end

section
namespace Go.Proofs.YtdlijlecpopadaaGreatDoor
open Go.Aw Go.Aw.D
theorem inB_of{x:Instance}(h:A9 1048576 x):InB x:=by
 obtain⟨⟨hpl,har⟩,hty,hor,hap,hbe⟩:=h;exact⟨hpl.1,hpl.2,har.1,fun a ha=>⟨(har.2 a ha).2.2.2.2.1.1,(har.2 a ha).2.2.2.2.2.1⟩,hty.1,fun t ht=>⟨(hty.2 t ht).1,(hty.2 t ht).2.2.2.2.1.1⟩,hor.1,fun t ht=>⟨(hor.2 t ht).1,(hor.2 t ht).2.1.1⟩,hap.1,hbe.1⟩
theorem relaxCounts_holds:Rows.RelaxCountsUptoCardSaid:=relaxCounts.card fun x n l hx _ hl=>Rx.EF x n l (inB_of hx) hl.1
#print axioms relaxCounts_holds
end Go.Proofs.YtdlijlecpopadaaGreatDoor
end
