/- Texts joined by a program: RxP, RxQ, RxR, RxS, RxM, CuAcc, RxN, RxT, RxU, RxV, RxO, RxW. -/
import Derived.Test.YtdlijlecpopadaaGreatDoorZv18
import Derived.Test.YtdlijlecpopadaaGreatDoorZv30
set_option linter.unusedSimpArgs false
set_option linter.unusedVariables false
set_option maxRecDepth 100000
section
namespace Go.Proofs.YtdlijlecpopadaaGreatDoor.Rx
open Go.Aw Go.Aw.D Go.Proofs Ty Go.Nu Go.So
open Sq (W iP dN iV NetOk dX)
open Nu (ltB geB)
open Mv (fF eI NC.pc bK)
structure Mom where
 time:Int
 driven:Int
structure RP where
 place:Int
 visits:Nat
 miles:Int
 moms:List Mom
 memory:Nat
 board:Nat
 load:List Int
 moved:Int
 other:Int
 dual:ByteArray
structure Rs where
 x:Instance
 t:VType
 kind:Nat
 near:List Int
 dual:List ByteArray
 most:Nat
 count:Int
 limited:Bool
 found:Bool
 least:ByteArray
section
variable(p:RP)
end
section
variable(w:Rs)
end
def VL(t:VType)(m:Mom):Mom:=⟨W (m.time+t.rest),0⟩
def dG(t:VType)(l:List Mom):List Mom:=l.flatMap fun m=>[m,VL t m]
def QC(n:Network)(t:VType)(place goal close:Int)(s:List Mom×Int)(m:Mom):List Mom×Int:=
 (if(((dX n t.profile place goal m.time).2.2 == 0&&decide ((dX n t.profile place goal m.time).1≤close))&&decide (W (W (m.driven+(dX n t.profile place goal m.time).1)-m.time)≤t.drive))=true
  then s.1++[⟨(dX n t.profile place goal m.time).1,W (W (m.driven+(dX n t.profile place goal m.time).1)-m.time)⟩]else s.1,(dX n t.profile place goal m.time).2.1)
def jA(n:Network)(t:VType)(place goal close:Int)(l:List Mom):List Mom×Int:=l.foldl (QC n t place goal close) ([],0)
def dA(a b:List Int)(sg:Int):List Int:=List.zipWith (fun x y=>W (x+W (sg*y))) a b
def oI(a c:List Int):Bool:=(List.range a.length).all fun i=> !decide (a.getD i 0>c.getD i 0)
end Go.Proofs.YtdlijlecpopadaaGreatDoor.Rx
end
section
namespace Go.Aw
open Go.RowKit
section
variable{P:Program}{f:FuncId}{args:List AV}{H H1:aF}{K:AV→aF→Prop}{r:AV}
end
end Go.Aw
namespace Go.Proofs.YtdlijlecpopadaaGreatDoor.Rx
open Go.Aw Go.Aw.D Go.Proofs Ty Go.Nu Go.So
open Sq (W iP dN iV NetOk dX)
open Nu (ltB geB)
open Mv (fF eI NC.pc bK)
def VV(l:List Mom):Int:=(l.getD 0 ⟨0,0⟩).time
def VE(l:List Mom):Int:=l.foldl (fun e m=>tQ e m.time) (VV l)
def Qw(t:VType)(e:Int):Int:=W (e-t.start)
def abP(t:VType)(e miles:Int):Int:=W (W (t.fixed+W (t.perMile*miles))+W (t.perTick*Qw t e))
def WU(t:VType)(p:RP)(e miles:Int):Int:=
 W (W (W (W (W (W (abP t e (W (p.miles+miles))*16)+p.moved)*16)+p.other)*65536)+W (W (Int.tdiv (Qw t e) 64)*W (Int.tdiv (Qw t e) 64)))
end Go.Proofs.YtdlijlecpopadaaGreatDoor.Rx
end
section
namespace Go.Proofs.YtdlijlecpopadaaGreatDoor.Rx
open Go.Aw Go.Aw.D Go.Proofs Ty Go.Nu Go.So
open Sq (W iP dN iV NetOk dX)
open Nu (ltB geB)
open Mv (fF eI NC.pc bK)
def uO(a:Int)(kind:Nat)(n:Int):Int:=if(decide (a≥0)&&a != (kind:Int))=true then W (n+1)else n
def Qa(s:Rs)(p:RP)(o:Nat):RP:={ p with memory:=yE s.near p.memory o s.near.length,moved:=uO (aG s.x o).now s.kind p.moved,other:=uO (aG s.x o).last s.kind p.other,dual:=(oF p.dual (s.dual.getD o ByteArray.empty)).1 }
structure RsOk(w:Rs):Prop where
 net:Sq.NetB w.x.net
 near:NearB w.near
 len:w.near.length=w.x.orders.length
 dlen:w.dual.length=w.x.orders.length
 dual:∀a∈w.dual,a.size≤1048576
end Go.Proofs.YtdlijlecpopadaaGreatDoor.Rx
end
section
namespace Go.Aw
end Go.Aw
namespace Go.Proofs.YtdlijlecpopadaaGreatDoor.Rx
open Go.Aw Go.Aw.D Go.Proofs Ty Go.Nu Go.So
open Sq (W iP dN iV NetOk dX)
open Nu (ltB geB)
open Mv (fF eI NC.pc bK)
def BD(s:Stop)(l:List Mom):List Mom:=l.map fun m=>⟨W (kC m.time s.start+s.service),m.driven⟩
def stR(o:Order)(d:Bool):Stop:=if d=true then o.drop else o.pick
def cM(o:Order)(d:Bool):Bool:= !d|| !kO o
def qE(p:RP)(o:Nat)(st:Bool):Bool:=(st&&(jK p.memory o||jK p.board o))||(!st&& !jK p.board o)
def gN(p:RP)(od:Order)(d:Bool):List Int:=if d=false then dA p.load od.load 1 else if kO od=true then dA p.load od.load (-1)else p.load
def mN(s:Rs)(p:RP)(o:Nat)(d:Bool):RP:=
 if cM (aG s.x o) d=true then(if kO (aG s.x o)=true then { Qa s p o with board:=p.board+2^o }else Qa s p o)else { p with board:=p.board-2^o }
def goR(s:Rs)(p:RP)(st:Stop)(miles:Int)(l:List Mom):RP:={ p with place:=st.place,visits:=p.visits+1,miles:=W (p.miles+miles),moms:=dG s.t (BD st l) }
def BU(s:Rs)(p:RP)(o:Nat)(d:Bool):RP×Bool:=
 if qE p o (cM (aG s.x o) d)=true then(p,false)
 else
   let a:=jA s.x.net s.t p.place (stR (aG s.x o) d).place (stR (aG s.x o) d).close p.moms
   if a.1.length=0 then(p,false)
   else
     let q:={ p with load:=gN p (aG s.x o) d }
     if oI q.load s.t.cap=true then(goR s (mN s q o d) (stR (aG s.x o) d) a.2 a.1,true)else(q,false)
end Go.Proofs.YtdlijlecpopadaaGreatDoor.Rx
end
section
namespace Go.Proofs.YtdlijlecpopadaaGreatDoor.Rx
open Go.Aw Go.Aw.D Go.Proofs Ty Go.Nu Go.So
open Sq (W iP dN iV NetOk)
open Nu (ltB geB)
open Mv (fF eI NC.pc bK)
theorem RU(a b:List Int)(ha:a.length≤1048576):PC Tryz.prog 13 [.sl (a.map aM),.sl (b.map aM)] (boo (decide (a=b))):=by
 refine PC.body (c:=Tryz.f13.body.getD .skip) (fun _=>false) mixed Tryz.func13 rfl (by kernel_rfl) ?_;unfold Tryz.f13;simp only[Option.getD_some];simp only[go_sem];refine aA (fun hb=>?_) (fun hb=>?_)
 · have hne:¬a=b:=fun e=>by subst e;simp at hb
   rw[decide_eq_false hne];simp only[go_sem];exact .refl _
 have hl:a.length=b.length:=by simp at hb;omega
 simp only[go_sem];refine⟨fun ρ H=>∃(k:Nat),k≤a.length∧ρ 0=.sl (a.map aM)∧ρ 1=.sl (b.map aM)∧ρ 12=int (a.length:Nat)∧ρ 13=int k∧a.take k=b.take k,fun ρ _=>a.length-bQ (ρ 13),⟨0,Nat.zero_le _,by simp only[go_sem],by simp only[go_sem],by simp only[go_sem,List.length_map],(by simp only[go_sem];rfl),rfl⟩,?_⟩;rintro ρ H ⟨k,hk,e0,e1,e12,e13,hz⟩;simp only[go_sem,e0,e1,e12,e13];refine aA (fun hlt=>?_) (fun hge=>?_)
 · have hlt:=ltB (by simpa using hlt)
   obtain⟨u,hu⟩:=bC hlt;obtain⟨v,hv⟩:=bC (l:=b) (k:=k) (by omega);have b1:=inB hlt;have b2:=inB (show k<b.length by omega);simp only[go_sem,e0,e1,e12,e13];refine kK [(0,true),(1,true),(2,true),(3,true),(4,true),(5,true),(6,true),(7,true),(8,true)] (by kernel_rfl) ?_;simp only[go_sem,e0,e1,e12,e13,aH hu,aH hv,b1,b2];refine aA (fun hb=>?_) (fun hb=>?_)
   · have hne:¬a=b:=fun e=>by subst e;rw[hu]at hv;injection hv with hv;subst hv;simp at hb
     rw[decide_eq_false hne];simp only[go_sem];exact .refl _
   · have huv:u=v:=by simpa using hb
     simp only[go_sem,e0,e1,e12,e13,bG (show k≤4611686018427387904 by omega)];exact⟨⟨k+1,hlt,rfl,by rw[cN hu,cN hv,hz,huv]⟩,by simp only[aI];omega⟩
 have hge:=geB hk (by simpa using hge);subst hge;rw[List.take_length,hl,List.take_length]at hz;rw[decide_eq_true hz];simp only[go_sem];exact .refl _
def D8(x:Instance)(size:Int):List Int×Int:=if(decide (size<1)||decide (size>10))=true then([],2)else(VU x size.toNat,0)
theorem GB(x:Instance)(size:Int)(hn:x.orders.length≤19)(hx:x.net.arcs.length≤1048576):PC Tryz.prog 11 [.agg (aQ x),int size] (.tup [.sl ((D8 x size).1.map aM),int (D8 x size).2]):=by
 unfold D8;by_cases h:(decide (size<1)||decide (size>10))=true
 · rw[if_pos h]
   refine PC.body (c:=Tryz.f11.body.getD .skip) (fun _=>false) mixed Tryz.func11 rfl (by kernel_rfl) ?_;unfold Tryz.f11;simp only[Option.getD_some];simp only[go_sem];refine aA (fun hb=>?_) (fun hb=>?_)
   · simp only[go_sem]
     exact .refl _
   · exact Bool.noConfusion (hb.symm.trans h)
 · rw[if_neg h]
   simp at h;obtain⟨n,rfl⟩:∃n:Nat,size=(n:Nat):=⟨size.toNat,by omega⟩;rw[Int.toNat_natCast];exact WT x n (by omega) (by omega) hn hx
def smA(i k:Nat):Arc:=⟨i,k,0,10,[⟨0,10⟩],[]⟩
def Df(i n:Nat):List Arc:=((List.range n).filter fun k=>i != k).map (smA i)
def rX(n:Nat):List Arc:=(List.range n).flatMap fun i=>Df i 3
def smT:VType:=⟨⟨#[118]⟩,1,0,0,[1],0,0,0,40,100,0,0,1,0⟩
def smO(s:ByteArray)(i:Nat):Order:=⟨s,[1],⟨-1,0,0,0⟩,⟨(i:Int)+1,0,90,0⟩,0,5,1,-1,-1,false⟩
def tF:List ByteArray:=[⟨#[111]⟩,⟨#[112]⟩]
def AZ(n:Nat):List Order:=(List.range n).map fun i=>smO (tF.getD i ByteArray.empty) i
def smP:List ByteArray:=[⟨#[72,117,98]⟩,⟨#[65]⟩,⟨#[66]⟩]
def smX:Instance:=⟨⟨smP,rX 3⟩,[smT],AZ 2,[],[]⟩
structure SmH(H:aF)(i0 j1 ja jo jp jb:Nat)(ty:AV)(arcs:List Arc)(os:List Order):Prop where
 r0:∃cs,H i0=some ⟨30,6,[cs]⟩
 ne:i0≠j1
 r1:H j1=some ⟨30,6,[[.sl (smP.map Go.Aw.D.cV),.os ja,ty,.os jo,.os jp,.os jb]]⟩
 ra:H ja=some ⟨139,6,arcs.map fC⟩
 ro:H jo=some ⟨143,16,os.map aX⟩
 rp:H jp=some ⟨192,2,[]⟩
 rb:H jb=some ⟨192,2,[]⟩
abbrev NI(ja:Nat)(ty:AV)(jo jp jb:Nat):Row:=⟨30,6,[[.sl (smP.map Go.Aw.D.cV),.os ja,ty,.os jo,.os jp,.os jb]]⟩
theorem SmH.app{H:aF}{i0 j1 ja jo jp jb:Nat}{ty:AV}{arcs:List Arc}{os:List Order}(h:SmH H i0 j1 ja jo jp jb ty arcs os){j2:Nat}(hj:H j2=none)(c:Arc):
   SmH (aJ (aJ (aJ H ja none) j2 (some ⟨139,6,(arcs++[c]).map fC⟩)) j1 (some (NI j2 ty jo jp jb))) i0 j1 j2 jo jp jb ty (arcs++[c]) os:=by
 obtain⟨⟨cs,r0⟩,ne,r1,ra,ro,rp,rb⟩:=h;have n0:=aO r0 hj;have n1:=aO r1 hj;have no:=aO ro hj;have np:=aO rp hj;have nb:=aO rb hj;have a0:=dO ra r0 rfl;have ao:=dO ra ro rfl;have ap:=dO ra rp rfl;have ab:=dO ra rb rfl;have o1:=dO ro r1 rfl;have p1:=dO rp r1 rfl;have c1:=dO rb r1 rfl;exact⟨⟨cs,by rw[aD _ _ _ _ ne,aD _ _ _ _ n0,aD _ _ _ _ a0.symm];exact r0⟩,ne,aB _ _ _,by rw[aD _ _ _ _ n1.symm,aB],
   by rw[aD _ _ _ _ o1,aD _ _ _ _ no,aD _ _ _ _ ao.symm];exact ro,by rw[aD _ _ _ _ p1,aD _ _ _ _ np,aD _ _ _ _ ap.symm];exact rp,by rw[aD _ _ _ _ c1,aD _ _ _ _ nb,aD _ _ _ _ ab.symm];exact rb⟩
theorem SmH.appO{H:aF}{i0 j1 ja jo jp jb:Nat}{ty:AV}{arcs:List Arc}{os:List Order}(h:SmH H i0 j1 ja jo jp jb ty arcs os){j2:Nat}(hj:H j2=none)(c:Order):
   SmH (aJ (aJ (aJ H jo none) j2 (some ⟨143,16,(os++[c]).map aX⟩)) j1 (some (NI ja ty j2 jp jb))) i0 j1 ja j2 jp jb ty arcs (os++[c]):=by
 obtain⟨⟨cs,r0⟩,ne,r1,ra,ro,rp,rb⟩:=h;have n0:=aO r0 hj;have n1:=aO r1 hj;have na:=aO ra hj;have np:=aO rp hj;have nb:=aO rb hj;have a0:=dO ro r0 rfl;have ao:=dO ro ra rfl;have ap:=dO ro rp rfl;have ab:=dO ro rb rfl;have a1:=dO ra r1 rfl;have p1:=dO rp r1 rfl;have c1:=dO rb r1 rfl;exact⟨⟨cs,by rw[aD _ _ _ _ ne,aD _ _ _ _ n0,aD _ _ _ _ a0.symm];exact r0⟩,ne,aB _ _ _,by rw[aD _ _ _ _ a1,aD _ _ _ _ na,aD _ _ _ _ ao.symm];exact ra,
   by rw[aD _ _ _ _ n1.symm,aB],by rw[aD _ _ _ _ p1,aD _ _ _ _ np,aD _ _ _ _ ap.symm];exact rp,by rw[aD _ _ _ _ c1,aD _ _ _ _ nb,aD _ _ _ _ ab.symm];exact rb⟩
theorem SmH.types{H:aF}{i0 j1 ja jo jp jb:Nat}{ty:AV}{arcs:List Arc}{os:List Order}(h:SmH H i0 j1 ja jo jp jb ty arcs os)(ty':AV):SmH (aJ H j1 (some (NI ja ty' jo jp jb))) i0 j1 ja jo jp jb ty' arcs os:=by
 obtain⟨⟨cs,r0⟩,ne,r1,ra,ro,rp,rb⟩:=h;exact⟨⟨cs,by rw[aD _ _ _ _ ne];exact r0⟩,ne,aB _ _ _,by rw[aD _ _ _ _ (dO ra r1 rfl)];exact ra,by rw[aD _ _ _ _ (dO ro r1 rfl)];exact ro,by rw[aD _ _ _ _ (dO rp r1 rfl)];exact rp,by rw[aD _ _ _ _ (dO rb r1 rfl)];exact rb⟩
theorem N8(k:Nat):AZ (k+1)=AZ k++[smO (tF.getD k ByteArray.empty) k]:=by
 unfold AZ;rw[List.range_succ,List.map_append];rfl
theorem Sv(k:Nat):(AZ k).length=k:=by unfold AZ;rw[List.length_map,List.length_range]
theorem Om(i k:Nat):Df i (k+1)=if(i != k)=true then Df i k++[smA i k]else Df i k:=by
 unfold Df;rw[List.range_succ,List.filter_append,List.map_append];simp only[List.filter];cases(i != k)with
 | true=>rfl
 | false=>simp
theorem BQ(i:Nat):rX (i+1)=rX i++Df i 3:=by
 unfold rX;rw[List.range_succ,List.flatMap_append];simp
theorem Ir(i k:Nat):(Df i k).length≤k:=by
 unfold Df;rw[List.length_map];exact Nat.le_trans (List.length_filter_le _ _) (by rw[List.length_range];exact Nat.le_refl k)
theorem DY:∀i,(rX i).length≤3*i
 | 0=>Nat.le_refl 0
 | i+1=>by
   rw[BQ,List.length_append];have:=DY i;have:=Ir i 3;omega
theorem Rt:PC Tryz.prog 35 [] (.agg (aQ smX)):=by
 refine PC.body (c:=Tryz.f35.body.getD .skip) (fun t=>t == 7||t == 8) mixed Tryz.func35 rfl (by kernel_rfl) ?_;unfold Tryz.f35;simp only[Option.getD_some];simp only[go_sem];refine aN fun i0 h_i0=>?_
 have R_i0:aJ bT i0 (some (⟨30,6,[[.sl [],.sl [],.sl [],.sl [],.sl [],.sl []]]⟩:Row)) i0=some ⟨30,6,[[.sl [],.sl [],.sl [],.sl [],.sl [],.sl []]]⟩:=aB _ _ _;generalize aJ bT i0 _=H0 at R_i0 ⊢;simp only[go_sem];refine aN fun a1 h_a1=>?_
 have R_i0:=cD h_a1 (some (⟨9,1,[]⟩:Row)) _ _ R_i0;have R_a1:aJ H0 a1 (some (⟨9,1,[]⟩:Row)) a1=some ⟨9,1,[]⟩:=aB _ _ _;generalize aJ H0 a1 _=H1 at R_i0 R_a1 ⊢;refine aN fun a2 h_a2=>?_
 have R_i0:=cD h_a2 (some (⟨139,6,[]⟩:Row)) _ _ R_i0;have R_a1:=cD h_a2 (some (⟨139,6,[]⟩:Row)) _ _ R_a1;have R_a2:aJ H1 a2 (some (⟨139,6,[]⟩:Row)) a2=some ⟨139,6,[]⟩:=aB _ _ _;generalize aJ H1 a2 _=H2 at R_i0 R_a1 R_a2 ⊢;refine aN fun b1 h_b1=>?_
 have R_i0:=cD h_b1 (some (⟨9,1,[]⟩:Row)) _ _ R_i0;have R_a1:=cD h_b1 (some (⟨9,1,[]⟩:Row)) _ _ R_a1;have R_a2:=cD h_b1 (some (⟨9,1,[]⟩:Row)) _ _ R_a2;have R_b1:aJ H2 b1 (some (⟨9,1,[]⟩:Row)) b1=some ⟨9,1,[]⟩:=aB _ _ _;generalize aJ H2 b1 _=H3 at R_i0 R_a1 R_a2 R_b1 ⊢;refine aN fun b2 h_b2=>?_
 have R_i0:=cD h_b2 (some (⟨139,6,[]⟩:Row)) _ _ R_i0;have R_a1:=cD h_b2 (some (⟨139,6,[]⟩:Row)) _ _ R_a1;have R_a2:=cD h_b2 (some (⟨139,6,[]⟩:Row)) _ _ R_a2;have R_b1:=cD h_b2 (some (⟨139,6,[]⟩:Row)) _ _ R_b1;have R_b2:aJ H3 b2 (some (⟨139,6,[]⟩:Row)) b2=some ⟨139,6,[]⟩:=aB _ _ _;generalize aJ H3 b2 _=H4 at R_i0 R_a1 R_a2 R_b1 R_b2 ⊢;refine aN fun jt h_jt=>?_
 have R_i0:=cD h_jt (some (⟨87,14,[]⟩:Row)) _ _ R_i0;have R_a1:=cD h_jt (some (⟨87,14,[]⟩:Row)) _ _ R_a1;have R_a2:=cD h_jt (some (⟨87,14,[]⟩:Row)) _ _ R_a2;have R_b1:=cD h_jt (some (⟨87,14,[]⟩:Row)) _ _ R_b1;have R_b2:=cD h_jt (some (⟨87,14,[]⟩:Row)) _ _ R_b2;have R_jt:aJ H4 jt (some (⟨87,14,[]⟩:Row)) jt=some ⟨87,14,[]⟩:=aB _ _ _;generalize aJ H4 jt _=H5 at R_i0 R_a1 R_a2 R_b1 R_b2 R_jt ⊢;refine aN fun jo h_jo=>?_
 have R_i0:=cD h_jo (some (⟨143,16,[]⟩:Row)) _ _ R_i0;have R_a1:=cD h_jo (some (⟨143,16,[]⟩:Row)) _ _ R_a1;have R_a2:=cD h_jo (some (⟨143,16,[]⟩:Row)) _ _ R_a2;have R_b1:=cD h_jo (some (⟨143,16,[]⟩:Row)) _ _ R_b1;have R_b2:=cD h_jo (some (⟨143,16,[]⟩:Row)) _ _ R_b2;have R_jt:=cD h_jo (some (⟨143,16,[]⟩:Row)) _ _ R_jt;have R_jo:aJ H5 jo (some (⟨143,16,[]⟩:Row)) jo=some ⟨143,16,[]⟩:=aB _ _ _;generalize aJ H5 jo _=H6 at R_i0 R_a1 R_a2 R_b1 R_b2 R_jt R_jo ⊢;refine aN fun jp h_jp=>?_
 have R_i0:=cD h_jp (some (⟨192,2,[]⟩:Row)) _ _ R_i0;have R_a1:=cD h_jp (some (⟨192,2,[]⟩:Row)) _ _ R_a1;have R_a2:=cD h_jp (some (⟨192,2,[]⟩:Row)) _ _ R_a2;have R_b1:=cD h_jp (some (⟨192,2,[]⟩:Row)) _ _ R_b1;have R_b2:=cD h_jp (some (⟨192,2,[]⟩:Row)) _ _ R_b2;have R_jt:=cD h_jp (some (⟨192,2,[]⟩:Row)) _ _ R_jt;have R_jo:=cD h_jp (some (⟨192,2,[]⟩:Row)) _ _ R_jo;have R_jp:aJ H6 jp (some (⟨192,2,[]⟩:Row)) jp=some ⟨192,2,[]⟩:=aB _ _ _;generalize aJ H6 jp _=H7 at R_i0 R_a1 R_a2 R_b1 R_b2 R_jt R_jo R_jp ⊢;refine aN fun jb h_jb=>?_
 have R_i0:=cD h_jb (some (⟨192,2,[]⟩:Row)) _ _ R_i0;have R_a1:=cD h_jb (some (⟨192,2,[]⟩:Row)) _ _ R_a1;have R_a2:=cD h_jb (some (⟨192,2,[]⟩:Row)) _ _ R_a2;have R_b1:=cD h_jb (some (⟨192,2,[]⟩:Row)) _ _ R_b1;have R_b2:=cD h_jb (some (⟨192,2,[]⟩:Row)) _ _ R_b2;have R_jt:=cD h_jb (some (⟨192,2,[]⟩:Row)) _ _ R_jt;have R_jo:=cD h_jb (some (⟨192,2,[]⟩:Row)) _ _ R_jo;have R_jp:=cD h_jb (some (⟨192,2,[]⟩:Row)) _ _ R_jp;have R_jb:aJ H7 jb (some (⟨192,2,[]⟩:Row)) jb=some ⟨192,2,[]⟩:=aB _ _ _;generalize aJ H7 jb _=H8 at R_i0 R_a1 R_a2 R_b1 R_b2 R_jt R_jo R_jp R_jb ⊢;refine aN fun j1 h_j1=>?_
 have n01:=aO R_i0 h_j1;have R_i0:=cD h_j1 (some (⟨30,6,[[.sl [],.sl [],.sl [],.sl [],.sl [],.sl []]]⟩:Row)) _ _ R_i0;have R_a1:=cD h_j1 (some (⟨30,6,[[.sl [],.sl [],.sl [],.sl [],.sl [],.sl []]]⟩:Row)) _ _ R_a1;have R_a2:=cD h_j1 (some (⟨30,6,[[.sl [],.sl [],.sl [],.sl [],.sl [],.sl []]]⟩:Row)) _ _ R_a2;have R_b1:=cD h_j1 (some (⟨30,6,[[.sl [],.sl [],.sl [],.sl [],.sl [],.sl []]]⟩:Row)) _ _ R_b1;have R_b2:=cD h_j1 (some (⟨30,6,[[.sl [],.sl [],.sl [],.sl [],.sl [],.sl []]]⟩:Row)) _ _ R_b2;have R_jt:=cD h_j1 (some (⟨30,6,[[.sl [],.sl [],.sl [],.sl [],.sl [],.sl []]]⟩:Row)) _ _ R_jt;have R_jo:=cD h_j1 (some (⟨30,6,[[.sl [],.sl [],.sl [],.sl [],.sl [],.sl []]]⟩:Row)) _ _ R_jo;have R_jp:=cD h_j1 (some (⟨30,6,[[.sl [],.sl [],.sl [],.sl [],.sl [],.sl []]]⟩:Row)) _ _ R_jp;have R_jb:=cD h_j1 (some (⟨30,6,[[.sl [],.sl [],.sl [],.sl [],.sl [],.sl []]]⟩:Row)) _ _ R_jb;have R_j1:aJ H8 j1 (some (⟨30,6,[[.sl [],.sl [],.sl [],.sl [],.sl [],.sl []]]⟩:Row)) j1=some ⟨30,6,[[.sl [],.sl [],.sl [],.sl [],.sl [],.sl []]]⟩:=aB _ _ _;generalize aJ H8 j1 _=H9 at R_i0 R_a1 R_a2 R_b1 R_b2 R_jt R_jo R_jp R_jb R_j1 ⊢;simp only[go_sem];refine aU R_j1 (by simp) ?_;have S:SmH (aJ H9 j1 (some (NI a2 (.os jt) jo jp jb))) i0 j1 a2 jo jp jb (.os jt) (rX 0) (AZ 0):=
   ⟨⟨_,by rw[aD _ _ _ _ n01];exact R_i0⟩,n01,aB _ _ _,by rw[aD _ _ _ _ (dO R_a2 R_j1 rfl)];exact R_a2,by rw[aD _ _ _ _ (dO R_jo R_j1 rfl)];exact R_jo,by rw[aD _ _ _ _ (dO R_jp R_j1 rfl)];exact R_jp,by rw[aD _ _ _ _ (dO R_jb R_j1 rfl)];exact R_jb⟩
 generalize hG:aJ H9 j1 _=G;replace S:SmH G i0 j1 a2 jo jp jb (.os jt) (rX 0) (AZ 0):=by rw[←hG];exact S
 clear hG;simp only[go_sem];refine⟨fun ρ H=>∃(k:Nat) (ja:Nat),k≤3∧ρ 0=.op i0 0 0∧ρ 1=.op j1 0 0∧ρ 9=int k∧SmH H i0 j1 ja jo jp jb (.os jt) (rX k) (AZ 0),fun ρ _=>3-bQ (ρ 9),⟨0,a2,Nat.zero_le _,by simp only[go_sem],by simp only[go_sem],(by simp only[go_sem];rfl),S⟩,?_⟩;rintro ρ H ⟨k,ja,hk,e0,e1,e9,S⟩;simp only[go_sem,e0,e1,e9];refine aA (fun hlt=>?_) (fun hge=>?_)
 · have hlt:k<3:=by have:=of_decide_eq_true hlt;omega
   have hal:=DY k;have hsu:=BQ k;simp only[go_sem,e0,e1,e9];generalize hk0:k=k0 at *;refine⟨fun ρ H=>∃(k:Nat) (ja:Nat),k≤3∧ρ 0=.op i0 0 0∧ρ 1=.op j1 0 0∧ρ 2=int (k0:Nat)∧ρ 9=int (k0:Nat)∧ρ 12=int k∧SmH H i0 j1 ja jo jp jb (.os jt) (rX k0++Df k0 k) (AZ 0),fun ρ _=>3-bQ (ρ 12),⟨0,ja,Nat.zero_le _,by simp only[go_sem,e0,e1,e9],by simp only[go_sem,e0,e1,e9],by simp only[go_sem,e0,e1,e9],by simp only[go_sem,e0,e1,e9],(by simp only[go_sem,e0,e1,e9];rfl),by rw[show rX k0++Df k0 0=rX k0 from List.append_nil _];exact S⟩,?_⟩;rintro ρ H ⟨k,ja,hk,e0,e1,e2,e9,e12,S⟩;simp only[go_sem,e0,e1,e2,e9,e12];refine aA (fun hlt=>?_) (fun hge=>?_)
   · have hlt2:k<3:=by have:=of_decide_eq_true hlt;omega
     have hsl:=Ir k0 k;have hss:=Om k0 k;simp only[go_sem,e0,e1,e2,e9,e12];have hbe:(((k0:Nat):Int) != ((k:Nat):Int))=(k0 != k):=by rw[Bool.eq_iff_iff];simp only[bne_iff_ne,ne_eq];omega
     rw[hbe];refine aA (fun hb=>?_) (fun hb=>?_)
     · rw[if_pos hb]at hss
       simp only[go_sem,e0,e1,e2,e9,e12,S.r1];refine bA S.ra ⟨rfl,rfl⟩ (by simp only[go_sem]) (by simp only[List.length_map,List.length_append,List.length_cons,List.length_nil];omega) (fun j2 hj2=>?_);have e:=S.app hj2 (smA k0 k);rw[List.map_append]at e;simp only[go_sem,e0,e1,e2,e9,e12];refine dU adD ((aD _ _ _ _ (aO S.r1 hj2)).trans ((aD _ _ _ _ (dO S.ra S.r1 rfl).symm).trans S.r1)) (by simp) ?_;simp only[go_sem,e0,e1,e2,e9,e12,bG (show k≤4611686018427387904 by omega)];refine⟨⟨k+1,j2,hlt2,rfl,?_⟩,by simp only[aI];omega⟩;rw[hss,←List.append_assoc];exact e
     · rw[if_neg (fun h=>Bool.noConfusion (hb.symm.trans h))]at hss
       simp only[go_sem,e0,e1,e2,e9,e12,bG (show k≤4611686018427387904 by omega)];exact⟨⟨k+1,ja,hlt2,rfl,by rw[hss];exact S⟩,by simp only[aI];omega⟩
   have hge:k=3:=by have:=of_decide_eq_false hge;omega
   subst hge;simp only[go_sem,e0,e1,e2,e9,e12,bG (show k0≤4611686018427387904 by omega)];exact⟨⟨k0+1,ja,hlt,rfl,by rw[hsu];exact S⟩,by simp only[aI];omega⟩
 have hge:k=3:=by have:=of_decide_eq_false hge;omega
 subst hge;simp only[go_sem,e0,e1,e9];refine dU abQ S.r1 (by simp) ?_;have S2:=S.types (.sl [bE smT]);generalize hG:aJ H j1 _=G2;replace S2:SmH G2 i0 j1 ja jo jp jb (.sl [bE smT]) (rX 3) (AZ 0):=by rw[←hG];exact S2
 clear hG S;simp only[go_sem,e0,e1,e9];have hnm:AV.sl [[.v (.string ⟨#[111]⟩)],[.v (.string ⟨#[112]⟩)]]=.sl (tF.map Go.Aw.D.cV):=rfl;refine⟨fun ρ H=>∃(k:Nat) (jo:Nat),k≤2∧ρ 0=.op i0 0 0∧ρ 1=.op j1 0 0∧ρ 36=.sl (tF.map Go.Aw.D.cV)∧ρ 37=int (2:Nat)∧ρ 38=int k∧SmH H i0 j1 ja jo jp jb (.sl [bE smT]) (rX 3) (AZ k),fun ρ _=>2-bQ (ρ 38),⟨0,jo,Nat.zero_le _,by simp only[go_sem,e0,e1,hnm],by simp only[go_sem,e0,e1,hnm],by simp only[go_sem,e0,e1,hnm],by simp only[go_sem,List.length_map,e0,e1,hnm],(by simp only[go_sem,e0,e1,hnm];rfl),S2⟩,?_⟩;rintro ρ H ⟨k,jo,hk,e0,e1,e36,e37,e38,S⟩;simp only[go_sem,e0,e1,e36,e37,e38];refine aA (fun hlt=>?_) (fun hge=>?_)
 · have hlt:k<2:=by have:=of_decide_eq_true hlt;omega
   obtain⟨nm,hn⟩:=bC (l:=tF) (k:=k) hlt;have b1:=inB (show k<tF.length from hlt);have hso:=N8 k;have hol:=Sv k;have hgn:tF.getD k ByteArray.empty=nm:=by rw[List.getD,hn];rfl
   rw[hgn]at hso;simp only[go_sem,e0,e1,e36,e37,e38,aH hn,b1,S.r1];rw[bG (show k≤4611686018427387904 by omega)];refine bA S.ro ⟨rfl,rfl⟩ (by simp only[go_sem]) (by simp only[List.length_map,hol,List.length_cons,List.length_nil];omega) (fun j2 hj2=>?_);have e:=S.appO hj2 (smO nm k);rw[List.map_append]at e;simp only[go_sem,e0,e1,e36,e37,e38];refine dU adU ((aD _ _ _ _ (aO S.r1 hj2)).trans ((aD _ _ _ _ (dO S.ro S.r1 rfl).symm).trans S.r1)) (by simp) ?_;simp only[go_sem,e0,e1,e36,e37,e38,bG (show k≤4611686018427387904 by omega)];refine⟨⟨k+1,j2,hlt,rfl,?_⟩,by simp only[aI];omega⟩;rw[hso];exact e
 have hge:k=2:=by have:=of_decide_eq_false hge;omega
 subst hge;obtain⟨cs,r0⟩:=S.r0;simp only[go_sem,e0,e1,e36,e37,e38,S.r1];refine aU r0 (by simp) ?_;have n0:=S.ne;have a0:=dO S.ra r0 rfl;have o0:=dO S.ro r0 rfl;have p0:=dO S.rp r0 rfl;have c0:=dO S.rb r0 rfl;simp only[go_sem,e0,e1,e36,e37,e38];refine .agg _ _ (.cons _ _ _ _ (.refl _) (.cons _ _ _ _ (.row _ _ _ ((aD _ _ _ _ a0).trans S.ra) (ConvE.refl _)) (.cons _ _ _ _ (.refl _) (.cons _ _ _ _ (.row _ _ _ ((aD _ _ _ _ o0).trans S.ro) (ConvE.refl _)) (.cons _ _ _ _ (.row _ _ _ ((aD _ _ _ _ p0).trans S.rp) (ConvE.refl _)) (.cons _ _ _ _ (.row _ _ _ ((aD _ _ _ _ c0).trans S.rb) (ConvE.refl _)) .nil))))))
theorem Lw:XB 1 smX where
 net:=⟨by decide +kernel,by decide +kernel,by decide +kernel⟩
 dim:=by decide +kernel
 cap:=by decide +kernel
 D:=by decide
 n:=by decide
 types:=by decide
def smD:List ByteArray:=[⟨#[50,53,49,54,53,56,50,52,48]⟩,⟨#[54,55,49,48,56,56,54,52]⟩]
theorem PQ:D8 smX 1=([1,2],0):=by decide +kernel
theorem Qp:D8 smX 2=([3,3],0):=by decide +kernel
theorem S9:D8 smX 0=([],2):=by decide +kernel
theorem Q6:pC smX 0 smD [1,2]=(⟨#[56,51,56,56,54,48,56,48]⟩,true,0):=by decide +kernel
theorem Oc:pC smX 0 [⟨#[49]⟩,⟨#[120]⟩] [1,2]=(emp,false,3):=by decide +kernel
theorem OL:yU smX 0 [1,2]=(4,0):=by decide +kernel
theorem Us:pM [1,2] 1 1=2:=by decide +kernel
theorem UN:pM [3,3] 1 1=3:=by decide +kernel
theorem wW:PC Tryz.prog 10 [] (boo true):=by
 have hn1:=GB smX 1 (by decide) (by decide);have hn2:=GB smX 2 (by decide) (by decide);have hn0:=GB smX 0 (by decide) (by decide);rw[PQ]at hn1;rw[Qp]at hn2;rw[S9]at hn0;have hb1:=Bq smX Lw (by decide) 0 smD [1,2] (by decide) (by decide) (by decide);rw[Q6]at hb1;have hb2:=Bq smX Lw (by decide) 0 [⟨#[49]⟩,⟨#[120]⟩] [1,2] (by decide) (by decide) (by decide);rw[Oc]at hb2;have hr:=Pu smX Lw 0 [1,2] (by decide);rw[OL]at hr;have hm1:=Cc [1,2] 1 1 (by decide) ⟨by decide,by decide⟩ (by decide);rw[Us]at hm1;have hm2:=Cc [3,3] 1 1 (by decide) ⟨by decide,by decide⟩ (by decide);rw[UN]at hm2;refine PC.body (c:=Tryz.f10.body.getD .skip) (fun _=>false) mixed Tryz.func10 rfl (by kernel_rfl) ?_;unfold Tryz.f10;simp only[Option.getD_some];simp only[go_sem];refine PC.use Rt ?_;simp only[go_sem];refine aN fun i1 hi10=>?_
 simp only[go_sem];refine aU (aB _ _ _) (by simp[tM]) ?_;generalize hGi1:aJ (aJ _ i1 _) i1 _=HGi1;have R1:HGi1 i1=some ((⟨30,6,[aQ smX]⟩:Row)):=by rw[←hGi1,aB];try rfl
 clear hGi1 hi10;simp only[go_sem,R1];have hi1:=RU [1,2] [1,2] (by decide);have hi2:=RU [3,3] [3,3] (by decide);refine PC.use hn1 ?_;simp only[go_sem,R1];refine PC.use hn2 ?_;simp only[go_sem,R1];refine⟨_,fun _=>PC.q hi1 rfl,?_⟩;simp only[go_sem,R1];refine⟨_,fun _=>PC.q hi2 rfl,?_⟩;simp only[go_sem,R1];refine aA (fun hb=>nomatch hb) (fun _=>?_);simp only[go_sem,R1];refine PC.use hb1 ?_;simp only[go_sem,R1];refine PC.use hr ?_;simp only[go_sem,R1];refine PC.use hb2 ?_;simp only[go_sem,R1];refine PC.use hn0 ?_;simp only[go_sem,R1];refine⟨_,fun _=>PC.q hm1 rfl,?_⟩;simp only[go_sem,R1];refine⟨_,fun _=>PC.q hm2 rfl,?_⟩;simp only[go_sem,R1];exact .refl _
end Go.Proofs.YtdlijlecpopadaaGreatDoor.Rx
end
section
namespace Go.Proofs.YtdlijlecpopadaaGreatDoor
open Go.Aw Go.Aw.D Go.Proofs Ty
theorem eS{α:Type}{b:Bool}{f:α}(h:opt b f=[]):b=false:=by cases b <;> simp[opt]at h ⊢
theorem iY{n a b:Int}:inR n a b=true↔a≤n∧n≤b:=by
 unfold inR;simp only[Bool.and_eq_true,decide_eq_true_eq]
theorem mO{b:Bool}(h:(!b)=false):b=true:=by simpa using h
structure TypeB(t:VType)(d:Int):Prop where
 cap:uG t.cap d=true
 skills:0≤t.skills∧t.skills≤1073741823
 start:0≤t.start∧t.start≤t.close
 close:t.close≤4096
 drive:1≤t.drive∧t.drive≤4096
 rest:0≤t.rest∧t.rest≤4096
 count:0≤t.count∧t.count≤10
theorem SW{n:Network}{l:List VType}{k:Nat}{t:VType}(h:kB n l k t=[]):TypeB t (kW l):=by
 unfold kB at h;simp only[List.nil_append,List.append_eq_nil_iff]at h;obtain⟨⟨⟨⟨⟨⟨⟨⟨_,_⟩,h3⟩,_⟩,h5⟩,h6⟩,h7⟩,h8⟩,h9⟩:=h;have e3:=iY.1 (mO (eS h3));have e5:=mO (eS h5);have e6:=iY.1 (mO (eS h6));have e7:=Bool.or_eq_false_iff.1 (eS h7);have e8:=Bool.or_eq_false_iff.1 (eS h8);have q7:=iY.1 (mO e7.1);have q72:¬t.close>4096:=by simpa using e7.2
 exact⟨e5,e6,q7,by omega,iY.1 (mO e8.1),iY.1 (mO e8.2),e3⟩
structure OrdB(o:Order)(d:Int):Prop where
 load:dL o.load d=true
 pick: -1≤o.pick.place
 drop: -1≤o.drop.place
 both:(o.pick.place == -1&&o.drop.place == -1)=false
 wpick:dW o.pick=0
 wdrop:dW o.drop=0
 skills:0≤o.skills∧o.skills≤1073741823
 penalty: -1≤o.penalty∧o.penalty≤1000000
theorem UJ{P:Nat}{d T:Int}{l:List Order}{k:Nat}{o:Order}(h:jB P d T l k o=[]):OrdB o d:=by
 unfold jB at h;simp only[List.nil_append,List.append_eq_nil_iff]at h;obtain⟨⟨⟨⟨⟨⟨⟨_,_⟩,h3⟩,h4⟩,h5⟩,h6⟩,h7⟩,h8⟩:=h;have e4:=Bool.or_eq_false_iff.1 (eS h4);have e6:=Bool.or_eq_false_iff.1 (eS h6);have e8:=eS h8;simp only[Bool.or_eq_false_iff]at e8;refine⟨mO (eS h3),(iY.1 (mO e4.1)).1,(iY.1 (mO e4.2)).1,eS h5,by simpa using e6.1,by simpa using e6.2,iY.1 (mO (eS h7)),iY.1 (mO e8.1.1.1.1.1.1)⟩
structure ArcOk(a:Arc):Prop where
 travel:hY a.travel=[]
 slow:a.slow.length≤16
 pt:∀p∈a.slow,(0≤p.t∧p.t≤4096)∧0≤p.a∧p.a≤4096
theorem Qu{n:Network}{k:Nat}{a:Arc}(ha:n.arcs[k]?=some a)(h:A9 n k=[]):ArcOk a:=by
 unfold A9 at h;rw[lN ha]at h;simp only[List.nil_append,List.append_eq_nil_iff,List.map_eq_nil_iff]at h;obtain⟨⟨⟨_,h4⟩,h5⟩,h6⟩:=h;have e5:¬(a.slow.length:Int)>16:=by simpa using eS h5
 refine⟨h4,by omega,fun p hp=>?_⟩;obtain⟨i,hi,rfl⟩:=List.getElem_of_mem hp;have:=List.flatMap_eq_nil_iff.1 h6 i (List.mem_range.2 hi);have hb:=eS this;unfold mB at hb;rw[dD (List.getElem?_eq_getElem hi)]at hb;simp only[Bool.or_eq_false_iff]at hb;exact⟨iY.1 (mO hb.1.1),iY.1 (mO hb.1.2)⟩
structure PairB(N:Int)(q:Pair):Prop where
 a:0≤q.a∧q.a<N
 b:0≤q.b∧q.b<N
 ne:q.a≠q.b
theorem HX{N:Int}{l:List Pair}{w:ByteArray}{s:Bool}(h:qU N l w s=[]):l.length≤16∧∀q∈l,PairB N q:=by
 unfold qU at h;rw[List.append_eq_nil_iff]at h;have e1:¬(l.length:Int)>16:=by simpa using eS h.1
 refine⟨by omega,fun q hq=>?_⟩;obtain⟨i,hi,rfl⟩:=List.getElem_of_mem hq;have:=List.flatMap_eq_nil_iff.1 h.2 i (List.mem_range.2 hi);unfold fK at this;have ep:pAt l i=l[i]:=by simp[pAt,List.getD,hi]
 rw[ep]at this;split at this
 · simp at this
 · rename_i hb
   unfold Go.Proofs.YtdlijlecpopadaaGreatDoor.yM at hb;simp only[Bool.or_eq_false_iff,decide_eq_false_iff_not]at hb;exact⟨by omega,by omega,by simpa using hb.2⟩
structure Acc(x:Instance):Prop where
 arcs:x.net.arcs.length≤1024
 arc:∀a∈x.net.arcs,ArcOk a
 types:1≤x.types.length∧x.types.length≤6
 type:∀t∈x.types,TypeB t (kW x.types)
 orders:x.orders.length≤10
 order:∀o∈x.orders,OrdB o (kW x.types)
 apart:x.apart.length≤16
 apartB:∀q∈x.apart,PairB x.orders.length q
 before:x.before.length≤16
 beforeB:∀q∈x.before,PairB x.orders.length q
theorem Ta{x:Instance}(h:jE x=[]):Acc x:=by
 unfold jE at h;simp only[List.append_eq_nil_iff,List.map_eq_nil_iff]at h;obtain⟨⟨⟨hn,ht⟩,ho⟩,hr⟩:=h;unfold CO at hn;simp only[List.append_eq_nil_iff]at hn;unfold pI at ht;rw[List.append_eq_nil_iff]at ht;unfold nI at ho;rw[List.append_eq_nil_iff]at ho;unfold zH at hr;rw[List.append_eq_nil_iff]at hr;obtain⟨r1,r2⟩:=HX hr.1;obtain⟨r3,r4⟩:=HX hr.2;have e1:¬(x.net.arcs.length:Int)>1024:=by simpa using eS hn.1.2
 have e2:=iY.1 (mO (eS ht.1));have e3:¬(x.orders.length:Int)>10:=by simpa using eS ho.1
 refine⟨by omega,fun a ha=>?_,by omega,fun t htm=>?_,by omega,fun o hom=>?_,r1,r2,r3,r4⟩
 · obtain⟨i,hi,rfl⟩:=List.getElem_of_mem ha
   exact Qu (List.getElem?_eq_getElem hi) (List.flatMap_eq_nil_iff.1 hn.2 i (List.mem_range.2 hi))
 · obtain⟨i,hi,rfl⟩:=List.getElem_of_mem htm
   have:=List.flatMap_eq_nil_iff.1 ht.2 i (List.mem_range.2 hi);unfold gH at this;rw[List.map_eq_nil_iff,BJ (List.getElem?_eq_getElem hi)]at this;exact SW this
 · obtain⟨i,hi,rfl⟩:=List.getElem_of_mem hom
   have:=List.flatMap_eq_nil_iff.1 ho.2 i (List.mem_range.2 hi);unfold fD at this;rw[List.map_eq_nil_iff,Cm (List.getElem?_eq_getElem hi)]at this;exact UJ this
theorem sZ{l:List Int}{d:Int}(h:dL l d=true):(l.length:Int)=d∧∀n∈l,0≤n∧n≤1000:=by
 unfold dL at h;split at h
 · rename_i hd
   refine⟨hd,fun n hn=>?_⟩;have:=List.all_eq_true.1 h n hn;simp only[Bool.not_eq_true',Bool.or_eq_false_iff,decide_eq_false_iff_not]at this;omega
 · cases h
theorem Je{l:List Int}{d:Int}(h:uG l d=true):(l.length:Int)=d∧1≤d∧d≤3:=by
 unfold uG at h;split at h
 · cases h
 · rename_i hb
   simp only[Bool.not_eq_true,Bool.or_eq_false_iff]at hb;have h1:=iY.1 (mO hb.1);have h2:(l.length:Int)=d:=by simpa[bne]using hb.2
   omega
end Go.Proofs.YtdlijlecpopadaaGreatDoor
end
section
namespace Go.Proofs.YtdlijlecpopadaaGreatDoor.Rx
open Go.Aw Go.Aw.D Go.Proofs Ty Go.Nu Go.So
open Sq (W iP dN iV NetOk)
theorem Sc{x:Instance}{o:Nat}{d:Bool}(ho:o<x.orders.length)(h:(Sq.nP (aG x o) ⟨(o:Nat),d⟩).place≥0):dN x ⟨(o:Nat),d⟩=(Sq.nP (aG x o) ⟨(o:Nat),d⟩,0):=by
 have hb:oH ((o:Nat):Int) x.orders.length=false:=by unfold oH;simp;omega
 have hs:Sq.wY x ⟨(o:Nat),d⟩=(Sq.nP (aG x o) ⟨(o:Nat),d⟩,decide ((Sq.nP (aG x o) ⟨(o:Nat),d⟩).place≥0)):=by
   unfold Sq.wY;rw[if_neg (by rw[hb];simp)];show(match x.orders[(((o:Nat):Int)).toNat]? with|some o_1=>_|none=>_)=_;rw[Int.toNat_natCast,mU ho]
 unfold dN;rw[hs];show(if decide ((Sq.nP (aG x o) ⟨(o:Nat),d⟩).place≥0)=true then _ else _)=_;rw[if_pos (decide_eq_true h)]
theorem VJ{x:Instance}{o:Nat}(ho:o<x.orders.length):iP x.orders (o:Nat)=Sq.jH (aG x o) (o:Nat):=by
 have hb:oH ((o:Nat):Int) x.orders.length=false:=by unfold oH;simp;omega
 unfold iP;rw[if_neg (by rw[hb];simp)];show(match x.orders[(((o:Nat):Int)).toNat]? with|some o_1=>_|none=>_)=_;rw[Int.toNat_natCast,mU ho]
structure MinOf(b:Int)(M:Arc→Prop)(l:List Arc)(r:Int):Prop where
 le:r≤b
 lb:∀c∈l,M c→r≤c.miles
 at':r=b∨∃c∈l,M c∧r=c.miles
theorem nT(s i:Nat):jK s i=s.testBit i:=by
 unfold jK;rw[Nat.testBit_eq_decide_div_mod_eq,Bool.eq_iff_iff];simp
theorem Gk{x s:Nat}(h:x.testBit s=false):x+2^s=x ||| 2^s:=by
 have hd:x=2^(s+1)*(x/2^(s+1))+x%2^(s+1):=(Nat.div_add_mod x (2^(s+1))).symm;have hb:x%2^(s+1)<2^s:=by
   have h1:x/2^s%2=0:=by
     rw[Nat.testBit_eq_decide_div_mod_eq]at h;have:=of_decide_eq_false h;omega
   rw[Nat.mod_pow_succ,h1,Nat.mul_zero,Nat.add_zero];exact Nat.mod_lt x (Nat.two_pow_pos s)
 generalize x%2^(s+1)=b at *;generalize x/2^(s+1)=a at *;apply Nat.eq_of_testBit_eq;intro j;have h2:2^s+b<2^(s+1):=by rw[Nat.pow_succ];omega
 have hb2:b<2^(s+1):=by omega
 have e1:x+2^s=2^(s+1)*a+(2^s+b):=by omega
 rw[e1,Nat.testBit_two_pow_mul_add a h2 j,Nat.testBit_or,hd,Nat.testBit_two_pow_mul_add a hb2 j];by_cases hj:j<s+1
 · rw[if_pos hj,if_pos hj]
   by_cases e:j=s
   · subst e
     rw[Nat.testBit_two_pow_add_eq,Nat.testBit_two_pow_self,Nat.testBit_lt_two_pow hb];rfl
   · rw[Nat.testBit_two_pow_add_gt (by omega),Nat.testBit_two_pow_of_ne (by omega),Bool.or_false]
 · rw[if_neg hj,if_neg hj,Nat.testBit_two_pow_of_ne (by omega),Bool.or_false]
theorem Fb(near:List Int)(m o:Nat):∀k b,(yE near m o k).testBit b=(decide (b<k)&&(b == o||(jK m b&&jK (near.getD o 0).toNat b)))
 | 0,b=>by
   show(0:Nat).testBit b=_;simp
 | k+1,b=>by
   have ih:=Fb near m o k;have hlt:=B7 near m o k;rw[Bv];unfold OJ;have hk:(yE near m o k).testBit k=false:=Nat.testBit_lt_two_pow hlt;by_cases hc:(k == o||(jK m k&&jK (near.getD o 0).toNat k))=true
   · rw[if_pos hc,Gk hk,Nat.testBit_or,ih]
     by_cases e:b=k
     · subst e
       rw[Nat.testBit_two_pow_self,hc];simp
     · rw[Nat.testBit_two_pow_of_ne (fun h=>e h.symm),Bool.or_false]
       congr 1
       rw[Bool.eq_iff_iff];simp;omega
   · rw[if_neg hc,ih]
     by_cases e:b=k
     · subst e
       rw[Bool.not_eq_true]at hc;rw[hc];simp
     · congr 1
       rw[Bool.eq_iff_iff];simp;omega
theorem QG{near:List Int}{m o:Nat}(ho:o<near.length)(hm:m<2^near.length):pM near m o=yE near m o near.length:=by
 unfold pM;apply Nat.eq_of_testBit_eq;intro b;rw[Fb,Nat.testBit_or,Nat.testBit_and,nT,nT];have h2:(2^o).testBit b=(b == o):=by
   by_cases e:o=b
   · rw[e,Nat.testBit_two_pow_self];simp
   · rw[Nat.testBit_two_pow_of_ne e,Bool.eq_iff_iff];simp;omega
 rw[h2];by_cases hb:b<near.length
 · rw[decide_eq_true hb,Bool.true_and,Bool.or_comm]
 · rw[decide_eq_false hb,Bool.false_and,Nat.testBit_lt_two_pow (Nat.lt_of_lt_of_le hm (Nat.pow_le_pow_right (by decide) (by omega))),Bool.false_and,Bool.false_or,Bool.eq_false_iff]
   simp;omega
theorem PO{x:Instance}(h:jE x=[]):∀c∈x.net.arcs,0≤c.miles∧c.miles≤10000:=by
 unfold jE at h;simp only[List.append_eq_nil_iff,List.map_eq_nil_iff]at h;obtain⟨⟨⟨hn,_⟩,_⟩,_⟩:=h;unfold CO at hn;simp only[List.append_eq_nil_iff]at hn;intro c hc;obtain⟨i,hi,rfl⟩:=List.getElem_of_mem hc;have h2:=List.flatMap_eq_nil_iff.1 hn.2 i (List.mem_range.2 hi);unfold A9 at h2;rw[lN (List.getElem?_eq_getElem hi)]at h2;simp only[List.nil_append,List.append_eq_nil_iff]at h2;have h3:=eS h2.1.1.1.1.2;unfold tW at h3;simp only[Bool.or_eq_false_iff,decide_eq_false_iff_not]at h3;omega
end Go.Proofs.YtdlijlecpopadaaGreatDoor.Rx
end
section
namespace Go.Proofs.YtdlijlecpopadaaGreatDoor.Rx
open Go.Aw Go.Aw.D Go.Proofs Ty Go.Nu Go.So
open Sq (W iP dN iV NetOk dX pP)
open Nu (ltB geB)
open Mv (fF eI NC.pc bK)
structure Same(w a:Rs):Prop where
 ex:∃c f l,a={ w with count:=c,found:=f,least:=l }
 sz:a.least.size≤1048576
theorem Same.ok{w a:Rs}(h:Same w a)(hw:RsOk w):RsOk a:=by
 obtain⟨c,f,l,rfl⟩:=h.ex;exact⟨hw.net,hw.near,hw.len,hw.dlen,hw.dual⟩
structure RInv(n D:Nat)(p:RP):Prop where
 mem:p.memory<2^60
 board:p.board<2^n
 load:p.load.length=D
 moms:p.moms.length≤2^(p.visits+1)
 dual:p.dual.size≤8194
structure RsB(D:Nat)(w:Rs):Prop where
 ok:RsOk w
 dim:∀o,o<w.x.orders.length→(aG w.x o).load.length=D
 cap:w.t.cap.length=D
 D:D≤1048576
 n:w.x.orders.length≤60
 most:w.most≤16
theorem Same.b{D:Nat}{w a:Rs}(h:Same w a)(hw:RsB D w):RsB D a:=by
 have ho:=h.ok hw.ok;obtain⟨c,f,l,rfl⟩:=h.ex;exact⟨ho,hw.dim,hw.cap,hw.D,hw.n,hw.most⟩
def PN(t:VType)(k:Nat):RP:=⟨t.src,0,0,dG t [⟨t.start,0⟩],0,0,List.replicate k 0,0,0,dec 0⟩
end Go.Proofs.YtdlijlecpopadaaGreatDoor.Rx
end
section
namespace Go.Proofs.YtdlijlecpopadaaGreatDoor.Rx
open Go.Aw Go.Aw.D Go.Proofs Ty Go.Nu Go.So
open Sq (W iP dN iV NetOk)
open Nu (ltB geB)
open Mv (fF eI NC.pc bK)
theorem oR{x:Instance}{near:List Int}(h:lV x near=true)(hn:x.orders.length≤10):near.length=x.orders.length∧NearB near:=by
 unfold lV at h;rw[Bool.and_eq_true,List.all_eq_true]at h;have hl:near.length=x.orders.length:=by have:=h.1;simp at this;omega
 refine⟨hl,by omega,fun n hm=>?_⟩;obtain⟨i,hi,rfl⟩:=List.getElem_of_mem hm;have hb:=h.2 i (List.mem_range.2 hi);unfold oQ at hb;rw[List.getD,List.getElem?_eq_getElem hi]at hb;simp only[Option.getD_some,Bool.not_eq_true',Bool.or_eq_false_iff,decide_eq_false_iff_not]at hb;have h1:((2^near.length:Nat):Int)≤((2^10:Nat):Int):=by
   have:=Nat.pow_le_pow_right (n:=2) (by omega) (show near.length≤10 by omega);omega
 have:=hb.1;refine⟨by omega,?_⟩;have:((2^10:Nat):Int)=1024:=by decide
 omega
end Go.Proofs.YtdlijlecpopadaaGreatDoor.Rx
end
section
namespace Go.Proofs.YtdlijlecpopadaaGreatDoor.Rx
open Go.Aw Go.Aw.D Go.Proofs Ty Go.Nu Go.So
open Sq (W iP dN iV NetOk dX pP)
open Nu (ltB geB rJ)
open Mv (fF eI NC.pc bK)
structure XR(D:Nat)(x:Instance):Prop where
 net:Sq.NetB x.net
 dim:∀o,o<x.orders.length→(aG x o).load.length=D
 cap:∀k,k<x.types.length→(aE x k).cap.length=D
 D:D≤1048576
 n:x.orders.length≤8
def Up(x:Instance)(kind:Int):Bool:=decide (kind<0)||decide (kind≥(x.types.length:Int))
end Go.Proofs.YtdlijlecpopadaaGreatDoor.Rx
end
