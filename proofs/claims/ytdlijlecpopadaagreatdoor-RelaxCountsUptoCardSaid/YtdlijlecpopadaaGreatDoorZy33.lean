/- Texts joined by a program: RxR, RxS. -/
import Derived.Test.YtdlijlecpopadaaGreatDoorZy32

section
set_option linter.unusedSimpArgs false
set_option linter.unusedVariables false
namespace Go.Proofs.YtdlijlecpopadaaGreatDoor.Rx
open Go.Aw Go.Aw.D Go.Proofs Ty Go.Nu Go.So
open Sq (W jW eM kE NetOk dP)
open Nu (ltB geB Bt vI lC vM)
open Mv (fZ fA kI NC.pc bR)
set_option maxRecDepth 100000
def kQ(a:Int)(kind:Nat)(n:Int):Int:=if(decide (a≥0)&&a != (kind:Int))=true then W (n+1)else n
def pA(s:Rs)(p:RP)(o:Nat):RP:={ p with memory:=pD s.near p.memory o s.near.length,moved:=kQ (aJ s.x o).now s.kind p.moved,other:=kQ (aJ s.x o).last s.kind p.other,dual:=(qL p.dual (s.dual.getD o ByteArray.empty)).1 }
structure RsOk(w:Rs):Prop where
 net:Sq.NetB w.x.net
 near:NearB w.near
 len:w.near.length=w.x.orders.length
 dlen:w.dual.length=w.x.orders.length
 dual:∀a∈w.dual,a.size≤1048576
abbrev rp0:Row:=⟨177,10,[[int 0,int 0,int 0,.sl [],int 0,int 0,.sl [],int 0,int 0,str ByteArray.empty]]⟩
theorem QP(H0 : aE)(js : Nat)(w : Rs)(hj : H0 js = some (gL w))(p : RP)(o : Nat)(ho : o < w.x.orders.length)(h : RsOk w)(hm : p.memory < 2 ^ 62)(hd : p.dual.size ≤ 1048576):
   LC Tryz.prog 208 [.op js 0 0,.agg (jG p),int (o:Nat)] H0 (.agg (jG (pA w p o))):=by
 have b1:=inB ho;have g1:=aF (f:=aV) (iV ho);obtain⟨q,hq⟩:=aW (l:=w.dual) (k:=o) (by rw[h.dlen];exact ho);have hqd:w.dual.getD o ByteArray.empty=q:=by rw[List.getD,hq];rfl
 have b3:=inB (show o<w.dual.length by rw[h.dlen];exact ho);have g3:=aF (f:=Go.Aw.D.fL) hq;have eB:pA w p o={ p with memory:=pD w.near p.memory o w.near.length,moved:=kQ (aJ w.x o).now w.kind p.moved,other:=kQ (aJ w.x o).last w.kind p.other,dual:=(qL p.dual q).1 }:=by unfold pA;rw[hqd]
 generalize pA w p o=S at eB;refine LC.body (c:=Tryz.f208.body.getD .skip) (fun t=>t == 4) mixed Tryz.func208 rfl (by kernel_rfl) ?_;unfold Tryz.f208;simp only[Option.getD_some];simp only[go_sem];have U:=Sup.refl H0;refine aL fun j4 hj40=>?_
 have n_j4:=U.none hj40;generalize hGj4:aG _ j4 _=HGj4;replace U:=Sup.eq (U.upd n_j4 _) hGj4;have R4:HGj4 j4=some (lO p):=by rw[←hGj4,aA];try rfl
 clear hGj4 hj40;simp only[go_sem,R4];refine aL fun j6 hj60=>?_
 have ne_j4_j6:j4≠j6:=aN R4 hj60;have n_j6:=U.none hj60;generalize hGj6:aG _ j6 _=HGj6;replace U:=Sup.eq (U.upd n_j6 _) hGj6;replace R4:=(congrFun hGj6.symm j4).trans ((aC _ _ _ _ ne_j4_j6).trans R4);have R6:HGj6 j6=some (rp0):=by rw[←hGj6,aA];try rfl
 clear hGj6 hj60;simp only[go_sem,R6,R4];have hjs:=U.at hj;have njs4:js≠j4:=Sup.ne (Sup.refl H0) hj n_j4;have njs6:js≠j6:=Sup.ne (Sup.refl H0) hj n_j6;simp only[go_sem,hjs,R4,R6,g1,b1];refine aL fun j7 hj70=>?_
 have ne_j4_j7:j4≠j7:=aN R4 hj70;have ne_j6_j7:j6≠j7:=aN R6 hj70;simp only[go_sem,R4,R6];refine aP (aA _ _ _) (by simp[iY]) ?_;have n_j7:=U.none hj70;generalize hGj7:aG (aG _ j7 _) j7 _=HGj7;replace U:=Sup.eq ((U.upd n_j7 _).upd n_j7 _) hGj7;replace R4:=(congrFun hGj7.symm j4).trans ((aC _ _ _ _ ne_j4_j7).trans ((aC _ _ _ _ ne_j4_j7).trans R4));replace R6:=(congrFun hGj7.symm j6).trans ((aC _ _ _ _ ne_j6_j7).trans ((aC _ _ _ _ ne_j6_j7).trans R6));have R7:HGj7 j7=some (uQ (aJ w.x o)):=by rw[←hGj7,aA];try rfl
 clear hGj7 hj70;simp only[go_sem,R7,R4,R6];have hjs:=U.at hj;have njs7:js≠j7:=Sup.ne (Sup.refl H0) hj n_j7;refine dJ [js] [(0,true),(1,true),(2,true),(3,true),(4,true),(6,true),(5,false),(7,false),(8,false),(9,false)] (by simp[hjs]) (by kernel_rfl) fun Hp Hr hp hr _ hr0=>?_
 have P_hjs:=(hp js (by simp)).trans hjs;have Q_R4:=(hr j4 (by simp[njs4.symm])).trans R4;simp only[go_sem,P_hjs,Q_R4];refine PC.use (VL w.near p.memory o h.near (by rw[h.len];exact ho) hm) ?_;simp only[go_sem,Q_R4];refine bY so3 Q_R4 (by simp[dE]) ?_;refine fC hr (by simp[njs4.symm]) ?_;generalize hP:aG _ j4 _=HP;replace U:=Sup.eq (U.upd n_j4 _) hP;replace R6:=(congrFun hP.symm j6).trans ((aC _ _ _ _ (by first|exact ne_j6_j4|exact ne_j4_j6.symm)).trans R6);replace R7:=(congrFun hP.symm j7).trans ((aC _ _ _ _ (by first|exact ne_j7_j4|exact ne_j4_j7.symm)).trans R7);replace R4:HP j4=some (lO { p with memory:=pD w.near p.memory o w.near.length }):=by rw[←hP,aA];rfl
 clear hP;simp only[go_sem,R4,R6,R7];have hjs:=U.at hj;refine dJ [js,j7] [(0,true),(1,true),(2,true),(3,true),(4,true),(5,true),(6,true),(7,true),(8,true),(9,true),(10,true),(11,true)] (by simp[hjs,R7]) (by kernel_rfl) fun Hp Hr hp hr _ hr0=>?_
 have P_hjs:=(hp js (by simp)).trans hjs;have P_R7:=(hp j7 (by simp)).trans R7;simp only[go_sem,P_hjs,P_R7];refine eA hr ?_;simp only[go_sem];generalize pD w.near p.memory o w.near.length=M at *;refine aU (fun ρ' H'=>ρ' 0=.op js 0 0∧ρ' 2=int (o:Nat)∧ρ' 4=.op j4 0 0∧ρ' 6=.op j6 0 0∧ρ' 7=.op j7 0 0∧H' j4=some (lO { p with memory:=M,moved:=kQ (aJ w.x o).now w.kind p.moved })∧H' j6=some rp0∧H' j7=some (uQ (aJ w.x o))∧Sup H0 H') ?_ fun K hK=>aB (fun hb=>?_) (fun hb=>?_)
 rotate_left
 · have e1:kQ (aJ w.x o).now w.kind p.moved=W (p.moved+1):=if_pos hb
   rw[e1]at hK;simp only[go_sem,R4];refine bY so3 R4 (by simp[dE]) ?_;generalize hP:aG _ j4 _=HP;replace U:=Sup.eq (U.upd n_j4 _) hP;replace R6:=(congrFun hP.symm j6).trans ((aC _ _ _ _ (by first|exact ne_j6_j4|exact ne_j4_j6.symm)).trans R6);replace R7:=(congrFun hP.symm j7).trans ((aC _ _ _ _ (by first|exact ne_j7_j4|exact ne_j4_j7.symm)).trans R7);replace R4:HP j4=some (lO { p with memory:=M,moved:=W (p.moved+1) }):=by rw[←hP,aA];rfl
   clear hP;simp only[go_sem,R4,R6,R7];refine hK _ _ ⟨by simp only[go_sem],by simp only[go_sem],by simp only[go_sem],by simp only[go_sem],by simp only[go_sem],R4,R6,R7,U⟩
 · have e1:kQ (aJ w.x o).now w.kind p.moved=p.moved:=if_neg (fun h=>Bool.noConfusion (hb.symm.trans h))
   rw[e1]at hK;refine hK _ _ ⟨by simp only[go_sem],by simp only[go_sem],by simp only[go_sem],by simp only[go_sem],by simp only[go_sem],R4,R6,R7,U⟩
 rintro ρ H ⟨e0,e2,e4,e6,e7,R4,R6,R7,U⟩;have hjs:=U.at hj;generalize kQ (aJ w.x o).now w.kind p.moved=MV at *;simp only[go_sem,e0,e2,e4,e6,e7];refine dJ [js,j7] [(0,true),(1,true),(2,true),(3,true),(4,true),(5,true),(6,true),(7,true),(8,true),(9,true),(10,true),(11,true)] (by simp[hjs,R7]) (by kernel_rfl) fun Hp Hr hp hr _ hr0=>?_
 have P_hjs:=(hp js (by simp)).trans hjs;have P_R7:=(hp j7 (by simp)).trans R7;simp only[go_sem,e0,e2,e4,e6,e7,P_hjs,P_R7];refine eA hr ?_;simp only[go_sem,e0,e2,e4,e6,e7];refine aU (fun ρ' H'=>ρ' 0=.op js 0 0∧ρ' 2=int (o:Nat)∧ρ' 4=.op j4 0 0∧ρ' 6=.op j6 0 0∧H' j4=some (lO { p with memory:=M,moved:=MV,other:=kQ (aJ w.x o).last w.kind p.other })∧H' j6=some rp0∧Sup H0 H') ?_ fun K hK=>aB (fun hb=>?_) (fun hb=>?_)
 rotate_left
 · have e1:kQ (aJ w.x o).last w.kind p.other=W (p.other+1):=if_pos hb
   rw[e1]at hK;simp only[go_sem,e0,e2,e4,e6,e7,R4];refine bY so3 R4 (by simp[dE]) ?_;generalize hP:aG _ j4 _=HP;replace U:=Sup.eq (U.upd n_j4 _) hP;replace R6:=(congrFun hP.symm j6).trans ((aC _ _ _ _ (by first|exact ne_j6_j4|exact ne_j4_j6.symm)).trans R6);replace R4:HP j4=some (lO { p with memory:=M,moved:=MV,other:=W (p.other+1) }):=by rw[←hP,aA];rfl
   clear hP;simp only[go_sem,e0,e2,e4,e6,e7,R4,R6];refine hK _ _ ⟨by simp only[go_sem,e0,e2,e4,e6,e7],by simp only[go_sem,e0,e2,e4,e6,e7],by simp only[go_sem,e0,e2,e4,e6,e7],by simp only[go_sem,e0,e2,e4,e6,e7],R4,R6,U⟩
 · have e1:kQ (aJ w.x o).last w.kind p.other=p.other:=if_neg (fun h=>Bool.noConfusion (hb.symm.trans h))
   rw[e1]at hK;simp only[go_sem];refine hK _ _ ⟨by simp only[go_sem,e0,e2,e4,e6,e7],by simp only[go_sem,e0,e2,e4,e6,e7],by simp only[go_sem,e0,e2,e4,e6,e7],by simp only[go_sem,e0,e2,e4,e6,e7],R4,R6,U⟩
 rintro ρ H ⟨e0,e2,e4,e6,R4,R6,U⟩;have hjs:=U.at hj;generalize kQ (aJ w.x o).last w.kind p.other=OT at *;simp only[go_sem,e0,e2,e4,e6];refine dJ [js] [(0,true),(2,true),(3,true),(4,true),(5,true),(6,true),(7,true),(8,true),(1,false),(9,false),(10,true),(11,true),(12,true),(13,true),(14,false)] (by simp[hjs]) (by kernel_rfl) fun Hp Hr hp hr _ hr0=>?_
 have P_hjs:=(hp js (by simp)).trans hjs;have Q_R4:=(hr j4 (by simp[njs4.symm])).trans R4;simp only[go_sem,e0,e2,e4,e6,b3,g3,P_hjs,Q_R4];refine PC.use (vM _ _ hd (h.dual q (List.mem_of_getElem? hq))) ?_;simp only[go_sem,e0,e2,e4,e6,Q_R4];refine bY Qs Q_R4 (by simp[dE]) ?_;refine fC hr (by simp[njs4.symm]) ?_;generalize hP:aG _ j4 _=HP;replace U:=Sup.eq (U.upd n_j4 _) hP;replace R6:=(congrFun hP.symm j6).trans ((aC _ _ _ _ (by first|exact ne_j6_j4|exact ne_j4_j6.symm)).trans R6);replace R4:HP j4=some (lO { p with memory:=M,moved:=MV,other:=OT,dual:=(qL p.dual q).1 }):=by rw[←hP,aA];rfl
 clear hP;simp only[go_sem,e0,e2,e4,e6,R4,R6];refine aP R6 (by simp[dE]) ?_;simp only[go_sem,e0,e2,e4,e6];rw[←eB];exact lU.flat (U.upd n_j6 _) _
end Go.Proofs.YtdlijlecpopadaaGreatDoor.Rx
end

section
set_option linter.unusedSimpArgs false
set_option linter.unusedVariables false
namespace Go.Aw
theorem Lw{l:List Nat}{H Hr:aE}{K:Env→aE→Prop}{ρ:Env}{i j:Nat}{b:Row}(hr:∀k,k∉l→Hr k=H k)(hi:i∉l)(hj:Hr j=none)(h:H j=none→K ρ (aG (aG H i none) j (some b))):lD l H K ρ (aG (aG Hr i none) j (some b)):=fun h0 Hm h1 h2=>by
 have hjl:j∉l:=fun e=>by have:=h0 j e;rw[aA]at this;cases this
 have:Hm=aG (aG H i none) j (some b):=funext fun k=>by
   by_cases e:k∈l
   · rw[h1 k e,aC _ _ _ _ (fun e2=>hjl (by rw[←e2];exact e)),aC _ _ _ _ (fun e2=>hi (by rw[←e2];exact e))]
   · rw[h2 k e]
     by_cases e2:k=j
     · subst e2;rw[aA,aA]
     · rw[aC _ _ _ _ e2,aC _ _ _ _ e2]
       by_cases e3:k=i
       · subst e3;rw[aA,aA]
       · rw[aC _ _ _ _ e3,aC _ _ _ _ e3,hr k e]
 rw[this];exact h ((hr j hjl).symm.trans hj)
end Go.Aw
namespace Go.Proofs.YtdlijlecpopadaaGreatDoor.Rx
open Go.Aw Go.Aw.D Go.Proofs Ty Go.Nu Go.So
open Sq (W jW eM kE NetOk dP)
open Nu (ltB geB Bt vI lC vM)
open Mv (fZ fA kI NC.pc bR)
set_option maxRecDepth 100000
def kD(s:Stop)(l:List Mom):List Mom:=l.map fun m=>⟨W (kX m.time s.start+s.service),m.driven⟩
def stR(o:Order)(d:Bool):Stop:=if d=true then o.drop else o.pick
def dI(o:Order)(d:Bool):Bool:= !d|| !jB o
def pI(p:RP)(o:Nat)(st:Bool):Bool:=(st&&(jX p.memory o||jX p.board o))||(!st&& !jX p.board o)
def fN(p:RP)(od:Order)(d:Bool):List Int:=if d=false then dQ p.load od.load 1 else if jB od=true then dQ p.load od.load (-1)else p.load
def gU(s:Rs)(p:RP)(o:Nat)(d:Bool):RP:=
 if dI (aJ s.x o) d=true then(if jB (aJ s.x o)=true then { pA s p o with board:=p.board+2^o }else pA s p o)else { p with board:=p.board-2^o }
def goR(s:Rs)(p:RP)(st:Stop)(miles:Int)(l:List Mom):RP:={ p with place:=st.place,visits:=p.visits+1,miles:=W (p.miles+miles),moms:=cN s.t (kD st l) }
def fX(s:Rs)(p:RP)(o:Nat)(d:Bool):RP×Bool:=
 if pI p o (dI (aJ s.x o) d)=true then(p,false)
 else
   let a:=fU s.x.net s.t p.place (stR (aJ s.x o) d).place (stR (aJ s.x o) d).close p.moms
   if a.1.length=0 then(p,false)
   else
     let q:={ p with load:=fN p (aJ s.x o) d }
     if pF q.load s.t.cap=true then(goR s (gU s q o d) (stR (aJ s.x o) d) a.2 a.1,true)else(q,false)
theorem VU(b o:Nat)(h:jX b o=true):2^o≤b:=by
 unfold jX at h;have h1:b/2^o≠0:=fun e=>by rw[e]at h;simp at h
 rcases Nat.lt_or_ge b (2^o)with h2|h2
 · exact absurd (Nat.div_eq_of_lt h2) h1
 · exact h2
theorem XY(H0 : aE)(js : Nat)(w : Rs)(hj : H0 js = some (gL w))(p : RP)(o : Nat)(d : Bool)(ho : o < w.x.orders.length)(ho6 : w.x.orders.length ≤ 60)(h : RsOk w)(hm : p.memory < 2 ^ 62)(hbd : p.board < 2 ^ 61)(hd : p.dual.size ≤ 1048576)
   (hv:p.visits≤1048576) (hmo:p.moms.length≤524288) (hl:p.load.length=(aJ w.x o).load.length) (hlc:p.load.length=w.t.cap.length) (hll:p.load.length≤1048576):
   LC Tryz.prog 164 [.op js 0 0,.agg (jG p),.agg (bS ⟨(o:Nat),d⟩)] H0 (.tup [.agg (jG (fX w p o d).1),boo (fX w p o d).2]):=by
 refine LC.body (c:=Tryz.f164.body.getD .skip) (fun t=>t == 4||t == 14||t == 179) mixed Tryz.func164 rfl (by kernel_rfl) ?_;unfold Tryz.f164;simp only[Option.getD_some];simp only[go_sem];have U:=Sup.refl H0;refine aL fun j4 hj40=>?_
 have n_j4:=U.none hj40;generalize hGj4:aG _ j4 _=HGj4;replace U:=Sup.eq (U.upd n_j4 _) hGj4;have R4:HGj4 j4=some (lO p):=by rw[←hGj4,aA];try rfl
 clear hGj4 hj40;simp only[go_sem,R4];refine aL fun j6 hj60=>?_
 have ne_j4_j6:j4≠j6:=aN R4 hj60;have n_j6:=U.none hj60;generalize hGj6:aG _ j6 _=HGj6;replace U:=Sup.eq (U.upd n_j6 _) hGj6;replace R4:=(congrFun hGj6.symm j4).trans ((aC _ _ _ _ ne_j4_j6).trans R4);have R6:HGj6 j6=some (rp0):=by rw[←hGj6,aA];try rfl
 clear hGj6 hj60;simp only[go_sem,R6,R4];have b1:=inB ho;have g1:=aF (f:=aV) (iV ho);have njs4:js≠j4:=Sup.ne (Sup.refl H0) hj n_j4;have njs6:js≠j6:=Sup.ne (Sup.refl H0) hj n_j6;have hjs:=U.at hj;refine dJ [js] [(0,true),(1,true),(2,true),(3,true),(4,true),(5,true),(6,true),(7,true),(8,true),(9,false),(10,false)] (by simp[hjs]) (by kernel_rfl) fun Hp Hr hp hr _ hr0=>?_
 have P_hjs:=(hp js (by simp)).trans hjs;simp only[go_sem,g1,b1,P_hjs];refine aL fun j8 hq8=>?_
 simp only[go_sem];refine aP (aA _ _ _) (by simp[iY]) ?_;refine nY hr hq8 fun hj80=>?_
 have ne_j4_j8:j4≠j8:=aN R4 hj80;have ne_j6_j8:j6≠j8:=aN R6 hj80;have n_j8:=U.none hj80;generalize hGj8:aG (aG _ j8 _) j8 _=HGj8;replace U:=Sup.eq ((U.upd n_j8 _).upd n_j8 _) hGj8;replace R4:=(congrFun hGj8.symm j4).trans ((aC _ _ _ _ ne_j4_j8).trans ((aC _ _ _ _ ne_j4_j8).trans R4));replace R6:=(congrFun hGj8.symm j6).trans ((aC _ _ _ _ ne_j6_j8).trans ((aC _ _ _ _ ne_j6_j8).trans R6));have R8:HGj8 j8=some (uQ (aJ w.x o)):=by rw[←hGj8,aA];try rfl
 clear hGj8 hj80;simp only[go_sem,R8,R4,R6];have hjs:=U.at hj;have njs8:js≠j8:=Sup.ne (Sup.refl H0) hj n_j8;generalize hO:aJ w.x o=O at *;refine aL fun j10 hj100=>?_
 have ne_j4_j10:j4≠j10:=aN R4 hj100;have ne_j6_j10:j6≠j10:=aN R6 hj100;have ne_j8_j10:j8≠j10:=aN R8 hj100;simp only[go_sem,R4,R6,R8];refine aP (aA _ _ _) (by simp[jY]) ?_;have n_j10:=U.none hj100;generalize hGj10:aG (aG _ j10 _) j10 _=HGj10;replace U:=Sup.eq ((U.upd n_j10 _).upd n_j10 _) hGj10;replace R4:=(congrFun hGj10.symm j4).trans ((aC _ _ _ _ ne_j4_j10).trans ((aC _ _ _ _ ne_j4_j10).trans R4));replace R6:=(congrFun hGj10.symm j6).trans ((aC _ _ _ _ ne_j6_j10).trans ((aC _ _ _ _ ne_j6_j10).trans R6));replace R8:=(congrFun hGj10.symm j8).trans ((aC _ _ _ _ ne_j8_j10).trans ((aC _ _ _ _ ne_j8_j10).trans R8));have R10:HGj10 j10=some (lH O.pick):=by rw[←hGj10,aA];try rfl
 clear hGj10 hj100;simp only[go_sem,R10,R4,R6,R8];have njs10:js≠j10:=Sup.ne (Sup.refl H0) hj n_j10;refine aU (fun ρ' H'=>ρ' 0=.op js 0 0∧ρ' 4=.op j4 0 0∧ρ' 5=.rp (bS ⟨(o:Nat),d⟩) 0∧ρ' 6=.op j6 0 0∧ρ' 8=.op j8 0 0∧ρ' 10=.op j10 0 0∧ρ' 9=boo (jB O)∧H' j4=some (lO p)∧H' j6=some rp0∧H' j8=some (uQ O)∧H' j10=some (lH (stR O d))∧Sup H0 H') ?_ fun K hK=>aB (fun hb=>?_) (fun hb=>?_)
 rotate_left
 · have e1:stR O d=O.drop:=if_pos hb
   rw[e1]at hK;simp only[go_sem,R8];refine aP R10 (by simp[jY]) ?_;generalize hP:aG _ j10 _=HP;replace U:=Sup.eq (U.upd n_j10 _) hP;replace R4:=(congrFun hP.symm j4).trans ((aC _ _ _ _ (by first|exact ne_j4_j10|exact ne_j10_j4.symm)).trans R4);replace R6:=(congrFun hP.symm j6).trans ((aC _ _ _ _ (by first|exact ne_j6_j10|exact ne_j10_j6.symm)).trans R6);replace R8:=(congrFun hP.symm j8).trans ((aC _ _ _ _ (by first|exact ne_j8_j10|exact ne_j10_j8.symm)).trans R8);replace R10:HP j10=some (lH O.drop):=by rw[←hP,aA];rfl
   clear hP;simp only[go_sem,R10,R4,R6,R8];refine hK _ _ ⟨by simp only[go_sem],by simp only[go_sem],by simp only[go_sem],by simp only[go_sem],by simp only[go_sem],by simp only[go_sem],by simp only[go_sem];rfl,R4,R6,R8,R10,U⟩
 · have e1:stR O d=O.pick:=if_neg (fun h=>Bool.noConfusion (hb.symm.trans h))
   rw[e1]at hK;refine hK _ _ ⟨by simp only[go_sem],by simp only[go_sem],by simp only[go_sem],by simp only[go_sem],by simp only[go_sem],by simp only[go_sem],by simp only[go_sem];rfl,R4,R6,R8,R10,U⟩
 rintro ρ H ⟨e0,e4,e5,e6,e8,e10,e9,R4,R6,R8,R10,U⟩;have hjs:=U.at hj;simp only[go_sem,e0,e4,e5,e6,e8,e10,e9,R4];refine⟨_,fun _=>PC.q (xC p.memory o (by omega) (by omega)) rfl,?_⟩;simp only[go_sem,e0,e4,e5,e6,e8,e10,e9,R4];refine⟨_,fun _=>PC.q (xC p.board o (by omega) (by omega)) rfl,?_⟩;simp only[go_sem,e0,e4,e5,e6,e8,e10,e9,R4];refine⟨_,fun _=>PC.q (xC p.board o (by omega) (by omega)) rfl,?_⟩;simp only[go_sem,e0,e4,e5,e6,e8,e10,e9,R4];have eV:fX w p o d=if pI p o (dI O d)=true then(p,false)
   else
     let a:=fU w.x.net w.t p.place (stR O d).place (stR O d).close p.moms
     if a.1.length=0 then(p,false)
     else
       let q:={ p with load:=fN p O d }
       if pF q.load w.t.cap=true then(goR w (gU w q o d) (stR O d) a.2 a.1,true)else(q,false):=by unfold fX;rw[hO]
 generalize fX w p o d=V at eV;have hS:dI O d=(!d|| !jB O):=rfl;refine aB (fun hb=>?_) (fun hb=>?_)
 · have hb2:pI p o (dI O d)=true:=hb
   rw[if_pos hb2]at eV;subst eV;simp only[go_sem,e0,e4,e5,e6,e8,e10,e9,R4];refine aP R6 (by simp[dE]) ?_;simp only[go_sem,e0,e4,e5,e6,e8,e10,e9];exact lU.flat (U.upd n_j6 _) _
 have hb2:pI p o (dI O d)=false:=hb;rw[if_neg (fun h=>Bool.noConfusion (hb2.symm.trans h))]at eV;have hT:∀T:Stop,iC T=[int T.place,int T.start,int T.close,int T.service]:=fun _=>rfl
 simp only[go_sem,e0,e4,e5,e6,e8,e10,e9,R4,R10];generalize stR O d=T at *;refine LC.use (Dh H js w hjs p T.place T.close h.net (by omega)) ?_;have hAl:(fU w.x.net w.t p.place T.place T.close p.moms).1.length≤524288:=Nat.le_trans (by have:=AA w.x.net w.t p.place T.place T.close p.moms p.moms.length;rw[List.take_length]at this;exact this) hmo;generalize fU w.x.net w.t p.place T.place T.close p.moms=A at *;simp only[go_sem,e0,e4,e5,e6,e8,e10,e9,List.length_map];refine aB (fun hb=>?_) (fun hb=>?_)
 · have hz:A.1.length=0:=by simpa using hb
   simp only[hz,if_true]at eV;subst eV;simp only[go_sem,e0,e4,e5,e6,e8,e10,e9,R4];refine aP R6 (by simp[dE]) ?_;simp only[go_sem,e0,e4,e5,e6,e8,e10,e9];exact lU.flat (U.upd n_j6 _) _
 have hz:¬A.1.length=0:=by simpa using hb
 simp only[hz,if_false]at eV;simp only[go_sem,e0,e4,e5,e6,e8,e10,e9];refine aL fun j14 hj140=>?_
 have ne_j4_j14:j4≠j14:=aN R4 hj140;have ne_j6_j14:j6≠j14:=aN R6 hj140;have ne_j8_j14:j8≠j14:=aN R8 hj140;have ne_j10_j14:j10≠j14:=aN R10 hj140;have n_j14:=U.none hj140;generalize hGj14:aG _ j14 _=HGj14;replace U:=Sup.eq (U.upd n_j14 _) hGj14;replace R4:=(congrFun hGj14.symm j4).trans ((aC _ _ _ _ ne_j4_j14).trans R4);replace R6:=(congrFun hGj14.symm j6).trans ((aC _ _ _ _ ne_j6_j14).trans R6);replace R8:=(congrFun hGj14.symm j8).trans ((aC _ _ _ _ ne_j8_j14).trans R8);replace R10:=(congrFun hGj14.symm j10).trans ((aC _ _ _ _ ne_j10_j14).trans R10);have R14:HGj14 j14=some (mD []):=by rw[←hGj14,aA];try rfl
 clear hGj14 hj140;simp only[go_sem,e0,e4,e5,e6,e8,e10,e9,R14,R4,R6,R8,R10];refine⟨fun ρ H=>∃(k:Nat) (j14:Nat),k≤A.1.length∧ρ 0=.op js 0 0∧ρ 4=.op j4 0 0∧ρ 5=.rp (bS ⟨(o:Nat),d⟩) 0∧ρ 6=.op j6 0 0∧ρ 8=.op j8 0 0∧ρ 9=boo (jB O)∧ρ 10=.op j10 0 0∧ρ 11=boo (!d|| !jB O)∧ρ 12=.sl (A.1.map jT)∧ρ 13=int A.2∧ρ 15=int k∧ρ 14=.os j14∧H j4=some (lO p)∧H j6=some rp0∧H j8=some (uQ O)∧H j10=some (lH T)∧Sup H0 H∧H0 j14=none∧j4≠j14∧j6≠j14∧j8≠j14∧j10≠j14∧H j14=some (mD (kD T (A.1.take k))),fun ρ _=>A.1.length-bE (ρ 15),⟨0,j14,Nat.zero_le _,by simp only[go_sem,e0,e4,e5,e6,e8,e10,e9],by simp only[go_sem,e0,e4,e5,e6,e8,e10,e9],by simp only[go_sem,e0,e4,e5,e6,e8,e10,e9],by simp only[go_sem,e0,e4,e5,e6,e8,e10,e9],by simp only[go_sem,e0,e4,e5,e6,e8,e10,e9],by simp only[go_sem,e0,e4,e5,e6,e8,e10,e9],by simp only[go_sem,e0,e4,e5,e6,e8,e10,e9],by simp only[go_sem,e0,e4,e5,e6,e8,e10,e9],by simp only[go_sem,e0,e4,e5,e6,e8,e10,e9],by simp only[go_sem,e0,e4,e5,e6,e8,e10,e9],(by simp only[go_sem,e0,e4,e5,e6,e8,e10,e9];rfl),by simp only[go_sem],R4,R6,R8,R10,U,n_j14,ne_j4_j14,ne_j6_j14,ne_j8_j14,ne_j10_j14,R14⟩,?_⟩;rintro ρ H ⟨k,j14,hk,e0,e4,e5,e6,e8,e9,e10,e11,e12,e13,e15,e14,R4,R6,R8,R10,U,n_j14,ne_j4_j14,ne_j6_j14,ne_j8_j14,ne_j10_j14,R14⟩;simp only[go_sem,e0,e4,e5,e6,e8,e9,e10,e11,e12,e13,e15,e14];refine aB (fun hlt=>?_) (fun hge=>?_)
 · have hlt:=ltB (by simpa using hlt)
   obtain⟨m,hm⟩:=aW hlt;have b2:=inB hlt;have hs:kD T (A.1.take (k+1))=kD T (A.1.take k)++[⟨W (kX m.time T.start+T.service),m.driven⟩]:=by unfold kD;rw[cM hm,List.map_append];rfl
   have hln:(kD T (A.1.take k)).length≤k:=by unfold kD;rw[List.length_map,List.length_take];omega
   generalize kD T (A.1.take k)=L at *;simp only[go_sem,e0,e4,e5,e6,e8,e9,e10,e11,e12,e13,e15,e14];refine dJ [j10] [(0,true),(1,true),(2,true),(3,true),(4,true),(5,true),(6,true),(7,true),(8,true),(9,true),(10,true),(11,true),(12,true),(13,true),(14,true),(15,true),(16,true),(17,true),(18,false),(19,false),(20,true)] (by simp[R10]) (by kernel_rfl) fun Hp Hr hp hr _ hr0=>?_
   have P_R10:=(hp j10 (by simp)).trans R10;have Q_R14:=(hr j14 (by simp[ne_j10_j14.symm])).trans R14;simp only[go_sem,e0,e4,e5,e6,e8,e9,e10,e11,e12,e13,e15,e14,aF hm,b2,P_R10,Q_R14];refine aX Q_R14 ⟨rfl,rfl⟩ (by simp only[go_sem]) (by simp only[List.length_map,List.length_cons,List.length_nil];omega) (fun j15 hq15=>?_);simp only[go_sem,e0,e4,e5,e6,e8,e9,e10,e11,e12,e13,e15,e14];refine Lw hr (by simp[ne_j10_j14.symm]) hq15 fun hj150=>?_
   have ne_j4_j15:j4≠j15:=aN R4 hj150;have ne_j6_j15:j6≠j15:=aN R6 hj150;have ne_j8_j15:j8≠j15:=aN R8 hj150;have ne_j10_j15:j10≠j15:=aN R10 hj150;have n_j15:=U.none hj150;generalize hP:aG (aG _ j14 none) j15 _=HP;replace U:=Sup.eq ((U.upd n_j14 _).upd n_j15 _) hP;replace R4:=(congrFun hP.symm j4).trans ((aC _ _ _ _ ne_j4_j15).trans ((aC _ _ _ _ (by first|exact ne_j4_j14|exact ne_j14_j4.symm)).trans R4));replace R6:=(congrFun hP.symm j6).trans ((aC _ _ _ _ ne_j6_j15).trans ((aC _ _ _ _ (by first|exact ne_j6_j14|exact ne_j14_j6.symm)).trans R6));replace R8:=(congrFun hP.symm j8).trans ((aC _ _ _ _ ne_j8_j15).trans ((aC _ _ _ _ (by first|exact ne_j8_j14|exact ne_j14_j8.symm)).trans R8));replace R10:=(congrFun hP.symm j10).trans ((aC _ _ _ _ ne_j10_j15).trans ((aC _ _ _ _ (by first|exact ne_j10_j14|exact ne_j14_j10.symm)).trans R10));have R15:HP j15=some (mD (L++[⟨W (kX m.time T.start+T.service),m.driven⟩])):=by rw[←hP,aA];exact congrArg some (Af L ⟨W (kX m.time T.start+T.service),m.driven⟩)
   clear hP hj150;simp only[go_sem,e0,e4,e5,e6,e8,e9,e10,e11,e12,e13,e15,e14,R15,R4,R6,R8,R10];simp only[go_sem,e0,e4,e5,e6,e8,e9,e10,e11,e12,e13,e15,e14,bA (show k≤4611686018427387904 by omega)];refine⟨⟨k+1,j15,hlt,rfl,rfl,U,n_j15,ne_j4_j15,ne_j6_j15,ne_j8_j15,ne_j10_j15,?_⟩,by simp only[aH];omega⟩;rw[hs];exact R15
 have hge:=geB hk (by simpa using hge);subst hge;rw[List.take_length]at R14;simp only[go_sem,e0,e4,e5,e6,e8,e9,e10,e11,e12,e13,e15,e14];have hcl:=fun s=>(show(dQ p.load O.load s).length=p.load.length by unfold dQ;rw[List.length_zipWith];omega)
 refine aU (fun ρ' H'=>ρ' 0=.op js 0 0∧ρ' 4=.op j4 0 0∧ρ' 5=.rp (bS ⟨(o:Nat),d⟩) 0∧ρ' 6=.op j6 0 0∧ρ' 9=boo (jB O)∧ρ' 10=.op j10 0 0∧ρ' 11=boo (!d|| !jB O)∧ρ' 13=int A.2∧ρ' 14=.os j14∧(fN p O d).length=p.load.length∧H' j4=some (lO { p with load:=fN p O d })∧H' j6=some rp0∧H' j10=some (lH T)∧H' j14=some (mD (kD T A.1))∧Sup H0 H') ?_ fun K hK=>aB (fun hb=>?_) (fun hb=>?_)
 rotate_left
 · have hd0:d=false:=by cases d <;> simp_all
   have e1:fN p O d=dQ p.load O.load 1:=if_pos hd0;rw[e1]at hK;simp only[go_sem,e0,e4,e5,e6,e8,e9,e10,e11,e12,e13,e15,e14,R4,R8];refine PC.use (Fn p.load O.load 1 hll hl) ?_;simp only[go_sem,e0,e4,e5,e6,e8,e9,e10,e11,e12,e13,e15,e14,R4];refine bY Pg R4 (by simp[dE]) ?_;generalize hP:aG _ j4 _=HP;replace U:=Sup.eq (U.upd n_j4 _) hP;replace R6:=(congrFun hP.symm j6).trans ((aC _ _ _ _ (by first|exact ne_j6_j4|exact ne_j4_j6.symm)).trans R6);replace R10:=(congrFun hP.symm j10).trans ((aC _ _ _ _ (by first|exact ne_j10_j4|exact ne_j4_j10.symm)).trans R10);replace R14:=(congrFun hP.symm j14).trans ((aC _ _ _ _ (by first|exact ne_j14_j4|exact ne_j4_j14.symm)).trans R14);replace R4:HP j4=some (lO { p with load:=dQ p.load O.load 1 }):=by rw[←hP,aA];rfl
   clear hP;simp only[go_sem,e0,e4,e5,e6,e8,e9,e10,e11,e12,e13,e15,e14,R4,R6,R10,R14];refine hK _ _ ⟨by simp only[go_sem,e0,e4,e5,e6,e8,e9,e10,e11,e12,e13,e15,e14],by simp only[go_sem,e0,e4,e5,e6,e8,e9,e10,e11,e12,e13,e15,e14],by simp only[go_sem,e0,e4,e5,e6,e8,e9,e10,e11,e12,e13,e15,e14],by simp only[go_sem,e0,e4,e5,e6,e8,e9,e10,e11,e12,e13,e15,e14],by simp only[go_sem,e0,e4,e5,e6,e8,e9,e10,e11,e12,e13,e15,e14],by simp only[go_sem,e0,e4,e5,e6,e8,e9,e10,e11,e12,e13,e15,e14],by simp only[go_sem,e0,e4,e5,e6,e8,e9,e10,e11,e12,e13,e15,e14],by simp only[go_sem,e0,e4,e5,e6,e8,e9,e10,e11,e12,e13,e15,e14],by simp only[go_sem,e0,e4,e5,e6,e8,e9,e10,e11,e12,e13,e15,e14],hcl 1,R4,R6,R10,R14,U⟩
 · have hd1:d=true:=by cases d <;> simp_all
   have e1:fN p O d=if jB O=true then dQ p.load O.load (-1)else p.load:=if_neg (by rw[hd1];simp)
   simp only[go_sem,e0,e4,e5,e6,e8,e9,e10,e11,e12,e13,e15,e14];refine aB (fun hb=>?_) (fun hb=>?_)
   · rw[if_pos hb]at e1
     rw[e1]at hK;simp only[go_sem,e0,e4,e5,e6,e8,e9,e10,e11,e12,e13,e15,e14,R4,R8];refine PC.use (Fn p.load O.load (-1) hll hl) ?_;simp only[go_sem,e0,e4,e5,e6,e8,e9,e10,e11,e12,e13,e15,e14,R4];refine bY Pg R4 (by simp[dE]) ?_;generalize hP:aG _ j4 _=HP;replace U:=Sup.eq (U.upd n_j4 _) hP;replace R6:=(congrFun hP.symm j6).trans ((aC _ _ _ _ (by first|exact ne_j6_j4|exact ne_j4_j6.symm)).trans R6);replace R10:=(congrFun hP.symm j10).trans ((aC _ _ _ _ (by first|exact ne_j10_j4|exact ne_j4_j10.symm)).trans R10);replace R14:=(congrFun hP.symm j14).trans ((aC _ _ _ _ (by first|exact ne_j14_j4|exact ne_j4_j14.symm)).trans R14);replace R4:HP j4=some (lO { p with load:=dQ p.load O.load (-1) }):=by rw[←hP,aA];rfl
     clear hP;simp only[go_sem,e0,e4,e5,e6,e8,e9,e10,e11,e12,e13,e15,e14,R4,R6,R10,R14];refine hK _ _ ⟨by simp only[go_sem,e0,e4,e5,e6,e8,e9,e10,e11,e12,e13,e15,e14],by simp only[go_sem,e0,e4,e5,e6,e8,e9,e10,e11,e12,e13,e15,e14],by simp only[go_sem,e0,e4,e5,e6,e8,e9,e10,e11,e12,e13,e15,e14],by simp only[go_sem,e0,e4,e5,e6,e8,e9,e10,e11,e12,e13,e15,e14],by simp only[go_sem,e0,e4,e5,e6,e8,e9,e10,e11,e12,e13,e15,e14],by simp only[go_sem,e0,e4,e5,e6,e8,e9,e10,e11,e12,e13,e15,e14],by simp only[go_sem,e0,e4,e5,e6,e8,e9,e10,e11,e12,e13,e15,e14],by simp only[go_sem,e0,e4,e5,e6,e8,e9,e10,e11,e12,e13,e15,e14],by simp only[go_sem,e0,e4,e5,e6,e8,e9,e10,e11,e12,e13,e15,e14],hcl (-1),R4,R6,R10,R14,U⟩
   · rw[if_neg (fun h=>Bool.noConfusion (hb.symm.trans h))]at e1
     rw[e1]at hK;simp only[go_sem,e0,e4,e5,e6,e8,e9,e10,e11,e12,e13,e15,e14];refine hK _ _ ⟨by simp only[go_sem,e0,e4,e5,e6,e8,e9,e10,e11,e12,e13,e15,e14],by simp only[go_sem,e0,e4,e5,e6,e8,e9,e10,e11,e12,e13,e15,e14],by simp only[go_sem,e0,e4,e5,e6,e8,e9,e10,e11,e12,e13,e15,e14],by simp only[go_sem,e0,e4,e5,e6,e8,e9,e10,e11,e12,e13,e15,e14],by simp only[go_sem,e0,e4,e5,e6,e8,e9,e10,e11,e12,e13,e15,e14],by simp only[go_sem,e0,e4,e5,e6,e8,e9,e10,e11,e12,e13,e15,e14],by simp only[go_sem,e0,e4,e5,e6,e8,e9,e10,e11,e12,e13,e15,e14],by simp only[go_sem,e0,e4,e5,e6,e8,e9,e10,e11,e12,e13,e15,e14],by simp only[go_sem,e0,e4,e5,e6,e8,e9,e10,e11,e12,e13,e15,e14],rfl,R4,R6,R10,R14,U⟩
 rintro ρ H ⟨e0,e4,e5,e6,e9,e10,e11,e13,e14,hLl,R4,R6,R10,R14,U⟩;clear R8;generalize hL:fN p O d=L at *;have hjs:=U.at hj;simp only[go_sem,e0,e4,e5,e6,e9,e10,e11,e13,e14];refine dJ [js,j4] [(0,true),(1,true),(2,true),(3,true),(4,true),(5,true),(6,true),(7,false),(8,true)] (by simp[hjs,R4]) (by kernel_rfl) fun Hp Hr hp hr _ hr0=>?_
 have P_hjs:=(hp js (by simp)).trans hjs;have P_R4:=(hp j4 (by simp)).trans R4;simp only[go_sem,e0,e4,e5,e6,e9,e10,e11,e13,e14,P_hjs,P_R4];refine PC.use (Wt L w.t.cap (by omega) (by omega)) ?_;simp only[go_sem,e0,e4,e5,e6,e9,e10,e11,e13,e14];refine eA hr ?_;simp only[go_sem,e0,e4,e5,e6,e9,e10,e11,e13,e14];refine aB (fun hb=>?_) (fun hb=>?_)
 · have hf:pF L w.t.cap=false:=by simpa using hb
   rw[if_neg (fun h=>Bool.noConfusion (hf.symm.trans h))]at eV;subst eV;simp only[go_sem,e0,e4,e5,e6,e9,e10,e11,e13,e14,R4];refine aP R6 (by simp[dE]) ?_;simp only[go_sem,e0,e4,e5,e6,e9,e10,e11,e13,e14];exact lU.flat (U.upd n_j6 _) _
 have hf:pF L w.t.cap=true:=by simpa using hb
 rw[if_pos hf]at eV;simp only[go_sem,e0,e4,e5,e6,e9,e10,e11,e13,e14];have hjs:=U.at hj;have bN:=VU p.board o;have hp60:2^o≤2^60:=Nat.pow_le_pow_right (by decide) (by omega);have eO:gU w { p with load:=L } o d=if(!d|| !jB O)=true then(if jB O=true then { pA w { p with load:=L } o with board:=p.board+2^o }else pA w { p with load:=L } o)else { p with load:=L,board:=p.board-2^o }:=by unfold gU;rw[hO];rfl
 have hBl:=QP H js w hjs { p with load:=L } o ho h hm hd;have hbb:(pA w { p with load:=L } o).board=p.board:=rfl;have hOp:(gU w { p with load:=L } o d).visits=p.visits∧(gU w { p with load:=L } o d).place=p.place∧(gU w { p with load:=L } o d).miles=p.miles:=by
   rw[eO];split
   · split <;> exact⟨rfl,rfl,rfl⟩
   · exact⟨rfl,rfl,rfl⟩
 generalize gU w { p with load:=L } o d=Q at *;generalize pA w { p with load:=L } o=B at *;refine aU (fun ρ' H'=>ρ' 0=.op js 0 0∧ρ' 4=.op j4 0 0∧ρ' 6=.op j6 0 0∧ρ' 10=.op j10 0 0∧ρ' 13=int A.2∧ρ' 14=.os j14∧H' j4=some (lO Q)∧H' j6=some rp0∧H' j10=some (lH T)∧H' j14=some (mD (kD T A.1))∧Sup H0 H') ?_ fun K hK=>aB (fun hb=>?_) (fun hb=>?_)
 rotate_left
 · rw[if_pos hb]at eO
   simp only[go_sem,e0,e4,e5,e6,e9,e10,e11,e13,e14,R4];refine LC.use hBl ?_;simp only[go_sem,e0,e4,e5,e6,e9,e10,e11,e13,e14,R4];refine aP R4 (by simp[dE]) ?_;generalize hP:aG _ j4 _=HP;replace U:=Sup.eq (U.upd n_j4 _) hP;replace R6:=(congrFun hP.symm j6).trans ((aC _ _ _ _ (by first|exact ne_j6_j4|exact ne_j4_j6.symm)).trans R6);replace R10:=(congrFun hP.symm j10).trans ((aC _ _ _ _ (by first|exact ne_j10_j4|exact ne_j4_j10.symm)).trans R10);replace R14:=(congrFun hP.symm j14).trans ((aC _ _ _ _ (by first|exact ne_j14_j4|exact ne_j4_j14.symm)).trans R14);replace R4:HP j4=some (lO B):=by rw[←hP,aA];rfl
   clear hP;simp only[go_sem,e0,e4,e5,e6,e9,e10,e11,e13,e14,R4,R6,R10,R14];refine aB (fun hb=>?_) (fun hb=>?_)
   · rw[if_pos hb]at eO
     subst eO;simp only[go_sem,e0,e4,e5,e6,e9,e10,e11,e13,e14,R4];have w1:IntKind.i64.wrap ((B.board:Int)+((2^o:Nat):Int))=((p.board+2^o:Nat):Int):=by
       rw[hbb];generalize 2^o=z at *;rw[aQ (by omega)];rfl
     refine sI [] (.q 0 (.q 2 (.q 3 (.a2 1 (.a1 4 (.q 5 (.q 6 (.a1 7 .nil)))) 4 (.a1 1 (.q 5 (.q 6 (.a1 7 .nil)))))))) (fun ρ' H'=>H'=aG HP j4 (some (lO { B with board:=p.board+2^o }))∧ρ' 0=.op js 0 0∧ρ' 4=.op j4 0 0∧ρ' 6=.op j6 0 0∧ρ' 10=.op j10 0 0∧ρ' 13=int A.2∧ρ' 14=.os j14) (by simp) (by kernel_rfl) (fun K' hK' Hp Hr hp hr _ _=>?_) ?_
     · obtain rfl:Hr=HP:=funext fun k=>hr k (by simp)
       simp only[go_sem,e0,e4,e5,e6,e9,e10,e11,e13,e14,R4];refine lA ?_ ?_
       · simp only[go_sem,e0,e4,e5,e6,e9,e10,e11,e13,e14,R4]
         refine PC.use (Gb o (by omega)) ?_;simp only[go_sem,e0,e4,e5,e6,e9,e10,e11,e13,e14,R4,w1];refine bY so3 R4 (by simp[dE]) ?_;simp only[go_sem];refine fC (fun _ _=>rfl) (by simp) (hK' _ _ ⟨rfl,by simp only[go_sem,e0,e4,e5,e6,e9,e10,e11,e13,e14],by simp only[go_sem,e0,e4,e5,e6,e9,e10,e11,e13,e14],by simp only[go_sem,e0,e4,e5,e6,e9,e10,e11,e13,e14],by simp only[go_sem,e0,e4,e5,e6,e9,e10,e11,e13,e14],by simp only[go_sem,e0,e4,e5,e6,e9,e10,e11,e13,e14],by simp only[go_sem,e0,e4,e5,e6,e9,e10,e11,e13,e14]⟩)
       · simp only[go_sem,e0,e4,e5,e6,e9,e10,e11,e13,e14,R4]
         refine PC.use (Gb o (by omega)) ?_;simp only[go_sem,e0,e4,e5,e6,e9,e10,e11,e13,e14,R4,w1];refine bY so3 R4 (by simp[dE]) ?_;simp only[go_sem];refine fC (fun _ _=>rfl) (by simp) (hK' _ _ ⟨rfl,by simp only[go_sem,e0,e4,e5,e6,e9,e10,e11,e13,e14],by simp only[go_sem,e0,e4,e5,e6,e9,e10,e11,e13,e14],by simp only[go_sem,e0,e4,e5,e6,e9,e10,e11,e13,e14],by simp only[go_sem,e0,e4,e5,e6,e9,e10,e11,e13,e14],by simp only[go_sem,e0,e4,e5,e6,e9,e10,e11,e13,e14],by simp only[go_sem,e0,e4,e5,e6,e9,e10,e11,e13,e14]⟩)
     rintro ρ H2 ⟨hH,e0,e4,e6,e10,e13,e14⟩;refine hK _ _ ⟨e0,e4,e6,e10,e13,e14,by rw[hH,aA],?_,?_,?_,?_⟩
     · rw[hH,aC _ _ _ _ ne_j4_j6.symm];exact R6
     · rw[hH,aC _ _ _ _ ne_j4_j10.symm];exact R10
     · rw[hH,aC _ _ _ _ ne_j4_j14.symm];exact R14
     · rw[hH];exact U.upd n_j4 _
   · rw[if_neg (fun h=>Bool.noConfusion (hb.symm.trans h))]at eO
     subst eO;simp only[go_sem,e0,e4,e5,e6,e9,e10,e11,e13,e14];refine hK _ _ ⟨by simp only[go_sem,e0,e4,e5,e6,e9,e10,e11,e13,e14],by simp only[go_sem,e0,e4,e5,e6,e9,e10,e11,e13,e14],by simp only[go_sem,e0,e4,e5,e6,e9,e10,e11,e13,e14],by simp only[go_sem,e0,e4,e5,e6,e9,e10,e11,e13,e14],by simp only[go_sem,e0,e4,e5,e6,e9,e10,e11,e13,e14],by simp only[go_sem,e0,e4,e5,e6,e9,e10,e11,e13,e14],R4,R6,R10,R14,U⟩
 · rw[if_neg (fun h=>Bool.noConfusion (hb.symm.trans h))]at eO
   subst eO;have hs:jX p.board o=true:=by
     have h1:pI p o (dI O d)=false:=hb2;unfold pI at h1;rw[hS,hb]at h1;simpa using h1
   have hle:=bN hs;simp only[go_sem,e0,e4,e5,e6,e9,e10,e11,e13,e14,R4];have w1:IntKind.i64.wrap ((p.board:Int)-((2^o:Nat):Int))=((p.board-2^o:Nat):Int):=by
     generalize 2^o=z at *;rw[aQ (by omega)];omega
   refine sI [] (.q 0 (.q 2 (.q 3 (.a2 1 (.a1 4 (.q 5 (.q 6 (.a1 7 .nil)))) 4 (.a1 1 (.q 5 (.q 6 (.a1 7 .nil)))))))) (fun ρ' H'=>H'=aG H j4 (some (lO { p with load:=L,board:=p.board-2^o }))∧ρ' 0=.op js 0 0∧ρ' 4=.op j4 0 0∧ρ' 6=.op j6 0 0∧ρ' 10=.op j10 0 0∧ρ' 13=int A.2∧ρ' 14=.os j14) (by simp) (by kernel_rfl) (fun K' hK' Hp Hr hp hr _ _=>?_) ?_
   · obtain rfl:Hr=H:=funext fun k=>hr k (by simp)
     simp only[go_sem,e0,e4,e5,e6,e9,e10,e11,e13,e14,R4];refine lA ?_ ?_
     · simp only[go_sem,e0,e4,e5,e6,e9,e10,e11,e13,e14,R4]
       refine PC.use (Gb o (by omega)) ?_;simp only[go_sem,e0,e4,e5,e6,e9,e10,e11,e13,e14,R4,w1];refine bY so3 R4 (by simp[dE]) ?_;simp only[go_sem];refine fC (fun _ _=>rfl) (by simp) (hK' _ _ ⟨rfl,by simp only[go_sem,e0,e4,e5,e6,e9,e10,e11,e13,e14],by simp only[go_sem,e0,e4,e5,e6,e9,e10,e11,e13,e14],by simp only[go_sem,e0,e4,e5,e6,e9,e10,e11,e13,e14],by simp only[go_sem,e0,e4,e5,e6,e9,e10,e11,e13,e14],by simp only[go_sem,e0,e4,e5,e6,e9,e10,e11,e13,e14],by simp only[go_sem,e0,e4,e5,e6,e9,e10,e11,e13,e14]⟩)
     · simp only[go_sem,e0,e4,e5,e6,e9,e10,e11,e13,e14,R4]
       refine PC.use (Gb o (by omega)) ?_;simp only[go_sem,e0,e4,e5,e6,e9,e10,e11,e13,e14,R4,w1];refine bY so3 R4 (by simp[dE]) ?_;simp only[go_sem];refine fC (fun _ _=>rfl) (by simp) (hK' _ _ ⟨rfl,by simp only[go_sem,e0,e4,e5,e6,e9,e10,e11,e13,e14],by simp only[go_sem,e0,e4,e5,e6,e9,e10,e11,e13,e14],by simp only[go_sem,e0,e4,e5,e6,e9,e10,e11,e13,e14],by simp only[go_sem,e0,e4,e5,e6,e9,e10,e11,e13,e14],by simp only[go_sem,e0,e4,e5,e6,e9,e10,e11,e13,e14],by simp only[go_sem,e0,e4,e5,e6,e9,e10,e11,e13,e14]⟩)
   rintro ρ H2 ⟨hH,e0,e4,e6,e10,e13,e14⟩;refine hK _ _ ⟨e0,e4,e6,e10,e13,e14,by rw[hH,aA],?_,?_,?_,?_⟩
   · rw[hH,aC _ _ _ _ ne_j4_j6.symm];exact R6
   · rw[hH,aC _ _ _ _ ne_j4_j10.symm];exact R10
   · rw[hH,aC _ _ _ _ ne_j4_j14.symm];exact R14
   · rw[hH];exact U.upd n_j4 _
 rintro ρ H ⟨e0,e4,e6,e10,e13,e14,R4,R6,R10,R14,U⟩;have hjs:=U.at hj;obtain⟨hO1,hO2,hO3⟩:=hOp;have hv1:IntKind.i64.wrap ((Q.visits:Int)+1)=((Q.visits+1:Nat):Int):=bA (by omega);simp only[go_sem,e0,e4,e6,e10,e13,e14,R10];refine bY so3 R4 (by simp[dE]) ?_;generalize hP:aG _ j4 _=HP;replace U:=Sup.eq (U.upd n_j4 _) hP;replace R6:=(congrFun hP.symm j6).trans ((aC _ _ _ _ (by first|exact ne_j6_j4|exact ne_j4_j6.symm)).trans R6);replace R14:=(congrFun hP.symm j14).trans ((aC _ _ _ _ (by first|exact ne_j14_j4|exact ne_j4_j14.symm)).trans R14);replace R4:HP j4=some (lO { Q with place:=T.place }):=by rw[←hP,aA];rfl
 clear hP;simp only[go_sem,e0,e4,e6,e10,e13,e14,R4,R6,R14];simp only[hv1];refine bY so3 R4 (by simp[dE]) ?_;generalize hP:aG _ j4 _=HP;replace U:=Sup.eq (U.upd n_j4 _) hP;replace R6:=(congrFun hP.symm j6).trans ((aC _ _ _ _ (by first|exact ne_j6_j4|exact ne_j4_j6.symm)).trans R6);replace R14:=(congrFun hP.symm j14).trans ((aC _ _ _ _ (by first|exact ne_j14_j4|exact ne_j4_j14.symm)).trans R14);replace R4:HP j4=some (lO { Q with place:=T.place,visits:=Q.visits+1 }):=by rw[←hP,aA];rfl
 clear hP;simp only[go_sem,e0,e4,e6,e10,e13,e14,R4,R6,R14];refine bY so3 R4 (by simp[dE]) ?_;generalize hP:aG _ j4 _=HP;replace U:=Sup.eq (U.upd n_j4 _) hP;replace R6:=(congrFun hP.symm j6).trans ((aC _ _ _ _ (by first|exact ne_j6_j4|exact ne_j4_j6.symm)).trans R6);replace R14:=(congrFun hP.symm j14).trans ((aC _ _ _ _ (by first|exact ne_j14_j4|exact ne_j4_j14.symm)).trans R14);replace R4:HP j4=some (lO { Q with place:=T.place,visits:=Q.visits+1,miles:=W (Q.miles+A.2) }):=by rw[←hP,aA];rfl
 clear hP;simp only[go_sem,e0,e4,e6,e10,e13,e14,R4,R6,R14];have hjs:=U.at hj;simp only[go_sem,e0,e4,e6,e10,e13,e14,hjs];refine wQ (by simp only[go_sem,e0,e4,e6,e10,e13,e14]) R14 fun Hr hr0 hrk=>?_
 have U2:Sup H0 Hr:=fun k row hk=>by
   rw[hrk k (fun e=>by subst e;rw[n_j14]at hk;cases hk)];exact U k row hk
 have R4:=(hrk j4 ne_j4_j14).trans R4;have R6:=(hrk j6 ne_j6_j14).trans R6;clear hrk hr0 U R14 hjs;simp only[go_sem,e0,e4,e6,e10,e13,e14];refine PC.use (yY w.t (kD T A.1) (by unfold kD;rw[List.length_map];omega)) ?_;simp only[go_sem,e0,e4,e6,e10,e13,e14,R4];refine bY Ym R4 (by simp[dE]) ?_;generalize hP:aG _ j4 _=HP;replace U2:=Sup.eq (U2.upd n_j4 _) hP;replace R6:=(congrFun hP.symm j6).trans ((aC _ _ _ _ (by first|exact ne_j6_j4|exact ne_j4_j6.symm)).trans R6);replace R4:HP j4=some (lO { Q with place:=T.place,visits:=Q.visits+1,miles:=W (Q.miles+A.2),moms:=cN w.t (kD T A.1) }):=by rw[←hP,aA];rfl
 clear hP;simp only[go_sem,e0,e4,e6,e10,e13,e14,R4,R6];refine aP R6 (by simp[dE]) ?_;simp only[go_sem,e0,e4,e6,e10,e13,e14];subst eV;exact lU.flat (U2.upd n_j6 _) _
end Go.Proofs.YtdlijlecpopadaaGreatDoor.Rx
end
