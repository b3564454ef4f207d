/- Texts joined by a program: RxE, RxF. -/
import Derived.Test.YtdlijlecpopadaaGreatDoorZv26
set_option linter.unusedSimpArgs false
set_option linter.unusedVariables false
set_option maxRecDepth 100000
section
namespace Go.Proofs.YtdlijlecpopadaaGreatDoor.Rx
open Go.Aw Go.Aw.D Go.Proofs Ty Go.Nu
open Sq (W dX mR pU qV gK iP dN iV NetOk)
open Nu (qN uH wL ltB geB)
theorem IU(n:Int): -9223372036854775808≤IntKind.i64.wrap n∧IntKind.i64.wrap n≤9223372036854775807:=by
 have e:IntKind.i64.wrap n=Go.RowKit.wrap64 n:=IntWalk.i64_left n;rw[e];unfold Go.RowKit.wrap64;omega
theorem Vk(n:Nat):decide ((n:Int)>0)=decide (n>0):=by
 by_cases h:n>0
 · rw[decide_eq_true h,decide_eq_true (by omega)]
 · rw[decide_eq_false h,decide_eq_false (by omega)]
theorem Vr{near:List Int}{m o:Nat}(hm:m<2^62)(ho:o≤61):pM near m o<2^62:=by
 unfold pM;exact Nat.or_lt_two_pow (Nat.lt_of_le_of_lt Nat.and_le_left hm) (Nat.pow_lt_pow_right (by decide) (by omega))
theorem Ly(a:ByteArray)(o:Nat)(d:Option (List ByteArray))(h:a.size≤1048576):(wF a o d).size≤1048576:=by
 cases d with
 | none=>exact h
 | some l=>exact Nat.le_trans (UI _ _) (by decide)
theorem EC{w:Wk}{p:Part}{o:Nat}(h:PartOk p)(ho:o≤61):PartOk (fH w p o).1∧(fH w p o).1.load=p.load∧(fH w p o).1.clocks=p.clocks∧(fH w p o).1.visits=p.visits∧(fH w p o).1.place=p.place:=by
 unfold fH;split
 · exact⟨h,rfl,rfl,rfl,rfl⟩
 · exact⟨⟨Vr h.mem ho,h.board,Ly _ _ _ (Nat.le_trans (vP _ _) (by decide))⟩,rfl,rfl,rfl,rfl⟩
theorem CN{w:Wk}{p:Part}{o:Nat}{d:Bool}(h:PartOk p)(ho:o≤61):PartOk (eO w p o d).1∧(eO w p o d).1.clocks=p.clocks∧(eO w p o d).1.visits=p.visits∧(eO w p o d).1.place=p.place:=by
 have hor:p.board ||| 2^o<2^62:=Nat.or_lt_two_pow h.board (Nat.pow_lt_pow_right (by decide) (by omega));have hcl:zK p.board o<2^62:=Nat.xor_lt_two_pow h.board (Nat.lt_of_le_of_lt Nat.and_le_left h.board);unfold eO;split
 · refine⟨⟨h.mem,?_,h.value⟩,rfl,rfl,rfl⟩
   show(if kO (aG w.x o)=true then p.board ||| 2^o else p.board)<2^62;split
   · exact hor
   · exact h.board
 · split
   · split
     · exact⟨⟨h.mem,hcl,h.value⟩,rfl,rfl,rfl⟩
     · exact⟨h,rfl,rfl,rfl⟩
   · exact⟨h,rfl,rfl,rfl⟩
abbrev sV(s:Stop):Row:=⟨141,4,[iA s]⟩
theorem QY(H0:aF)(jw:Nat)(w:Wk)(hw:H0 jw=some (kX w))(p:Part)(o:Nat)(d:Bool)(ho:o<w.x.orders.length)(h:WkOk w)(hpo:PartOk p)(hol:o≤61)
   (hl:p.load.length=(aG w.x o).load.length) (hll:p.load.length≤1048576) (hcl:p.clocks.length≤1048576) (hv:p.visits≤1048576):
   LC Tryz.prog 47 [.op jw 0 0,.agg (bS p),.agg (cK ⟨(o:Nat),d⟩)] H0 (.tup [.agg (bS (bX w p ⟨(o:Nat),d⟩).1),boo (bX w p ⟨(o:Nat),d⟩).2]):=by
 have eN:bX w p ⟨(o:Nat),d⟩=if(decide ((p.visits:Int)≥(w.most:Int))||(aG w.x o).off|| !mR w.t.skills (aG w.x o).skills)=true then(p,false)
   else
     let s:=if(!d||decide ((aG w.x o).pick.place<0))=true then fH w p o else(p,true)
     if s.2=true then
       let l:=eO w s.1 o d
       if l.2=true then(if((dN w.x ⟨(o:Nat),d⟩).2 != 0)=true then(l.1,false)else goP w l.1 (dN w.x ⟨(o:Nat),d⟩).1)else(l.1,false)
     else(s.1,false):=rfl
 generalize bX w p ⟨(o:Nat),d⟩=N at eN;refine LC.body (c:=Tryz.f47.body.getD .skip) (fun t=>t == 4) mixed Tryz.func47 rfl (by kernel_rfl) ?_;unfold Tryz.f47;simp only[Option.getD_some];simp only[go_sem];have U:=Sup.refl H0;refine aN fun j4 hj40=>?_
 have n_j4:=U.none hj40;generalize hGj4:aJ _ j4 _=HGj4;replace U:=Sup.eq (U.upd n_j4 _) hGj4;have R4:HGj4 j4=some (eF p):=by rw[←hGj4,aB];try rfl
 clear hGj4 hj40;simp only[go_sem,R4];refine aN fun j6 hj60=>?_
 have ne_j4_j6:j4≠j6:=aO R4 hj60;have n_j6:=U.none hj60;generalize hGj6:aJ _ j6 _=HGj6;replace U:=Sup.eq (U.upd n_j6 _) hGj6;replace R4:=(congrFun hGj6.symm j4).trans ((aD _ _ _ _ ne_j4_j6).trans R4);have R6:HGj6 j6=some (Er):=by rw[←hGj6,aB];try rfl
 clear hGj6 hj60;simp only[go_sem,R6,R4];have b1:=inB ho;have g1:=aH (f:=aX) (mU ho);have njw4:jw≠j4:=Sup.ne (Sup.refl H0) hw n_j4;have njw6:jw≠j6:=Sup.ne (Sup.refl H0) hw n_j6;have hjw:=U.at hw;refine gE [jw] [(0,true),(1,true),(2,true),(3,true),(4,true),(5,true),(6,true),(7,true),(8,true),(9,false),(10,false)] (by simp[hjw]) (by kernel_rfl) fun Hp Hr hp hr _ hr0=>?_
 have P_hjw:=(hp jw (by simp)).trans hjw;simp only[go_sem,g1,b1,P_hjw];refine aN fun j8 hq8=>?_
 simp only[go_sem];refine aU (aB _ _ _) (by simp[mE]) ?_;refine wX hr hq8 fun hj80=>?_
 have ne_j4_j8:j4≠j8:=aO R4 hj80;have ne_j6_j8:j6≠j8:=aO R6 hj80;have n_j8:=U.none hj80;generalize hGj8:aJ (aJ _ j8 _) j8 _=HGj8;replace U:=Sup.eq ((U.upd n_j8 _).upd n_j8 _) hGj8;replace R4:=(congrFun hGj8.symm j4).trans ((aD _ _ _ _ ne_j4_j8).trans ((aD _ _ _ _ ne_j4_j8).trans R4));replace R6:=(congrFun hGj8.symm j6).trans ((aD _ _ _ _ ne_j6_j8).trans ((aD _ _ _ _ ne_j6_j8).trans R6));have R8:HGj8 j8=some (Lr (aG w.x o)):=by rw[←hGj8,aB];try rfl
 clear hGj8 hj80;simp only[go_sem,R8,R4,R6];have hjw:=U.at hw;have njw8:jw≠j8:=Sup.ne (Sup.refl H0) hw n_j8;generalize hO:aG w.x o=O at *;refine gE [jw,j4,j8] [(0,true),(1,true),(2,true),(3,true),(4,true),(5,true),(6,true),(7,true),(8,true),(9,true),(10,true),(11,true),(12,true),(13,true),(14,true),(15,true),(16,true),(17,true),(18,true),(19,true),(20,true)] (by simp[hjw,R4,R8]) (by kernel_rfl) fun Hp Hr hp hr _ hr0=>?_
 have P_hjw:=(hp jw (by simp)).trans hjw;have P_R4:=(hp j4 (by simp)).trans R4;have P_R8:=(hp j8 (by simp)).trans R8;simp only[go_sem,P_hjw,P_R4,P_R8];refine⟨_,fun _=>PC.q (Sq.WI w.t O.skills) rfl,?_⟩;simp only[go_sem];refine nY hr ?_;simp only[go_sem];refine aA (fun hb=>?_) (fun hb=>?_)
 · rw[if_pos hb]at eN
   subst eN;simp only[go_sem,R4,R6];refine aU R6 (by simp[bO]) ?_;simp only[go_sem];exact rM.flat (U.upd n_j6 _) _
 rw[if_neg (fun h=>Bool.noConfusion (hb.symm.trans h))]at eN;simp only[go_sem,R8];have hso:=EC (w:=w) (p:=p) hpo hol;refine bD (fun ρ' H'=>∃(P1:Part) (ok1:Bool),ρ' 0=.op jw 0 0∧ρ' 4=.op j4 0 0∧ρ' 5=.rp (cK ⟨(o:Nat),d⟩) 0∧ρ' 6=.op j6 0 0∧(if(!d||decide (O.pick.place<0))=true then fH w p o else(p,true))=(P1,ok1)∧(PartOk P1∧P1.load=p.load∧P1.clocks=p.clocks∧P1.visits=p.visits∧P1.place=p.place)∧ρ' 9=boo ok1∧H' j4=some (eF P1)∧H' j6=some Er∧Sup H0 H') ?_ fun K hK=>aA (fun hb=>?_) (fun hb=>?_)
 rotate_left
 · simp only[go_sem,R4]
   refine LC.use (T6 _ jw w (U.at hw) p o ho h hpo) ?_;simp only[go_sem];refine aU R4 (by simp[bO]) ?_;generalize hP:aJ _ j4 _=HP;replace U:=Sup.eq (U.upd n_j4 _) hP;replace R6:=(congrFun hP.symm j6).trans ((aD _ _ _ _ (by first|exact ne_j6_j4|exact ne_j4_j6.symm)).trans R6);replace R4:HP j4=some (eF (fH w p o).1):=by rw[←hP,aB];rfl
   clear hP;simp only[go_sem,R4,R6];refine hK _ _ ⟨(fH w p o).1,(fH w p o).2,by simp only[go_sem],by simp only[go_sem],by simp only[go_sem],by simp only[go_sem],(if_pos hb).trans rfl,hso,by simp only[go_sem],R4,R6,U⟩
 · simp only[go_sem]
   refine hK _ _ ⟨p,true,by simp only[go_sem],by simp only[go_sem],by simp only[go_sem],by simp only[go_sem],if_neg (fun h=>Bool.noConfusion (hb.symm.trans h)),⟨hpo,rfl,rfl,rfl,rfl⟩,by simp only[go_sem],R4,R6,U⟩
 rintro ρ H ⟨P1,ok1,e0,e4,e5,e6,hS,hP1,e9,R4,R6,U⟩;simp only[hS]at eN;simp only[go_sem,e0,e4,e5,e6,e9];refine aA (fun hb=>?_) (fun hb=>?_)
 · have hk:ok1=false:=by simpa using hb
   subst hk;rw[if_neg (by simp)]at eN;subst eN;simp only[go_sem,e0,e4,e5,e6,e9,R4,R6];refine aU R6 (by simp[bO]) ?_;simp only[go_sem,e0,e4,e5,e6,e9];exact rM.flat (U.upd n_j6 _) _
 have hk:ok1=true:=by simpa using hb
 subst hk;rw[if_pos rfl]at eN;obtain⟨hP1,hl1,hc1,hv1,hp1⟩:=hP1;have hlo:=CN (w:=w) (d:=d) hP1 hol;simp only[go_sem,e0,e4,e5,e6,e9,R4];refine LC.use (PW _ jw w (U.at hw) P1 o d ho h hP1 hol (by rw[hl1,hO];exact hl) (by rw[hl1];exact hll)) ?_;generalize eO w P1 o d=L at *;simp only[go_sem,e0,e4,e5,e6,e9];refine aU R4 (by simp[bO]) ?_;generalize hP:aJ _ j4 _=HP;replace U:=Sup.eq (U.upd n_j4 _) hP;replace R6:=(congrFun hP.symm j6).trans ((aD _ _ _ _ (by first|exact ne_j6_j4|exact ne_j4_j6.symm)).trans R6);replace R4:HP j4=some (eF L.1):=by rw[←hP,aB];rfl
 clear hP;simp only[go_sem,R4,R6];refine aA (fun hb=>?_) (fun hb=>?_)
 · have hk:L.2=false:=by simpa using hb
   rw[if_neg (by rw[hk];simp)]at eN;subst eN;simp only[go_sem,e0,e4,e5,e6,e9,R4,R6];refine aU R6 (by simp[bO]) ?_;simp only[go_sem,e0,e4,e5,e6,e9];exact rM.flat (U.upd n_j6 _) _
 have hk:L.2=true:=by simpa using hb
 rw[if_pos hk]at eN;have hjw:=U.at hw;simp only[go_sem,e0,e4,e5,e6,e9];refine gE [jw] [(0,true),(1,true),(2,true),(3,true),(4,true),(5,true),(6,true),(7,true),(8,true),(9,true),(10,false),(11,false),(12,true)] (by simp[hjw]) (by kernel_rfl) fun Hp Hr hp hr _ hr0=>?_
 have P_hjw:=(hp jw (by simp)).trans hjw;simp only[go_sem,e0,e4,e5,e6,e9,P_hjw];refine⟨_,PC.q (Sq.M3 w.x ⟨(o:Nat),d⟩) rfl,?_⟩;simp only[go_sem,e0,e4,e5,e6,e9];generalize dN w.x ⟨(o:Nat),d⟩=T at *;refine aN fun j10 hq10=>?_
 simp only[go_sem,e0,e4,e5,e6,e9];refine aU (aB _ _ _) (by simp[lP]) ?_;simp only[go_sem,e0,e4,e5,e6,e9];refine wX hr hq10 fun hj100=>?_
 have ne_j4_j10:j4≠j10:=aO R4 hj100;have ne_j6_j10:j6≠j10:=aO R6 hj100;have n_j10:=U.none hj100;generalize hGj10:aJ (aJ _ j10 _) j10 _=HGj10;replace U:=Sup.eq ((U.upd n_j10 _).upd n_j10 _) hGj10;replace R4:=(congrFun hGj10.symm j4).trans ((aD _ _ _ _ ne_j4_j10).trans ((aD _ _ _ _ ne_j4_j10).trans R4));replace R6:=(congrFun hGj10.symm j6).trans ((aD _ _ _ _ ne_j6_j10).trans ((aD _ _ _ _ ne_j6_j10).trans R6));have R10:HGj10 j10=some (sV T.1):=by rw[←hGj10,aB];try rfl
 clear hGj10 hj100;simp only[go_sem,e0,e4,e5,e6,e9,R10,R4,R6];refine aA (fun hb=>?_) (fun hb=>?_)
 · rw[if_pos hb]at eN
   subst eN;simp only[go_sem,e0,e4,e5,e6,e9,R4,R6];refine aU R6 (by simp[bO]) ?_;simp only[go_sem,e0,e4,e5,e6,e9];exact rM.flat (U.upd n_j6 _) _
 rw[if_neg (fun h=>Bool.noConfusion (hb.symm.trans h))]at eN;obtain⟨hP2,hc2,hv2,hp2⟩:=hlo;simp only[go_sem,e0,e4,e5,e6,e9,R4,R10];refine LC.use (NE _ jw w (U.at hw) L.1 T.1.place h.net (by rw[hc2,hc1];exact hcl)) ?_;have hdl:(bF w.x.net w.t L.1.place T.1.place L.1.clocks).1.length≤4194304:=by
   have:=yS w.x.net w.t L.1.place T.1.place L.1.clocks L.1.clocks.length;rw[List.take_length]at this;rw[hc2,hc1]at this;unfold bF;rw[hc2,hc1];omega
 have eG:goP w L.1 T.1=({ L.1 with clocks:=dP T.1 (bF w.x.net w.t L.1.place T.1.place L.1.clocks).1,place:=T.1.place,visits:=L.1.visits+1,value:=addV L.1.value (W (W (w.t.perMile*(bF w.x.net w.t L.1.place T.1.place L.1.clocks).2)*16777216)) },decide ((dP T.1 (bF w.x.net w.t L.1.place T.1.place L.1.clocks).1).length>0)):=rfl;rw[eG]at eN;clear eG;generalize bF w.x.net w.t L.1.place T.1.place L.1.clocks=D at *;simp only[go_sem,e0,e4,e5,e6,e9,R10];refine PC.use (Q1 T.1 D.1 hdl) ?_;generalize dP T.1 D.1=C at *;simp only[go_sem,e0,e4,e5,e6,e9];refine dU ZQ R4 (by simp[bO]) ?_;generalize hP:aJ _ j4 _=HP;replace U:=Sup.eq (U.upd n_j4 _) hP;replace R6:=(congrFun hP.symm j6).trans ((aD _ _ _ _ (by first|exact ne_j6_j4|exact ne_j4_j6.symm)).trans R6);replace R10:=(congrFun hP.symm j10).trans ((aD _ _ _ _ (by first|exact ne_j10_j4|exact ne_j4_j10.symm)).trans R10);replace R4:HP j4=some (eF { L.1 with clocks:=C }):=by rw[←hP,aB];rfl
 clear hP;simp only[go_sem,e0,e4,e5,e6,e9,R4,R6,R10];refine dU so3 R4 (by simp[bO]) ?_;generalize hP:aJ _ j4 _=HP;replace U:=Sup.eq (U.upd n_j4 _) hP;replace R6:=(congrFun hP.symm j6).trans ((aD _ _ _ _ (by first|exact ne_j6_j4|exact ne_j4_j6.symm)).trans R6);replace R10:=(congrFun hP.symm j10).trans ((aD _ _ _ _ (by first|exact ne_j10_j4|exact ne_j4_j10.symm)).trans R10);replace R4:HP j4=some (eF { L.1 with clocks:=C,place:=T.1.place }):=by rw[←hP,aB];rfl
 clear hP;simp only[go_sem,e0,e4,e5,e6,e9,R4,R6,R10];rw[bG (show L.1.visits≤4611686018427387904 by omega)];refine dU so3 R4 (by simp[bO]) ?_;generalize hP:aJ _ j4 _=HP;replace U:=Sup.eq (U.upd n_j4 _) hP;replace R6:=(congrFun hP.symm j6).trans ((aD _ _ _ _ (by first|exact ne_j6_j4|exact ne_j4_j6.symm)).trans R6);replace R10:=(congrFun hP.symm j10).trans ((aD _ _ _ _ (by first|exact ne_j10_j4|exact ne_j4_j10.symm)).trans R10);replace R4:HP j4=some (eF { L.1 with clocks:=C,place:=T.1.place,visits:=L.1.visits+1 }):=by rw[←hP,aB];rfl
 clear hP;simp only[go_sem,e0,e4,e5,e6,e9,R4,R6,R10];have hjw:=U.at hw;refine gE [jw] [(0,true),(1,true),(3,true),(4,true),(5,true),(6,true),(7,true),(8,true),(9,true),(10,true),(2,false),(11,false),(12,true),(13,false)] (by simp[hjw]) (by kernel_rfl) fun Hp Hr hp hr _ hr0=>?_
 have P_hjw:=(hp jw (by simp)).trans hjw;have Q_R4:=(hr j4 (by simp[njw4.symm])).trans R4;simp only[go_sem,e0,e4,e5,e6,e9,V8,P_hjw,Q_R4];refine⟨by omega,?_⟩;have hwr:=IU (IntKind.i64.wrap (w.t.perMile*D.2)*16777216);refine LC.use (Kr _ _ _ _ hP2.value hwr.1 hwr.2) ?_;simp only[go_sem,e0,e4,e5,e6,e9,Q_R4];refine dU PZ Q_R4 (by simp[bO]) ?_;refine lG hr (by simp[njw4.symm]) ?_;generalize hP:aJ _ j4 _=HP;replace U:=Sup.eq (U.upd n_j4 _) hP;replace R6:=(congrFun hP.symm j6).trans ((aD _ _ _ _ (by first|exact ne_j6_j4|exact ne_j4_j6.symm)).trans R6);replace R4:HP j4=some (eF { L.1 with clocks:=C,place:=T.1.place,visits:=L.1.visits+1,value:=addV L.1.value (W (W (w.t.perMile*D.2)*16777216)) }):=by rw[←hP,aB];rfl
 clear hP;simp only[go_sem,e0,e4,e5,e6,e9,R4,R6];refine gE [j4] [(0,true),(1,true),(2,true),(3,true),(4,true),(5,false),(6,true)] (by simp[R4]) (by kernel_rfl) fun Hp Hr hp hr _ hr0=>?_
 have P_R4:=(hp j4 (by simp)).trans R4;have Q_R6:=(hr j6 (by simp[ne_j4_j6.symm])).trans R6;simp only[go_sem,e0,e4,e5,e6,e9,P_R4,Q_R6];refine aU Q_R6 (by simp[bO]) ?_;simp only[go_sem,e0,e4,e5,e6,e9];refine lG hr (by simp[ne_j4_j6.symm]) ?_;simp only[go_sem,e0,e4,e5,e6,e9];subst eN;rw[Vk];exact rM.flat (U.upd n_j6 _) _
end Go.Proofs.YtdlijlecpopadaaGreatDoor.Rx
end
section
namespace Go.Proofs.YtdlijlecpopadaaGreatDoor.Rx
open Go.Aw Go.Aw.D Go.Proofs Ty Go.Nu
open Sq (W dX mR pU qV gK iP dN iV NetOk)
open Nu (qN uH wL ltB geB lF)
open Mv (fF eI NC.pc bK)
theorem Lp{a b:Nat}(ha:a<2^63)(hb:b<2^63):(pV .andNot .i64 (a:Int) (b:Int) == 0)=decide (a &&& b=a):=by
 have e:pV .andNot .i64 (a:Int) (b:Int)=((a-(a &&& b):Nat):Int):=by
   have h1:((a:Int)%((2^64:Nat):Int)).toNat=a:=by omega
   have h2:((b:Int)%((2^64:Nat):Int)).toNat=b:=by omega
   have h:((BitVec.ofInt 64 (a:Int) &&& ~~~(BitVec.ofInt 64 (b:Int))).toNat:Int)=((a-(a &&& b):Nat):Int):=by
     have hle:a &&& b≤a:=Nat.and_le_left;have hx:BitVec.ofInt 64 (a:Int) &&& ~~~(BitVec.ofInt 64 (b:Int))=BitVec.ofNat 64 (a-(a &&& b)):=by
       have h3:BitVec.ofInt 64 (a:Int)=BitVec.ofNat 64 a:=by apply BitVec.eq_of_toNat_eq;rw[BitVec.toNat_ofInt,BitVec.toNat_ofNat,h1,Nat.mod_eq_of_lt (by omega)]
       have h4:BitVec.ofInt 64 (b:Int)=BitVec.ofNat 64 b:=by apply BitVec.eq_of_toNat_eq;rw[BitVec.toNat_ofInt,BitVec.toNat_ofNat,h2,Nat.mod_eq_of_lt (by omega)]
       rw[h3,h4];have h5:(BitVec.ofNat 64 a &&& ~~~BitVec.ofNat 64 b) &&& BitVec.ofNat 64 (a &&& b)=0#64:=by
         apply BitVec.eq_of_getLsbD_eq;intro i hi;simp only[BitVec.getLsbD_and,BitVec.getLsbD_not,BitVec.getLsbD_ofNat,Nat.testBit_and,hi,decide_true,Bool.true_and,BitVec.getLsbD_zero];cases a.testBit i <;> cases b.testBit i <;> simp
       have h6:(BitVec.ofNat 64 a &&& ~~~BitVec.ofNat 64 b) ||| BitVec.ofNat 64 (a &&& b)=BitVec.ofNat 64 a:=by
         apply BitVec.eq_of_getLsbD_eq;intro i hi;simp only[BitVec.getLsbD_or,BitVec.getLsbD_and,BitVec.getLsbD_not,BitVec.getLsbD_ofNat,Nat.testBit_and,hi,decide_true,Bool.true_and];cases a.testBit i <;> cases b.testBit i <;> rfl
       have h7:=congrArg BitVec.toNat ((BitVec.add_eq_or_of_and_eq_zero _ _ h5).trans h6);rw[BitVec.toNat_add,BitVec.toNat_ofNat,BitVec.toNat_ofNat,Nat.mod_eq_of_lt (by omega:a<2^64),Nat.mod_eq_of_lt (by omega:a &&& b<2^64)]at h7;apply BitVec.eq_of_toNat_eq;rw[BitVec.toNat_ofNat,Nat.mod_eq_of_lt (by omega)];have hl:=(BitVec.ofNat 64 a &&& ~~~BitVec.ofNat 64 b).isLt;have hle2:(BitVec.ofNat 64 a &&& ~~~BitVec.ofNat 64 b).toNat≤a:=by
         rw[BitVec.toNat_and,BitVec.toNat_ofNat,Nat.mod_eq_of_lt (by omega:a<2^64)];exact Nat.and_le_left
       omega
     rw[hx,BitVec.toNat_ofNat,Nat.mod_eq_of_lt (by omega)]
   refine Eq.trans (congrArg IntKind.i64.wrap h) ?_;exact aT (by omega)
 rw[e,Bool.eq_iff_iff];have hle:a &&& b≤a:=Nat.and_le_left;simp only[beq_iff_eq,decide_eq_true_eq];omega
theorem NN(a b:Nat)(ha:a<2^63)(hb:b<2^63):PC Tryz.prog 96 [int a,int b] (boo (decide (a &&& b=a))):=by
 refine PC.body (c:=Tryz.f96.body.getD .skip) (fun _=>false) mixed Tryz.func96 rfl (by kernel_rfl) ?_;unfold Tryz.f96;simp only[Option.getD_some];simp only[go_sem];exact eI (Lp ha hb)
theorem VY(H0:aF)(jw:Nat)(w:Wk)(hw:H0 jw=some (kX w))(p:Part)(h:WkOk w)(hcl:p.clocks.length≤1048576):
   LC Tryz.prog 51 [.op jw 0 0,.agg (bS p)] H0 (.tup [int (iB w p).1,int (iB w p).2.1,boo (iB w p).2.2]):=by
 have eE:iB w p=if((p.visits:Int) == 0||(p.board:Int) != 0)=true then(0,0,false)
   else
     let d:=bF w.x.net w.t p.place w.t.dst p.clocks
     (d.1.foldl (kZ w.t.close) (-1),d.2,decide (d.1.foldl (kZ w.t.close) (-1)≥0)):=rfl
 generalize iB w p=N at eE;refine LC.body (c:=Tryz.f51.body.getD .skip) (fun _=>false) mixed Tryz.func51 rfl (by kernel_rfl) ?_;unfold Tryz.f51;simp only[Option.getD_some];simp only[go_sem];have U:=Sup.refl H0;refine aA (fun hb=>?_) (fun hb=>?_)
 · rw[if_pos hb]at eE
   subst eE;simp only[go_sem];exact rM.flat U _
 rw[if_neg (fun h=>Bool.noConfusion (hb.symm.trans h))]at eE;simp only[go_sem];refine kK [(0,true),(1,true),(2,true),(3,true),(4,true),(5,true),(6,false),(7,false),(8,true),(9,true),(10,true),(11,true),(12,true)] (by kernel_rfl) ?_;simp only[go_sem,hw];refine LC.use (NE _ jw w hw p w.t.dst h.net hcl) ?_;have hdl:(bF w.x.net w.t p.place w.t.dst p.clocks).1.length≤4194304:=by
   have:=yS w.x.net w.t p.place w.t.dst p.clocks p.clocks.length;rw[List.take_length]at this;unfold bF;omega
 generalize bF w.x.net w.t p.place w.t.dst p.clocks=D at *;simp only[go_sem];refine⟨fun ρ H=>∃(k:Nat),k≤D.1.length∧ρ 0=.op jw 0 0∧ρ 8=int D.2∧ρ 31=.sl (D.1.map cH)∧ρ 32=int (D.1.length:Nat)∧ρ 33=int k∧ρ 9=int ((D.1.take k).foldl (kZ w.t.close) (-1))∧Sup H0 H,fun ρ _=>D.1.length-bQ (ρ 33),⟨0,Nat.zero_le _,by simp only[go_sem],by simp only[go_sem],by simp only[go_sem],by simp only[go_sem,List.length_map],(by simp only[go_sem];rfl),by simp only[go_sem];rfl,U⟩,?_⟩;rintro ρ H ⟨k,hk,e0,e8,e31,e32,e33,e9,U⟩;simp only[go_sem,e0,e8,e31,e32,e33,e9];refine aA (fun hlt=>?_) (fun hge=>?_)
 · have hlt:=ltB (by simpa using hlt)
   obtain⟨c,hc⟩:=bC hlt;have b1:=inB hlt;have hs:=Sq.iQ (f:=kZ w.t.close) (b:=(-1:Int)) hc;generalize (D.1.take k).foldl (kZ w.t.close) (-1)=s at *;simp only[go_sem,e0,e8,e31,e32,e33,e9,aH hc,b1];refine aN fun i11 hi110=>?_
   simp only[go_sem,e0,e8,e31,e32,e33,e9];refine aU (aB _ _ _) (by simp[kD]) ?_;have n_i11:=U.none hi110;generalize hGi11:aJ (aJ _ i11 _) i11 _=HGi11;replace U:=Sup.eq ((U.upd n_i11 _).upd n_i11 _) hGi11;have R11:HGi11 i11=some (vG c):=by rw[←hGi11,aB];try rfl
   clear hGi11 hi110;simp only[go_sem,e0,e8,e31,e32,e33,e9,R11];have hjw:=U.at hw;refine gE [jw,i11] [(0,true),(1,true),(2,true),(3,true),(4,true),(5,true),(6,true),(7,true),(8,true),(9,true),(10,true),(11,true),(12,true),(13,true),(14,true),(15,true),(16,true),(17,true)] (by simp[hjw,R11]) (by kernel_rfl) fun Hp Hr hp hr _ hr0=>?_
   have P_hjw:=(hp jw (by simp)).trans hjw;have P_R11:=(hp i11 (by simp)).trans R11;simp only[go_sem,e0,e8,e31,e32,e33,e9,P_hjw,P_R11];refine nY hr ?_;simp only[go_sem,e0,e8,e31,e32,e33,e9];refine aA (fun hb=>?_) (fun hb=>?_)
   · have e1:kZ w.t.close s c=c.ready:=if_pos hb
     simp only[go_sem,e0,e8,e31,e32,e33,e9,R11,bG (show k≤4611686018427387904 by omega)];exact⟨⟨k+1,hlt,rfl,by rw[hs,e1],U⟩,by simp only[aI];omega⟩
   · have e1:kZ w.t.close s c=s:=if_neg (fun h=>Bool.noConfusion (hb.symm.trans h))
     simp only[go_sem,e0,e8,e31,e32,e33,e9,bG (show k≤4611686018427387904 by omega)];exact⟨⟨k+1,hlt,rfl,by rw[hs,e1],U⟩,by simp only[aI];omega⟩
 have hge:=geB hk (by simpa using hge);subst hge;rw[List.take_length]at e9;simp only[go_sem,e0,e8,e31,e32,e33,e9];subst eE;exact rM.flat U _
theorem Vi(H0:aF)(jw:Nat)(w:Wk)(hw:H0 jw=some (kX w))(p:Part)(e m:Int)(hv:p.value.size≤1048576):
   LC Tryz.prog 52 [.op jw 0 0,.agg (bS p),int e,int m] H0 (str (mM w p e m)):=by
 refine LC.body (c:=Tryz.f52.body.getD .skip) (fun _=>false) mixed Tryz.func52 rfl (by kernel_rfl) ?_;unfold Tryz.f52;simp only[Option.getD_some];simp only[go_sem];simp only[go_sem,hw];refine gE [jw] [(0,true),(1,true),(2,true),(3,true),(4,true),(5,true),(6,true),(7,true),(8,true),(9,true),(10,true),(11,true),(12,true),(13,true),(14,true),(15,true),(16,true),(17,true),(18,true),(19,true),(20,true),(21,true)] (by simp[hw]) (by kernel_rfl) fun Hp Hr hp hr _ hr0=>?_
 have P_hw:=(hp jw (by simp)).trans hw;simp only[go_sem,P_hw];refine nY hr ?_;simp only[go_sem,V8];refine⟨by omega,by omega,by omega,?_⟩;have hwr:=IU (W (QU w e m*16777216)+W (W (Int.tdiv (DS w e) 64)*W (Int.tdiv (DS w e) 64)));refine LC.use (Kr _ _ _ _ hv hwr.1 hwr.2) ?_;simp only[go_sem];exact rM.flat (Sup.refl H0) _
theorem dec0:(⟨#[48]⟩:ByteArray)=dec 0:=by decide +kernel
theorem Nm(H0:aF)(jw:Nat)(w:Wk)(hw:H0 jw=some (kX w))(hc:w.t.cap.length≤1048576):
   LC Tryz.prog 46 [.op jw 0 0] H0 (.agg (bS (dY w))):=by
 refine LC.body (c:=Tryz.f46.body.getD .skip) (fun _=>false) mixed Tryz.func46 rfl (by kernel_rfl) ?_;unfold Tryz.f46;simp only[Option.getD_some];simp only[go_sem];have U:=Sup.refl H0;refine aN fun j2 hj20=>?_
 have n_j2:=U.none hj20;generalize hGj2:aJ _ j2 _=HGj2;replace U:=Sup.eq (U.upd n_j2 _) hGj2;have R2:HGj2 j2=some (Er):=by rw[←hGj2,aB];try rfl
 clear hGj2 hj20;simp only[go_sem,R2];have hjw:=U.at hw;have njw2:jw≠j2:=Sup.ne (Sup.refl H0) hw n_j2;refine Bm [jw] (.q 0 (.q 1 (.q 2 (.q 3 (.q 4 (.q 5 (.q 6 (.q 7 (.q 8 (.q 9 (.q 10 (.q 12 (.q 13 (.q 14 (.q 15 (.q 16 (.q 17 (.a2 11 (.a1 18 (.q 19 (.a1 20 .nil))) 18 (.a1 11 (.q 19 (.a1 20 .nil))))))))))))))))))))) (by simp[hjw]) (by kernel_rfl) fun Hp Hr hp hr _ hr0=>?_
 have P_hjw:=(hp jw (by simp)).trans hjw;have Q_R2:=(hr j2 (by simp[njw2.symm])).trans R2;simp only[go_sem,P_hjw,Q_R2];refine yR ?_ ?_
 all_goals simp only[go_sem,P_hjw,Q_R2,List.length_map]
 all_goals
   refine⟨⟨⟨by omega,by omega⟩,by omega⟩,aN fun jm hm0=>?_⟩;have nem:j2≠jm:=aO Q_R2 hm0;simp only[go_sem];refine aU ((aD _ _ _ _ nem).trans Q_R2) (by simp) ?_;simp only[go_sem];refine kA fun hd Hm hm1 hm2=>?_
   have nwm:jm≠jw:=fun e=>by
     have:=hd jw (by simp);rw[aD _ _ _ _ njw2,←e,aB]at this;cases this
   have hjm:HGj2 jm=none:=by rw[←hr jm (by simp[nwm])];exact hm0
   have h0m:H0 jm=none:=U.none hjm;have R2':Hm j2=some (⟨94,7,[[int w.t.src,int 0,int 0,int 0,.os jm,.sl [[int w.t.start,int 0]],str ⟨#[48]⟩]]⟩:Row):=by
     rw[hm2 j2 (by simp[njw2.symm]),aB]
   have Rm:Hm jm=some (⟨3,1,List.replicate w.t.cap.length [int 0]⟩:Row):=by
     rw[hm2 jm (by simp[nwm]),aD _ _ _ _ nem.symm,aB]
   have US:Sup H0 Hm:=fun k row hk=>by
     by_cases e:k=jw
     · subst e;rw[hm1 k (by simp)];exact U k row hk
     · have e2:k≠j2:=fun e=>by rw[e,n_j2]at hk;cases hk
       have e3:k≠jm:=fun e=>by rw[e,h0m]at hk;cases hk
       rw[hm2 k (by simp[e]),aD _ _ _ _ e2,aD _ _ _ _ e3,hr k (by simp[e])];exact U k row hk
   simp only[go_sem,R2'];refine⟨US,[jm],by simpa using h0m,?_⟩;refine .agg _ _ ?_;rw[dec0];refine .cons _ _ _ _ (.refl _) (.cons _ _ _ _ (.refl _) (.cons _ _ _ _ (.refl _) (.cons _ _ _ _ (.refl _) (.cons _ _ _ _ (.row _ _ _ (by simp;exact Rm) ?_) (ConvL.refl _)))));show ConvE _ (List.replicate w.t.cap.length [int 0]) ((List.replicate w.t.cap.length (0:Int)).map aM);rw[List.map_replicate];exact ConvE.refl _
theorem SB(p q:Part)(hp:p.memory<2^62)(hq:q.memory<2^62)(hpl:p.load.length≤1048576)(hpv:p.value.size≤1048576)(hqv:q.value.size≤1048576)(hpc:p.clocks.length≤4194304)(hqc:q.clocks.length≤4194304):
   PC Tryz.prog 50 [.agg (bS p),.agg (bS q)] (boo (qP p q)):=by
 have eB:qP p q=if(p.place != q.place||(p.board:Int) != (q.board:Int)|| !decide (p.memory &&& q.memory=p.memory)||decide ((p.visits:Int)>(q.visits:Int))|| !gK p.load q.load||decide (sY p.value q.value>0))=true then false
   else q.clocks.all fun d=>p.clocks.any fun c=>gF c d:=rfl
 generalize qP p q=B at eB;refine PC.body (c:=Tryz.f50.body.getD .skip) (fun _=>false) mixed Tryz.func50 rfl (by kernel_rfl) ?_;unfold Tryz.f50;simp only[Option.getD_some];simp only[go_sem];refine⟨_,fun _=>PC.q (NN p.memory q.memory (by omega) (by omega)) rfl,?_⟩;simp only[go_sem];refine⟨_,fun _=>PC.q (Sq.Mj p.load q.load hpl) rfl,?_⟩;simp only[go_sem];refine⟨_,fun _=>PC.q (lF p.value q.value hpv hqv) rfl,?_⟩;simp only[go_sem];refine aA (fun hb=>?_) (fun hb=>?_)
 · rw[if_pos hb]at eB
   subst eB;simp only[go_sem];exact .refl _
 rw[if_neg (fun h=>Bool.noConfusion (hb.symm.trans h))]at eB;simp only[go_sem];refine⟨fun ρ H=>∃(k:Nat),k≤q.clocks.length∧ρ 2=.rp (bS p) 0∧ρ 51=.sl (q.clocks.map cH)∧ρ 52=int (q.clocks.length:Nat)∧ρ 53=int k∧(∀u∈q.clocks.take k,(p.clocks.any fun c=>gF c u)=true),fun ρ _=>q.clocks.length-bQ (ρ 53),⟨0,Nat.zero_le _,by simp only[go_sem],by simp only[go_sem],by simp only[go_sem,List.length_map],(by simp only[go_sem];rfl),by simp⟩,?_⟩;rintro ρ H ⟨k,hk,e2,e51,e52,e53,hz⟩;simp only[go_sem,e2,e51,e52,e53];refine aA (fun hlt=>?_) (fun hge=>?_)
 · have hlt:=ltB (by simpa using hlt)
   obtain⟨c,hc⟩:=bC hlt;have b1:=inB hlt;simp only[go_sem,e2,e51,e52,e53,aH hc,b1];refine aN fun i6 hi60=>?_
   simp only[go_sem,e2,e51,e52,e53];refine aU (aB _ _ _) (by simp[kD]) ?_;generalize hGi6:aJ (aJ _ i6 _) i6 _=HGi6;have R6:HGi6 i6=some (vG c):=by rw[←hGi6,aB];try rfl
   clear hGi6 hi60;simp only[go_sem,e2,e51,e52,e53,R6];refine dB.use ⟨[.sl (p.clocks.map cH),.fn 99 [.rp (cH c) 0]],.cons _ _ _ _ (.refl _) (.cons _ _ _ _ (.fn _ _ _ (.cons _ _ _ _ (.ptr _ _ _ _ _ R6 (by simp) (ConvL.refl _)) .nil)) .nil),HV p.clocks (by omega) (by kernel_rfl) (fun v _=>Rh v c),rfl⟩ ?_;simp only[go_sem,e2,e51,e52,e53];refine aA (fun hb=>?_) (fun hb=>?_)
   · have hb:(p.clocks.any fun v=>gF v c)=false:=by simpa using hb
     have hf:(q.clocks.all fun d=>p.clocks.any fun c=>gF c d)=false:=by
       rw[Bool.eq_false_iff];intro h;have:=List.all_eq_true.1 h c (List.mem_of_getElem? hc);rw[hb]at this;cases this
     rw[hf]at eB;subst eB;simp only[go_sem];exact .refl _
   · have hb:(p.clocks.any fun v=>gF v c)=true:=by simpa using hb
     simp only[go_sem,e2,e51,e52,e53,bG (show k≤4611686018427387904 by omega)];exact⟨⟨k+1,hlt,rfl,bK (p:=fun u=>(p.clocks.any fun c=>gF c u)=true) hc hb hz⟩,by simp only[aI];omega⟩
 have hge:=geB hk (by simpa using hge);subst hge;rw[List.take_length]at hz;rw[List.all_eq_true.2 hz]at eB;subst eB;simp only[go_sem];exact .refl _
theorem G0(x:Instance)(k:Nat):(List.range (k+1)).flatMap (fun i=>if(aG x i).off=true then[]else iP x.orders (i:Nat))=(List.range k).flatMap (fun i=>if(aG x i).off=true then[]else iP x.orders (i:Nat))++(if(aG x k).off=true then[]else iP x.orders (k:Nat)):=by
 rw[List.range_succ,List.flatMap_append];simp
theorem yW(x:Instance):∀k,((List.range k).flatMap (fun i=>if(aG x i).off=true then[]else iP x.orders (i:Nat))).length≤2*k
 | 0=>by simp
 | k+1=>by
   rw[G0,List.length_append];have h:=yW x k;have h2:=Sq.xK x.orders (k:Nat);split
   · rw[List.length_nil];omega
   · omega
abbrev L7(l:List Visit):Row:=⟨97,2,l.map cK⟩
theorem M6:∀l:List Visit,dK 2 (l.map cK)
 | []=>trivial
 | _::r=>⟨rfl,M6 r⟩
theorem Tt(a b:List Visit):(⟨97,2,a.map cK++b.map cK⟩:Row)=L7 (a++b):=by
 show _=(⟨97,2,(a++b).map cK⟩:Row);rw[List.map_append]
theorem Qe(x:Instance)(hx:x.orders.length≤1048576):PC Tryz.prog 45 [.agg (aQ x)] (.sl ((cQ x).map cK)):=by
 refine PC.body (c:=Tryz.f45.body.getD .skip) (fun t=>t == 3) mixed Tryz.func45 rfl (by kernel_rfl) ?_;unfold Tryz.f45;simp only[Option.getD_some];simp only[go_sem];refine aN fun j hj0=>?_
 generalize hGj:aJ _ j _=HGj;have R:HGj j=some (L7 []):=by rw[←hGj,aB];try rfl
 clear hGj hj0;simp only[go_sem,R];refine⟨fun ρ H=>∃(k:Nat) (j:Nat),k≤x.orders.length∧ρ 1=.rp (aQ x) 0∧ρ 7=.sl (x.orders.map aX)∧ρ 8=int (x.orders.length:Nat)∧ρ 9=int k∧ρ 3=.os j∧H j=some (L7 ((List.range k).flatMap (fun i=>if(aG x i).off=true then[]else iP x.orders (i:Nat)))),fun ρ _=>x.orders.length-bQ (ρ 9),⟨0,j,Nat.zero_le _,by simp only[go_sem],by simp only[go_sem],by simp only[go_sem,List.length_map],(by simp only[go_sem];rfl),by simp only[go_sem],R⟩,?_⟩;rintro ρ H ⟨k,j,hk,e1,e7,e8,e9,e3,R⟩;simp only[go_sem,e1,e7,e8,e9,e3];refine aA (fun hlt=>?_) (fun hge=>?_)
 · have hlt:=ltB (by simpa using hlt)
   have hc:=mU hlt;have g1:=aH (f:=aX) hc;have b1:=inB hlt;have hs:=G0 x k;have hlen:=yW x k;have hv:=Sq.xK x.orders (k:Nat);generalize (List.range k).flatMap (fun i=>if(aG x i).off=true then[]else iP x.orders (i:Nat))=out at *;generalize aG x k=O at *;simp only[go_sem,e1,e7,e8,e9,e3,g1,b1];refine aN fun i5 hi50=>?_
   have ne_j_i5:j≠i5:=aO R hi50;simp only[go_sem,e1,e7,e8,e9,e3,R];refine aU (aB _ _ _) (by simp[mE]) ?_;generalize hGi5:aJ (aJ _ i5 _) i5 _=HGi5;replace R:=(congrFun hGi5.symm j).trans ((aD _ _ _ _ ne_j_i5).trans ((aD _ _ _ _ ne_j_i5).trans R));have R5:HGi5 i5=some (Lr O):=by rw[←hGi5,aB];try rfl
   clear hGi5 hi50;simp only[go_sem,e1,e7,e8,e9,e3,R5,R];refine aA (fun hb=>?_) (fun hb=>?_)
   · have ho:¬O.off=true:=by simpa using hb
     rw[if_neg ho]at hs;simp only[go_sem,e1,e7,e8,e9,e3];refine PC.use (Sq.DR x.orders (k:Nat)) ?_;generalize iP x.orders (k:Nat)=V at *;simp only[go_sem,e1,e7,e8,e9,e3];refine bA R ⟨rfl,rfl⟩ (M6 V) (by simp only[List.length_map];omega) (fun j2 hj2=>?_);simp only[go_sem,e1,e7,e8,e9,e3,bG (show k≤4611686018427387904 by omega)];exact⟨⟨k+1,j2,hlt,rfl,rfl,by rw[aB,hs];exact congrArg some (Tt _ _)⟩,by simp only[aI];omega⟩
   · have ho:O.off=true:=by simpa using hb
     rw[if_pos ho,List.append_nil]at hs;simp only[go_sem,e1,e7,e8,e9,e3,bG (show k≤4611686018427387904 by omega)];exact⟨⟨k+1,j,hlt,rfl,rfl,by rw[hs];exact R⟩,by simp only[aI];omega⟩
 have hge:=geB hk (by simpa using hge);subst hge;simp only[go_sem,e1,e7,e8,e9,e3];exact .row _ _ _ R (ConvE.refl _)
def nH(n:Nat)(near:List Int)(i:Nat):Bool:=decide (near.getD i 0<0)|| !iV (near.getD i 0) (i:Nat)||(shV .shr .i64 (near.getD i 0) (n:Nat)) != 0
def hJ(x:Instance)(kind:Int)(near:List Int):Bool:=
 (decide (kind<0)||decide (kind≥(x.types.length:Int))||(near.length:Int) != (x.orders.length:Int))||(List.range near.length).any (nH x.orders.length near)
def aE(x:Instance)(k:Nat):VType:=x.types.getD k ⟨ByteArray.empty,0,0,0,[],0,0,0,0,0,0,0,0,0⟩
def jW(x:Instance)(kind:Nat)(near:List Int):Wk:=⟨x,kind,aE x kind,near,none,(cQ x).length⟩
theorem vZ{x:Instance}{kind:Int}{near:List Int}(h:hJ x kind near=false):(decide (kind<0)||decide (kind≥(x.types.length:Int))||(near.length:Int) != (x.orders.length:Int))=false∧∀i,i<near.length→nH x.orders.length near i=false:=by
 unfold hJ at h;rw[Bool.or_eq_false_iff]at h;refine⟨h.1,fun i hi=>?_⟩;have:=List.any_eq_false.1 h.2 i (List.mem_range.2 hi);simpa using this
theorem Ow{x:Instance}{kind:Int}{near:List Int}(h:hJ x kind near=true)(h1:(decide (kind<0)||decide (kind≥(x.types.length:Int))||(near.length:Int) != (x.orders.length:Int))=false):¬∀i,i<near.length→nH x.orders.length near i=false:=by
 intro h2;unfold hJ at h;rw[h1,Bool.false_or,List.any_eq_true]at h;obtain⟨i,hi,hb⟩:=h;rw[h2 i (List.mem_range.1 hi)]at hb;cases hb
theorem HU(x:Instance)(kind:Int)(near:List Int)(hx:x.orders.length≤1048576)(hnl:near.length≤1048576)(hB:hJ x kind near=true):
   PC Tryz.prog 43 [.agg (aQ x),int kind,.sl (near.map aM)] (.tup [.v (.pointer none),int 2]):=by
 refine PC.body (c:=Tryz.f43.body.getD .skip) (fun t=>t == 62||t == 63) mixed Tryz.func43 rfl (by kernel_rfl) ?_;unfold Tryz.f43;simp only[Option.getD_some];simp only[go_sem];refine aA (fun hb=>?_) (fun hb=>?_)
 · simp only[go_sem]
   exact .refl _
 have hN:=Ow hB hb;simp only[go_sem];refine⟨fun ρ H=>∃(k:Nat),k≤near.length∧ρ 1=int kind∧ρ 2=.sl (near.map aM)∧ρ 3=.rp (aQ x) 0∧ρ 27=.sl (near.map aM)∧ρ 28=int (near.length:Nat)∧ρ 29=int k∧(∀i,i<k→nH x.orders.length near i=false),fun ρ _=>near.length-bQ (ρ 29),⟨0,Nat.zero_le _,by simp only[go_sem],by simp only[go_sem],by simp only[go_sem],by simp only[go_sem],by simp only[go_sem,List.length_map],(by simp only[go_sem];rfl),by intro i hi;omega⟩,?_⟩;rintro ρ H ⟨k,hk,e1,e2,e3,e27,e28,e29,hz⟩;simp only[go_sem,e1,e2,e3,e27,e28,e29];refine aA (fun hlt=>?_) (fun hge=>?_)
 · have hlt:=ltB (by simpa using hlt)
   obtain⟨v,hv⟩:=bC hlt;have b1:=inB hlt;have hgv:near.getD k 0=v:=by rw[List.getD,hv];rfl
   simp only[go_sem,e1,e2,e3,e27,e28,e29,aH hv,b1];refine⟨_,fun _=>PC.q (Sq.CK v (k:Nat)) rfl,?_⟩;simp only[go_sem,e1,e2,e3,e27,e28,e29,List.length_map];refine⟨by omega,?_⟩;refine aA (fun hb=>?_) (fun hb=>?_)
   · simp only[go_sem,e1,e2,e3,e27,e28,e29]
     exact .refl _
   · simp only[go_sem,e1,e2,e3,e27,e28,e29,bG (show k≤4611686018427387904 by omega)]
     refine⟨⟨k+1,hlt,rfl,fun i hi=>?_⟩,by simp only[aI];omega⟩;by_cases e:i=k
     · subst e;unfold nH;rw[hgv];exact hb
     · exact hz i (by omega)
 have hge:=geB hk (by simpa using hge);subst hge;exact absurd hz hN
theorem Tc(x:Instance)(kind:Nat)(near:List Int)(hx:x.orders.length≤1048576)(hnl:near.length≤1048576)(hB:hJ x kind near=false):
   NC Tryz.prog 43 [.agg (aQ x),int (kind:Nat),.sl (near.map aM)] (kX (jW x kind near)) (fun j=>.tup [.op j 0 0,int 0]):=by
 obtain⟨h1,h2⟩:=vZ hB;have hkt:kind<x.types.length:=by simp at h1;omega
 refine NC.body (c:=Tryz.f43.body.getD .skip) (fun t=>t == 62||t == 63) mixed Tryz.func43 rfl (by kernel_rfl) ?_;unfold Tryz.f43;simp only[Option.getD_some];simp only[go_sem];refine aA (fun hb=>?_) (fun hb=>?_)
 · rw[h1]at hb;cases hb
 simp only[go_sem];refine⟨fun ρ H=>∃(k:Nat),k≤near.length∧ρ 1=int (kind:Nat)∧ρ 2=.sl (near.map aM)∧ρ 3=.rp (aQ x) 0∧ρ 27=.sl (near.map aM)∧ρ 28=int (near.length:Nat)∧ρ 29=int k∧True,fun ρ _=>near.length-bQ (ρ 29),⟨0,Nat.zero_le _,by simp only[go_sem],by simp only[go_sem],by simp only[go_sem],by simp only[go_sem],by simp only[go_sem,List.length_map],(by simp only[go_sem];rfl),trivial⟩,?_⟩;rintro ρ H ⟨k,hk,e1,e2,e3,e27,e28,e29,hz⟩;simp only[go_sem,e1,e2,e3,e27,e28,e29];refine aA (fun hlt=>?_) (fun hge=>?_)
 · have hlt:=ltB (by simpa using hlt)
   obtain⟨v,hv⟩:=bC hlt;have b1:=inB hlt;have hgv:near.getD k 0=v:=by rw[List.getD,hv];rfl
   simp only[go_sem,e1,e2,e3,e27,e28,e29,aH hv,b1];refine⟨_,fun _=>PC.q (Sq.CK v (k:Nat)) rfl,?_⟩;simp only[go_sem,e1,e2,e3,e27,e28,e29,List.length_map];refine⟨by omega,?_⟩;refine aA (fun hb=>?_) (fun hb=>?_)
   · have h3:=h2 k hlt
     unfold nH at h3;rw[hgv]at h3;exact absurd (hb.symm.trans h3) (by simp)
   · simp only[go_sem,e1,e2,e3,e27,e28,e29,bG (show k≤4611686018427387904 by omega)]
     exact⟨⟨k+1,hlt,rfl⟩,by simp only[aI];omega⟩
 have b2:=inB hkt;have hT:x.types[kind]?=some (aE x kind):=by unfold aE;rw[List.getD,List.getElem?_eq_getElem hkt,Option.getD_some]
 have g2:=aH (f:=bE) hT;simp only[go_sem,e1,e2,e3,e27,e28,e29];refine kK [(0,true),(1,true),(2,true),(3,true),(4,true),(5,true),(6,true),(7,true),(8,true),(9,false),(10,true),(11,true),(12,false),(13,true),(14,true)] (by kernel_rfl) ?_;simp only[go_sem,e1,e2,e3,e27,e28,e29,g2,b2];refine PC.use (Qe x hx) ?_;simp only[go_sem,e1,e2,e3,e27,e28,e29,List.length_map];have hfill:∀(E:Option (List AV)) (F:List AV→Prop),E=some (iI (jW x kind near))→F (iI (jW x kind near))→aW E F:=fun E F h hF=>by rw[h];exact hF
 refine hfill _ _ (by kernel_rfl) ?_;refine⟨by rw[An];omega,?_⟩;refine aN fun jw hjw=>?_
 simp only[go_sem,e1,e2,e3,e27,e28,e29];exact⟨jw,rfl,by rw[aB]⟩
end Go.Proofs.YtdlijlecpopadaaGreatDoor.Rx
end
