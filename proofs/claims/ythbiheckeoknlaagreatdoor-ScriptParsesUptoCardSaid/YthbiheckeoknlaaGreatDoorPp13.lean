import Derived.Test.YthbiheckeoknlaaGreatDoorPp12
set_option linter.unusedSimpArgs false
set_option linter.unusedVariables false
set_option linter.defProp false
set_option maxRecDepth 100000
namespace Go.Proofs.YthbiheckeoknlaaGreatDoor
open Go.Aw Go.Aw.D Go.Proofs Ty
namespace Sp
open Go.Proofs.Tryz
open Go.Proofs.YthbiheckeoknlaaGreatDoor
open Go.Proofs.YthbiheckeoknlaaGreatDoor.Nw (ltB geB eT cB)
open Go.Proofs.YthbiheckeoknlaaGreatDoor.Sk
open Go.Proofs.YthbiheckeoknlaaGreatDoor.Sc hiding aW
theorem GU{H G H1 G4:aC}{n n1:Nat→Nat}{y:Instance}{p q:Nat}{qr:Row}(f1:ID H1 n1 y)(f2:mB n n1 G H1)(Q:G q=some qr)(oq:nX n q)(kk:∀k row,nX n k→H k=some row→G k=some row∧k≠p∧k≠q)(F4:Fr q H1 G4):ID G4 n1 y∧mB n n1 H G4:=by have Q1:=f2 q _ oq Q;refine⟨⟨fun i hi=>F4 _ _ (Q1.2 i hi).symm (f1.d i hi),f1.nn⟩,fun k row o h=>?_⟩;obtain⟨g,_,kq⟩:=kk k row o h;obtain⟨g1,o1⟩:=f2 k row o g;exact⟨F4 _ _ kq g1,o1⟩
theorem FJ{H G H1 G4:aC}{n n1:Nat→Nat}{p q:Nat}(f2:mB n n1 G H1)(kk:∀k row,nX n k→H k=some row→G k=some row∧k≠p∧k≠q)(F4:Fr q H1 G4):mB n n1 H G4:=fun k row o h=>by obtain⟨g,_,kq⟩:=kk k row o h;obtain⟨g1,o1⟩:=f2 k row o g;exact⟨F4 _ _ kq g1,o1⟩
theorem noW{w:ByteArray}{l:List ByteArray}(h:∀i<7,w≠W i):NoL (w::l):=fun it _ e=>h it.rank it.rank_lt (List.cons.inj e).1
theorem OZ{H:aC}{K:AV→aC→Prop}{n:Nat→Nat}{x:Instance}(I:ID H n x)(hx:SmallX x)(w0:ByteArray)(r:List ByteArray)(hw:∀p∈w0::r,aW p=true)(hs:∀p∈w0::r,p.size≤1048575)(hl:r.length≤1048575)
  (h1:∀it H' n',qD it→w0::r=it.word::it.words→ID H' n' (eH x it)→mB n n' H H'→K (.tup [xA n',boo true]) H')
  (h0:∀b H' n',NoL (w0::r)→(b=true→∀i<7,w0≠W i)→mB n n' H H'→K (.tup [xA n',boo b]) H'):cK prog 43 [xA n,.sl ((w0::r).map D.bE)] H K:=by
 refine cK.body (c:=f43.body.getD .skip) (fun t=>t == 2) mixed func43 rfl (by kernel_rfl) ?_;unfold f43;simp only[Xai];simp only[go_sem];refine aL fun p G hp0 (P:G p=some (nL n)) N=>?_
 have I1:IH G p n x:=⟨P,fun i hi=>(N (I.d i hi)).2,fun i hi=>(N (I.d i hi)).1,I.nn⟩;have k1:∀k row,nX n k→H k=some row→G k=some row∧k≠p:=fun k row _ h=>⟨(N h).2,(N h).1⟩
 clear N hp0 P;simp only[go_sem];refine aL fun q G' hq0 (Q:G' q=some ⟨31,6,[aO x0]⟩) N=>?_
 obtain⟨I2,oq⟩:=I1.new N;have kk:∀k row,nX n k→H k=some row→G' k=some row∧k≠p∧k≠q:=fun k row o h=>⟨(N (k1 k row o h).1).2,(k1 k row o h).2,(N (k1 k row o h).1).1⟩
 clear N hq0 k1 I1;simp only[go_sem,Q,I2.row];have hsr:∀p∈r,p.size≤1048575:=fun p hp=>hs p (by simp[hp])
 have hwr:∀p∈r,aW p=true:=fun p hp=>hw p (by simp[hp])
 refine⟨⟨by omega,by omega⟩,aA (fun hb=>?_) (fun hb0=>?_)⟩
 ·have hw0:w0=W 0:=fP hb;simp only[go_sem,Q,I2.row];refine aA (fun hb=>?_) (fun hb=>?_)
  ·simp only[go_sem,Q,I2.row];refine bF Q ⟨Nat.zero_lt_one,rfl,Nat.le_of_ble_eq_true rfl⟩ fun G3 Q3 F3=>?_
   simp only[go_sem,Q3];refine h0 _ _ _ (AW hw0 fun v _ e=>?_) (fun h=>by cases h) (rP I2 kk F3);rw[e]at hb;exact absurd hb (by simp[Sk.Item.words])
  have h2:r.length=1:=by
   have:(((w0::r).length:Nat):Int)=2:=by simpa using hb
   simp only[Xaa]at this;omega
  match r,h2 with
  | [w1],_=>
  have hpl:=hx.pl;simp only[go_sem,Q,I2.row];refine lO [] (.q 0 (.q 1 (.q 3 (.q 4 (.q 5 (.a2 2 (.a1 6 (.a1 7 (.q 8 (.q 9 (.a1 10 .nil))))) 6 (.a1 2 (.a1 7 (.q 8 (.q 9 (.a1 10 .nil)))))))))))  (by simp) (by kernel_rfl) fun Hp Hr _ hr _ _=>?_
  obtain rfl:Hr=G':=funext fun k=>hr k (by simp)
  simp only[go_sem,Q,I2.row];refine⟨by omega,?_,?_⟩
  all_goals
   simp only[go_sem,Q,I2.row];refine mH (I2.d 0 (by decide)) ⟨rfl,rfl⟩ (by simp only[go_sem,aB,aX]) (by simp only[dC,Xab,Xaa,List.length_nil];omega) fun j' G2 A N2=>?_
   have B:=(N2 p _ (I2.nb 0 (by decide)).symm I2.row).2;have Q2:=(N2 q _ (oq.2 0 (by decide)) Q).2;simp only[go_sem,B];refine bU NE B ⟨Nat.zero_lt_one,rfl,Nat.le_of_ble_eq_true rfl⟩ fun G3 B3 F3=>?_
   simp only[go_sem];refine cV fun _ Hm _ hm2=>?_
   obtain rfl:Hm=G3:=funext fun k=>hm2 k (by simp)
   have Q3:=F3 _ _ oq.1 Q2;simp only[go_sem,B3,Q3];refine bF Q3 ⟨Nat.zero_lt_one,rfl,Nat.le_of_ble_eq_true rfl⟩ fun G4 Q4 F4=>?_
   simp only[go_sem,Q4];have A2:G2 j'=some (dC (eH x (.place w1)) 0):=A.trans (by simp only[dC,eH,cA,Sk.eD,Sk.gE,Sk.gF,Sk.eN,Xal];rfl);obtain⟨f1,f2⟩:=D7 (y:=eH x (.place w1)) (j:=0) I2 Q oq kk (by decide) A2 N2 (fun i hi hne=>kU (.place w1) hi hne) B3 F3 F4;exact h1 (.place w1) _ _ (hwr w1 (by simp)) (by rw[hw0];rfl) f1 f2
 simp only[go_sem,Q,I2.row];refine aA (fun hb=>?_) (fun hb1=>?_)
 ·have hw0:w0=W 1:=fP hb;simp only[go_sem,Q,I2.row];refine QE (Bv I2) hx.al w0 r hsr hl (fun a H1 n1 oa e f1 f2=>?_) (fun no H1 f2=>?_)
  ·have Q1:=(f2 q _ oq.2 Q).1;simp only[go_sem,Q1];refine bF Q1 ⟨Nat.zero_lt_one,rfl,Nat.le_of_ble_eq_true rfl⟩ fun G4 Q4 F4=>?_
   simp only[go_sem,Q4];obtain⟨g1,g2⟩:=GU f1 f2 Q oq.2 kk F4;refine h1 (.arc a) _ _ oa (by rw[hw0,e];rfl) g1 g2
  ·have Q1:=(f2 q _ oq.2 Q).1;simp only[go_sem,Q1];refine bF Q1 ⟨Nat.zero_lt_one,rfl,Nat.le_of_ble_eq_true rfl⟩ fun G4 Q4 F4=>?_
   simp only[go_sem,Q4];exact h0 _ _ _ (uZ hw0 fun v ov e=>no v ov e) (fun h=>by cases h) (FJ f2 kk F4)
 simp only[go_sem,Q,I2.row];refine aA (fun hb=>?_) (fun hb2=>?_)
 ·have hw0:w0=W 2:=fP hb;simp only[go_sem,Q,I2.row];refine Kk (Bv I2) hx.tl w0 r hsr hl (fun a H1 n1 oa e f1 f2=>?_) (fun no H1 f2=>?_)
  ·have Q1:=(f2 q _ oq.2 Q).1;simp only[go_sem,Q1];refine bF Q1 ⟨Nat.zero_lt_one,rfl,Nat.le_of_ble_eq_true rfl⟩ fun G4 Q4 F4=>?_
   simp only[go_sem,Q4];obtain⟨g1,g2⟩:=GU f1 f2 Q oq.2 kk F4;refine h1 (.type a) _ _ ⟨oa,?_⟩ (by rw[hw0,e];rfl) g1 g2;exact hwr a.name (by rw[e];simp[Kz])
  ·have Q1:=(f2 q _ oq.2 Q).1;simp only[go_sem,Q1];refine bF Q1 ⟨Nat.zero_lt_one,rfl,Nat.le_of_ble_eq_true rfl⟩ fun G4 Q4 F4=>?_
   simp only[go_sem,Q4];exact h0 _ _ _ (E7 hw0 fun v ov e=>no v ov.1 e) (fun h=>by cases h) (FJ f2 kk F4)
 simp only[go_sem,Q,I2.row];refine aA (fun hb=>?_) (fun hb3=>?_)
 ·have hw0:w0=W 3:=fP hb;simp only[go_sem,Q,I2.row];refine Ge (Bv I2) hx.ol w0 r hsr hl (fun a H1 n1 oa e f1 f2=>?_) (fun no H1 f2=>?_)
  ·have Q1:=(f2 q _ oq.2 Q).1;simp only[go_sem,Q1];refine bF Q1 ⟨Nat.zero_lt_one,rfl,Nat.le_of_ble_eq_true rfl⟩ fun G4 Q4 F4=>?_
   simp only[go_sem,Q4];obtain⟨g1,g2⟩:=GU f1 f2 Q oq.2 kk F4;refine h1 (.order a) _ _ ⟨oa,?_⟩ (by rw[hw0,e];rfl) g1 g2;exact hwr a.name (by rw[e];simp[EH])
  ·have Q1:=(f2 q _ oq.2 Q).1;simp only[go_sem,Q1];refine bF Q1 ⟨Nat.zero_lt_one,rfl,Nat.le_of_ble_eq_true rfl⟩ fun G4 Q4 F4=>?_
   simp only[go_sem,Q4];exact h0 _ _ _ (BR hw0 fun v ov e=>no v ov.1 e) (fun h=>by cases h) (FJ f2 kk F4)
 simp only[go_sem,Q,I2.row];refine aA (fun hb=>?_) (fun hb6=>?_)
 ·have hw0:w0=W 6:=fP hb;simp only[go_sem,Q,I2.row];refine bF Q ⟨Nat.zero_lt_one,rfl,Nat.le_of_ble_eq_true rfl⟩ fun G3 Q3 F3=>?_
  simp only[go_sem,Q3];cases r with
  | nil=>exact h1 .fin _ n trivial (by rw[hw0];rfl) (Bv (I2.fr F3 oq)) (rP I2 kk F3)
  | cons v r'=>
   have hne:((((w0::v::r').length:Nat):Int) == 1)=false:=by rw[beq_eq_false_iff_ne];simp only[Xaa];omega
   refine h0 false _ n (fun it ok e=>?_) (fun h=>by cases h) (rP I2 kk F3);have hr:=lL (i:=6) (by decide) (hw0.symm.trans (List.cons.inj e).1);have:=congrArg List.length (List.cons.inj e).2;rw[EV,hr]at this;simp[RD]at this
 simp only[go_sem,Q,I2.row];have ne:∀i:Nat,(w0.toList == (W i).toList)=false→w0≠W i:=fun i h e=>by rw[e,beq_self_eq_true]at h;cases h
 have d0:=ne 0 hb0;have d1:=ne 1 hb1;have d2:=ne 2 hb2;have d3:=ne 3 hb3;have d6:=ne 6 hb6;clear hb0 hb1 hb2 hb3 hb6 ne;have all:w0≠W 4→w0≠W 5→∀i<7,w0≠W i:=fun d4 d5 i hi=>by
  have:i=0∨i=1∨i=2∨i=3∨i=4∨i=5∨i=6:=by omega
  rcases this with rfl|rfl|rfl|rfl|rfl|rfl|rfl <;> assumption
 refine Pt (Bv I2) hx.ap hx.be w0 r hsr hl (fun a H1 n1 oa e hw0 f1 f2=>?_) (fun a H1 n1 oa e d4 f1 f2=>?_) (fun no H1 f2=>?_)
 ·have Q1:=(f2 q _ oq.2 Q).1;simp only[go_sem,Q1];refine bF Q1 ⟨Nat.zero_lt_one,rfl,Nat.le_of_ble_eq_true rfl⟩ fun G4 Q4 F4=>?_
  simp only[go_sem,Q4];obtain⟨g1,g2⟩:=GU f1 f2 Q oq.2 kk F4;exact h1 (.apart a) _ _ oa (by rw[hw0,e];rfl) g1 g2
 ·have Q1:=(f2 q _ oq.2 Q).1;simp only[go_sem,Q1];refine bF Q1 ⟨Nat.zero_lt_one,rfl,Nat.le_of_ble_eq_true rfl⟩ fun G4 Q4 F4=>?_
  simp only[go_sem,Q4];obtain⟨g1,g2⟩:=GU f1 f2 Q oq.2 kk F4;by_cases d5:w0=W 5
  ·exact h1 (.before a) _ _ oa (by rw[d5,e];rfl) g1 g2
  ·exact h0 _ _ _ (noW (all d4 d5)) (fun _=>all d4 d5) g2
 ·have Q1:=(f2 q _ oq.2 Q).1;simp only[go_sem,Q1];refine bF Q1 ⟨Nat.zero_lt_one,rfl,Nat.le_of_ble_eq_true rfl⟩ fun G4 Q4 F4=>?_
  simp only[go_sem,Q4];refine h0 _ _ _ ?_ (fun h=>by cases h) (FJ f2 kk F4);by_cases d4:w0=W 4
  ·exact pR d4 fun v ov e=>no v ov e
  by_cases d5:w0=W 5
  ·exact mV d5 fun v ov e=>no v ov e
  exact noW (all d4 d5)
theorem Re{w0:ByteArray}{r:List ByteArray}{it:Sk.Item}{k:Nat}(e:w0::r=it.word::it.words)(h:(k=0∧∀i<7,w0≠eJ.getD i ⟨#[]⟩)∨(∃i<7,k=i+1∧w0=eJ.getD i ⟨#[]⟩)):k=it.rank+1:=by
 have e1:w0=it.word:=(List.cons.inj e).1;rcases h with⟨_,h⟩|⟨i,hi,rfl,h⟩
 ·exact absurd e1 (h it.rank it.rank_lt)
 ·rw[lL hi (h.symm.trans e1)]
theorem KI(ps:List ByteArray)(hps:ps≠[])(hno:∀p∈ps,(10:UInt8)∉p.data.toList)(hs:(aG nlB ps).size≤65536):PC prog 16 [str (aG nlB ps)] (xN (kS ps 0 1 x0)):=by
 have hpl:ps.length≤65537:=Xam (fX 10 ps) (show(aG nlB ps).size+1≤65537 by omega);have hpz:∀p∈ps,p.size≤65536:=fun p hp=>Xam (bW nlB hp) hs
 rw[←L3 ps 0 1 x0 (by decide)];have hpc:=pE (c:=10) hps hno (show(aG nlB ps).size≤1048575 by omega);refine pcb (fun t=>t == 5) func16 rfl rfl ?_;simp only[go_sem];refine aL fun r Gr hr (R:Gr r=some ⟨31,6,[aO x0]⟩) N=>?_
 clear N hr;simp only[go_sem,R];refine aA (fun hb=>absurd (of_decide_eq_true hb) (by omega)) (fun _=>?_);simp only[go_sem,R];refine aL fun k0 G0 _ (D0:G0 k0=some (cA [])) N=>?_
 obtain⟨q0,R⟩:=N R;clear N;refine aL fun k1 G1 _ (D1:G1 k1=some (Sk.eD [])) N=>?_
 obtain⟨q1,R⟩:=N R;obtain⟨p01,D0⟩:=N D0;clear N;refine aL fun k2 G2 _ (D2:G2 k2=some (Sk.gE [])) N=>?_
 obtain⟨q2,R⟩:=N R;obtain⟨p02,D0⟩:=N D0;obtain⟨p12,D1⟩:=N D1;clear N;refine aL fun k3 G3 _ (D3:G3 k3=some (Sk.gF [])) N=>?_
 obtain⟨q3,R⟩:=N R;obtain⟨p03,D0⟩:=N D0;obtain⟨p13,D1⟩:=N D1;obtain⟨p23,D2⟩:=N D2;clear N;refine aL fun k4 G4 _ (D4:G4 k4=some (Sk.eN [])) N=>?_
 obtain⟨q4,R⟩:=N R;obtain⟨p04,D0⟩:=N D0;obtain⟨p14,D1⟩:=N D1;obtain⟨p24,D2⟩:=N D2;obtain⟨p34,D3⟩:=N D3;clear N;refine aL fun k5 G5 _ (D5:G5 k5=some (Sk.eN [])) N=>?_
 obtain⟨q5,R⟩:=N R;obtain⟨p05,D0⟩:=N D0;obtain⟨p15,D1⟩:=N D1;obtain⟨p25,D2⟩:=N D2;obtain⟨p35,D3⟩:=N D3;obtain⟨p45,D4⟩:=N D4;clear N;refine aL fun b G _ (B:G b=some (nL fun i=>[k0,k1,k2,k3,k4,k5].getD i 0)) N=>?_
 obtain⟨qb,R⟩:=N R;obtain⟨b0,D0⟩:=N D0;obtain⟨b1,D1⟩:=N D1;obtain⟨b2,D2⟩:=N D2;obtain⟨b3,D3⟩:=N D3;obtain⟨b4,D4⟩:=N D4;obtain⟨b5,D5⟩:=N D5;clear N;have six:∀i:Nat,i<6→i=0∨i=1∨i=2∨i=3∨i=4∨i=5:=fun i hi=>by omega
 have I:IH G b (fun i=>[k0,k1,k2,k3,k4,k5].getD i 0) x0:=by
   refine⟨B,fun i hi=>?_,fun i hi=>?_,fun i hi j hj hne=>?_⟩
   · rcases six i hi with rfl|rfl|rfl|rfl|rfl|rfl <;> assumption
   · rcases six i hi with rfl|rfl|rfl|rfl|rfl|rfl <;> assumption
   · rcases six i hi with rfl|rfl|rfl|rfl|rfl|rfl <;> rcases six j hj with rfl|rfl|rfl|rfl|rfl|rfl <;> first|exact absurd rfl hne|assumption|exact Ne.symm (by assumption)
 have off:Off b (fun i=>[k0,k1,k2,k3,k4,k5].getD i 0) r:=⟨qb,fun i hi=>by rcases six i hi with rfl|rfl|rfl|rfl|rfl|rfl <;> assumption⟩;generalize (fun i=>[k0,k1,k2,k3,k4,k5].getD i 0)=n at *;simp only[go_sem,R];refine bB hpc ?_;simp only[go_sem,R];refine⟨fun ρ H'=>∃(y:Instance) (n:Nat→Nat) (m k:Nat),k<ps.length∧ρ 2=.op r 0 0∧ρ 5=.op b 0 0∧ρ 6=.sl (ps.map D.bE)∧ρ 7=int m∧ρ 8=int k∧IH H' b n y∧H' r=some ⟨31,6,[aO x0]⟩∧Off b n r∧sR (ps.drop k) m (k+1) y=sR ps 0 1 x0∧GI k y∧m≤7,fun ρ _=>ps.length-bO (ρ 8),⟨x0,n,0,0,Xbf.2 hps,by simp only[go_sem],by simp only[go_sem],by simp only[go_sem],by simp only[go_sem];rfl,by simp only[go_sem];rfl,I,R,off,rfl,GI.nil,by omega⟩,?_⟩;clear I R off B D0 D1 D2 D3 D4 D5 hs;rintro ρ H' ⟨y,n,m,k,hk,e2,e5,e6,e7,e8,I,R,off,hf,g,hm⟩;have hwk:=cH k;obtain⟨t,ht⟩:∃t,ps[k]?=some t:=⟨_,List.getElem?_eq_getElem hk⟩;have hdr:ps.drop k=t::ps.drop (k+1):=by
   rw[List.drop_eq_getElem_cons hk]
   congr 1
   rw[List.getElem?_eq_getElem hk]at ht;exact Option.some.inj ht
 rw[hdr,sR]at hf;have hts:=hpz t (aQ ht);simp only[go_sem,e2,e5,e6,e7,e8,hwk];refine aA (fun hlt=>?_) (fun hge=>?_)
 · have hlt : k + 1 < ps.length := by have:=of_decide_eq_true hlt;omega
   have hq:ps.drop (k+1)≠[]:=fun e=>by have:=congrArg List.length e;rw[List.length_drop]at this;simp at this;omega
   rw[if_neg hq]at hf;have b1:=inB hk;simp only[go_sem,e2,e5,e6,e7,e8,hwk,aM ht,b1];refine(Bm t (by omega)).use ?_;rintro _ ⟨l,e,⟨⟨w1,w2,w3,w4⟩,w5⟩,rfl⟩;have noI:itF t=none→sR ps 0 1 x0=.inl (k+1):=fun h=>by rw[h]at hf;exact hf.symm
   have isW:∀it,qD it→t=it.line→e=0∧l=it.word::it.words:=fun it ok h=>w2 _ ⟨by simp,mF ok,h⟩
   simp only[go_sem,e2,e5,e6,e7,e8];have hbare:e=0→PC prog 41 [.sl (l.map D.bE)] (boo (l.all Aa&&decide (0<l.length))):=fun h=>SF l (fun p hp=>BW (w1 h p hp)) (by have:=(w4 h).1;omega)
   have err:∀{H1:aC},itF t=none→H1 r=some ⟨31,6,[aO x0]⟩→xN (sR ps 0 1 x0)=.tup [.agg (aO x0),int (k+1:Nat),int 3]:=fun h _=>by rw[noI h];rfl
   refine⟨_,fun hg=>(hbare (by simpa using hg)).q rfl,?_⟩;simp only[go_sem,e2,e5,e6,e7,e8,R];refine aA (fun hb=>?_) (fun hb=>?_)
   · have hn : itF t = none := Bw fun it ok h => by
       obtain⟨g1,g2⟩:=isW it ok h;have hall:l.all Aa=true:=Xax.2 fun p hp=>MB (by rw[g2]at hp;exact mF ok p hp)
       rw[hall,g1,g2]at hb;exact absurd hb (by simp)
     rw[err hn R];simp only[go_sem,e2,e8,hwk,R];refine bF R ⟨Nat.zero_lt_one,rfl,Nat.le_of_ble_eq_true rfl⟩ fun G3 R3 F3=>?_
     simp only[go_sem,e2,e8,hwk,R3];exact .refl _
   rw[Xaq]at hb;have he:e=0:=by simpa using hb.1
   have hall:l.all Aa=true∧l≠[]:=by have h2:=hb.2;rw[Bool.not_eq_false',Xag,decide_eq_true_eq]at h2;exact⟨h2.1,Xbf.1 h2.2⟩
   have hlw:∀p∈l,aW p=true:=fun p hp=>C6 (w1 he p hp) (Xax.1 hall.1 p hp)
   have hbr:oE t l:=w3 he hall.2 hlw;obtain⟨w40,w41⟩:=w4 he;clear hb hbare w1 w2 w3 w4 w5;cases l with
   | nil=>exact absurd rfl hall.2
   | cons w0 lr=>
   obtain⟨kr,hrc,hrk⟩:=R5 w0;have noL:NoL (w0::lr)→itF t=none:=fun h=>Bw fun it ok e=>h it ok (isW it ok e).2
   simp only[go_sem,e2,e5,e6,e7,e8,R];refine⟨⟨by omega,by omega⟩,PC.use hrc ?_⟩;simp only[go_sem,e2,e5,e6,e7,e8,R,I.row];refine OZ (Bv I) (g.small (by omega)) w0 lr hlw (fun p hp=>by have:=w41 p hp;omega) (by simp only[Xaa]at w40;omega) (fun it H1 n1 ok el f1 f2=>?_) (fun bb H1 n1 nl hbb f2=>?_)
   · have hkr:=Re el hrk;have htl:t=it.line:=by have:=hbr.2.2;rw[el]at this;exact this
     have hit:itF t=some it:=by rw[htl];exact PD ok
     rw[hit]at hf;simp only at hf;obtain⟨R1,or1⟩:=f2 r _ off.2 R;obtain⟨B1,ob1⟩:=f2 b _ (fun i hi=>(I.nb i hi).symm) I.row;have hlt7:=it.rank_lt;subst hkr;simp only[go_sem,e2,e5,e6,e7,e8,R1,B1];refine aL fun c G1 hc0 (C:G1 c=some ⟨31,6,[aO x0]⟩) N=>?_
     obtain⟨nrc,R2⟩:=N R1;obtain⟨nbc,B2⟩:=N B1;have f3:ID G1 n1 (eH y it):=⟨fun i hi=>(N (f1.d i hi)).2,f1.nn⟩;have onc:∀i<6,n1 i≠c:=fun i hi=>(N (f1.d i hi)).1
     clear N hc0 R1 B1 f1;simp only[go_sem,e2,e5,e6,e7,e8,R2,B2,C];refine bF C ⟨Nat.zero_lt_one,rfl,Nat.le_of_ble_eq_true rfl⟩ fun G2 C2 F2=>?_
     replace R2:=F2 _ _ nrc R2;replace B2:=F2 _ _ nbc B2;replace f3:ID G2 n1 (eH y it):=⟨fun i hi=>F2 _ _ (onc i hi) (f3.d i hi),f3.nn⟩;clear F2;simp only[go_sem,e2,e5,e6,e7,e8,R2,B2,C2];refine aA (fun hb=>?_) (fun hb=>?_)
     · have hbad : it.rank + 1 < m ∨ m = 7 := by simp only[Xba,Xan,decide_eq_true_eq,Xbi,Xbj,or_false]at hb;omega
       rw[if_pos hbad]at hf;rw[←hf];simp only[go_sem,e2,e8,hwk,R2];refine bF R2 ⟨Nat.zero_lt_one,rfl,Nat.le_of_ble_eq_true rfl⟩ fun G3 R3 F3=>?_
       simp only[go_sem,e2,e8,hwk,R3];exact .refl _
     · have hgood : ¬ (it.rank + 1 < m ∨ m = 7) := by simp only[Xaq,beq_eq_false_iff_ne,decide_eq_false_iff_not]at hb;omega
       rw[if_neg hgood]at hf;simp only[go_sem,e2,e5,e6,e7,e8,R2,B2,C2];refine bF B2 ⟨Nat.zero_lt_one,rfl,Nat.le_of_ble_eq_true rfl⟩ fun G3 B3 F3=>?_
       replace R2:=F3 _ _ off.1 R2;have I3:IH G3 b n1 (eH y it):=⟨B3,fun i hi=>F3 _ _ (ob1 i hi).symm (f3.d i hi),fun i hi=>(ob1 i hi).symm,f3.nn⟩;simp only[go_sem,e2,e5,e6,e7,e8,hwk];exact⟨⟨eH y it,n1,it.rank+1,k+1,hlt,rfl,rfl,I3,R2,⟨off.1,or1⟩,hf,g.step ok (by rw[←htl];omega),by omega⟩,by simp only[aE];omega⟩
   · have hn:=noL nl;obtain⟨R1,or1⟩:=f2 r _ off.2 R;obtain⟨B1,ob1⟩:=f2 b _ (fun i hi=>(I.nb i hi).symm) I.row;simp only[go_sem,e2,e5,e6,e7,e8,R1,B1];refine aL fun c G1 hc0 (C:G1 c=some ⟨31,6,[aO x0]⟩) N=>?_
     obtain⟨nrc,R2⟩:=N R1;clear N hc0;simp only[go_sem,e2,e5,e6,e7,e8,R2,C];refine bF C ⟨Nat.zero_lt_one,rfl,Nat.le_of_ble_eq_true rfl⟩ fun G2 C2 F2=>?_
     replace R2:=F2 _ _ nrc R2;simp only[go_sem,e2,e5,e6,e7,e8,R2];refine aA (fun _=>?_) (fun hb=>?_)
     · rw[err hn R2];simp only[go_sem,e2,e8,hwk,R2];refine bF R2 ⟨Nat.zero_lt_one,rfl,Nat.le_of_ble_eq_true rfl⟩ fun G3 R3 F3=>?_
       simp only[go_sem,e2,e8,hwk,R3];exact .refl _
     · exfalso;simp only[Xaq,Bool.not_eq_false']at hb;have hw:=hbb hb.2;rcases hrk with⟨rfl,_⟩|⟨i,hi,_,h⟩
       · exact absurd hb.1.1.1 (by decide)
       · exact hw i hi h
 · have hkl : k + 1 = ps.length := by have:=of_decide_eq_false hge;omega
   have hdn:ps.drop (k+1)=[]:=List.drop_eq_nil_of_le (by omega);rw[hdn,if_pos rfl]at hf;have hwl:IntKind.i64.wrap ((ps.length:Int)-1)=(k:Int):=by rw[dI (by omega)];omega
   have b1:=inB hk;simp only[go_sem,e2,e5,e6,e7,e8,hwl,aM ht];refine⟨fun _=>b1,aA (fun hb=>?_) (fun hb=>?_)⟩
   · have hbad : ¬ (m = 7 ∧ t.size = 0) := fun ⟨h1, h2⟩ => by have:t=⟨#[]⟩:=gD (Xbh (by rw[bY,h2]));rw[h1,this]at hb;exact absurd hb (by decide +kernel)
     rw[if_neg hbad]at hf;rw[←hf];simp only[go_sem,e2,e6,R];refine bF R ⟨Nat.zero_lt_one,rfl,Nat.le_of_ble_eq_true rfl⟩ fun G3 R3 F3=>?_
     simp only[go_sem,e2,R3];rw[hkl];exact .refl _
   · rw[Xaq]at hb;have hm7' : (m : Int) = 7 := by simpa using hb.1
     have hm7 : m = 7 := by omega
     have ht0:t=⟨#[]⟩:=fP (by simpa using hb.2);rw[if_pos ⟨hm7,by rw[ht0];rfl⟩]at hf;rw[←hf];have hic:PC prog 44 [.agg (aO y)] (.sl ((iI y).map cE)):=NC.pc (Lk y (g.inB (by omega)));simp only[go_sem,e2,e5,e6,e7,e8,I.row];cases hc:iI y with
     | nil=>
       rw[hc]at hic;have hA:xN (.inr y)=.tup [.agg (aO y),int 0,int 0]:=by simp only[xN,hc]
       rw[hA];refine PC.useNil (.cons _ _ _ _ (mY I) .nil) hic ?_;simp only[go_sem,I.row];refine aA (fun hb=>absurd hb (by decide)) (fun _=>?_);simp only[go_sem,e2,e5,I.row];refine bF R ⟨Nat.zero_lt_one,rfl,Nat.le_of_ble_eq_true rfl⟩ fun G3 R3 F3=>?_
       simp only[go_sem,e2,R3];exact .tup _ _ (.cons _ _ _ _ (mY (I.fr F3 off)) (.cons _ _ _ _ (.refl _) (.cons _ _ _ _ (.refl _) .nil)))
     | cons f fs=>
       rw[hc]at hic;have hA:xN (.inr y)=.tup [.agg (aO x0),int 0,int f.err]:=by simp only[xN,hc]
       rw[hA];refine PC.useF [b,n 0,n 1,n 2,n 3,n 4,n 5] ?_ hic ?_
       · have I3 : IH (fun k => if k ∈ [b, n 0, n 1, n 2, n 3, n 4, n 5] then H' k else none) b n y := ⟨by simp [I.row], fun i hi => by rcases six i hi with rfl|rfl|rfl|rfl|rfl|rfl <;> simp[I.d],I.nb,I.nn⟩;exact .cons _ _ _ _ (mY I3) .nil
       have hrl:r∉[b,n 0,n 1,n 2,n 3,n 4,n 5]:=fun h=>by
         simp only[Xaf,List.not_mem_nil,or_false]at h;rcases h with h|h|h|h|h|h|h
         · exact off.1 h
         all_goals exact off.2 _ (by decide) h
       have R4:(fun k=>if k∈[b,n 0,n 1,n 2,n 3,n 4,n 5]then none else H' k) r=some ⟨31,6,[aO x0]⟩:=(if_neg hrl).trans R;generalize (fun k=>if k∈[b,n 0,n 1,n 2,n 3,n 4,n 5]then none else H' k)=H4 at R4;simp only[go_sem,e2,e5];refine aA (fun _=>?_) (fun hb=>absurd hb (by simp));simp only[go_sem,e2,e5];refine bX [(0,true),(1,true),(2,true),(3,true),(4,true),(5,false),(6,false),(7,false)] (by kernel_rfl) ?_;simp only[go_sem,e2,e5];refine⟨⟨by omega,by omega⟩,?_⟩;refine bF R4 ⟨Nat.zero_lt_one,rfl,Nat.le_of_ble_eq_true rfl⟩ fun G3 R3 F3=>?_
       simp only[go_sem,e2,R3];exact .refl _
end Sp
namespace Sp
open Go.Proofs.YthbiheckeoknlaaGreatDoor
open Go.Proofs.YthbiheckeoknlaaGreatDoor.Sk
open Go.Proofs.YthbiheckeoknlaaGreatDoor.Sc hiding aW
open Classical in
noncomputable def rF:List ByteArray→List ByteArray→Bool→Nat×Int
  | [],_,_=>(0,0)
  | t::q,a,o=>if q=[]then(if o=true∧t.size=0 then(0,0)else(a.length+1,3))else
    if o=true then(match cmF t with
      | none=>(a.length+1,3)
      | some _=>rF q (a++[t]) true)
    else if t=kB then(if(rU (kS (a++[⟨#[]⟩]) 0 1 x0)).2.2≠0 then(rU (kS (a++[⟨#[]⟩]) 0 1 x0)).2 else rF q (a++[t]) true)
    else rF q (a++[t]) false
noncomputable def SL:Nat ⊕ List D.Command→Nat×Int
 | .inl n=>(n,3)
 | .inr _=>(0,0)
theorem K7:∀(q a:List ByteArray) (cs:List D.Command),q≠[]→rF q a true=SL (lX q (a.length+1) cs)
 | [],_,_,h=>absurd rfl h
 | t::q,a,cs,_=>by
  rw[rF,lX];by_cases hq:q=[]
  ·rw[if_pos hq,if_pos hq];by_cases ht:t.size=0
   ·rw[if_pos ⟨rfl,ht⟩,if_pos ht];rfl
   ·rw[if_neg fun h=>ht h.2,if_neg ht];rfl
  ·rw[if_neg hq,if_neg hq,if_pos rfl];cases hc:cmF t with
   | none=>rfl
   | some c=>simp only;rw[K7 q (a++[t]) (cs++[c]) hq,Xac,List.length_singleton]
theorem Lo:∀(q a:List ByteArray),q≠[]→rF q a false=(match nT q with
  | none=>(a.length+q.length,(3:Int))
  | some (a',b)=>if(rU (kS (a++a'++[⟨#[]⟩]) 0 1 x0)).2.2≠0 then(rU (kS (a++a'++[⟨#[]⟩]) 0 1 x0)).2 else SL (lX b ((a++a').length+2) []))
 | [],_,h=>absurd rfl h
 | t::q,a,_=>by
  rw[rF,nT];by_cases hq:q=[]
  ·subst hq;rw[if_pos rfl,if_pos rfl,if_neg fun h=>by cases h.1];rfl
  ·rw[if_neg hq,if_neg hq,if_neg (by decide)];by_cases ht:t=kB
   ·rw[if_pos ht,if_pos ht];simp only[Xah];rw[K7 q (a++[t]) [] hq,Xac,List.length_singleton]
   ·rw[if_neg ht,if_neg ht,Lo q (a++[t]) hq];cases hd:nT q with
    | none=>
     simp only[Option.map_none,Xac,Xaa,List.length_nil]
     congr 1
     omega
    | some ab=>obtain⟨a',b⟩:=ab;simp only[Option.map_some,Xar,List.singleton_append]
theorem Sa(ps:List ByteArray)(h:ps≠[]):rF ps [] false=(vS ps).2:=by
 rw[Lo ps [] h];unfold vS;cases hd:nT ps with
 | none=>simp
 | some ab=>
  obtain⟨a,b⟩:=ab;simp only[Xaz];rcases hs3:rU (kS (a++[⟨#[]⟩]) 0 1 x0)with⟨x,n,e⟩
  rw[hs3];show(if e≠0 then(n,e)else SL (lX b (a.length+2) []))=(if e≠0 then(nN,n,e)else match lX b (a.length+2) []with| .inl n=>(nN,n,3)| .inr cs=>(⟨x,cs⟩,0,0)).2;by_cases he:e≠0
  ·rw[if_pos he,if_pos he]
  ·rw[if_neg he,if_neg he];cases lX b (a.length+2) [] <;> rfl
theorem LV(a:List ByteArray)(t:ByteArray):nlS (a++[t])=nlS a++(t++nlB):=by
 unfold nlS;rw[Xal,oZ]
 congr 1
 exact vX _
theorem Bu(a:List ByteArray):nlS a=aG nlB (a++[⟨#[]⟩]):=by rw[tO a [⟨#[]⟩] (by simp),show aG nlB [⟨#[]⟩]=⟨#[]⟩from rfl,dP]
section
variable{s t:ByteArray}{a q:List ByteArray}
theorem Aq(h:s=nlS a++aG nlB (t::q)):bs s=bs (nlS a)++(bs t++bs (cS nlB q)):=by rw[h,aZ,dJ,dJ]
theorem MM(h:s=nlS a++aG nlB (t::q)):s.size=(nlS a).size+(t.size+(cS nlB q).size):=by rw[h,aZ,ByteArray.size_append,ByteArray.size_append]
theorem Oc(h:q≠[]):(cS nlB q).size=1+(aG nlB q).size:=by
 cases q with
 | nil=>exact absurd rfl h
 | cons u r=>rw[bS,ByteArray.size_append];rfl
theorem OB(h:s=nlS a++aG nlB (t::q)):s.extract (nlS a).size ((nlS a).size+t.size)=t:=by refine gD ?_;rw[eY,Aq h,←bY (nlS a),List.drop_left,show(bs (nlS a)).length+t.size-(bs (nlS a)).length=(bs t).length by rw[bY t];omega,List.take_left]
theorem N0(h:s=nlS a++aG nlB (t::q)):s.extract 0 (nlS a).size=nlS a:=by refine gD ?_;rw[eY,Aq h,List.drop_zero,Nat.sub_zero,←bY (nlS a),List.take_left]
theorem Nn(h:s=nlS a++aG nlB (t::q)){j:Nat}(hj:j<t.size):s.data.getD ((nlS a).size+j) 0∈bs t:=by
 have hl:j<(bs t).length:=by rw[bY];exact hj
 rw[iR,Aq h,List.getD_eq_getElem?_getD,List.getElem?_append_right (by rw[bY];omega),bY,Nat.add_sub_cancel_left,List.getElem?_append_left hl,List.getElem?_eq_getElem hl];exact List.getElem_mem hl
theorem Qx(h:s=nlS a++aG nlB (t::q))(hq:q≠[]):s.data.getD ((nlS a).size+t.size) 0=10:=by
 have e:bs (cS nlB q)=10::bs (aG nlB q):=by
  cases q with
  | nil=>exact absurd rfl hq
  | cons u r=>rw[bS,dJ];rfl
 rw[iR,Aq h,List.getD_eq_getElem?_getD,List.getElem?_append_right (by rw[bY];omega),bY,Nat.add_sub_cancel_left,List.getElem?_append_right (by rw[bY];omega),bY,Nat.sub_self,e];rfl
theorem Mg(h:s=nlS a++aG nlB (t::q))(hq:q≠[]):s=nlS (a++[t])++aG nlB q∧(nlS (a++[t])).size=(nlS a).size+t.size+1:=by
 have e:cS nlB q=nlB++aG nlB q:=by
  cases q with
  | nil=>exact absurd rfl hq
  | cons u r=>rw[bS];rfl
 refine⟨?_,?_⟩
 ·rw[h,aZ,e,LV];simp only[bQ]
 ·rw[LV,ByteArray.size_append,ByteArray.size_append];show _+(_+1)=_;omega
end
end Sp
namespace Sp
open Go.Proofs.Tryz
open Go.Proofs.YthbiheckeoknlaaGreatDoor
open Go.Proofs.YthbiheckeoknlaaGreatDoor.Nw (ltB geB eT cB)
open Go.Proofs.YthbiheckeoknlaaGreatDoor.Sk
open Go.Proofs.YthbiheckeoknlaaGreatDoor.Sc hiding aW
abbrev cmR(l:List D.Command):Row:=⟨71,23,l.map aS⟩
theorem KP(ps:List ByteArray)(hps:ps≠[])(hno:∀p∈ps,(10:UInt8)∉p.data.toList)(hs:(aG nlB ps).size≤65536):UC prog 6 [str (aG nlB ps)] fun z=>∃sc:D.Script,z=.tup [.agg (bR sc),int (vS ps).2.1,int (vS ps).2.2]:=by
 rw[←Sa ps hps];generalize hj:aG nlB ps=s at hs ⊢;generalize htgt:rF ps [] false=tg;refine UC.body (c:=f6.body.getD .skip) (fun t=>t == 5) mixed func6 rfl (by kernel_rfl) ?_;unfold f6;simp only[Xai];simp only[go_sem];refine aL fun r Gr hr (R:Gr r=some ⟨40,7,[bR nN]⟩) N=>?_
 clear N hr;simp only[go_sem,R];refine aA (fun hb=>absurd (of_decide_eq_true hb) (by omega)) (fun _=>?_);simp only[go_sem,R];refine aL fun k0 G0 _ _ N=>?_
 replace R:=(N R).2;clear N;refine aL fun k1 G1 _ _ N=>?_
 replace R:=(N R).2;clear N;refine aL fun k2 G2 _ _ N=>?_
 replace R:=(N R).2;clear N;refine aL fun k3 G3 _ _ N=>?_
 replace R:=(N R).2;clear N;refine aL fun k4 G4 _ _ N=>?_
 replace R:=(N R).2;clear N;refine aL fun k5 G5 _ _ N=>?_
 replace R:=(N R).2;clear N;refine aL fun m0 G6 _ (C:G6 m0=some (cmR [])) N=>?_
 obtain⟨hrm,R⟩:=N R;clear N;refine aL fun u Gu _ (U:Gu u=some ⟨40,7,[[.os k0,.os k1,.os k2,.os k3,.os k4,.os k5,.os m0]]⟩) N=>?_
 obtain⟨hru,R⟩:=N R;obtain⟨hmu,C⟩:=N C;clear N;simp only[go_sem,R,U];obtain⟨t0,q0,rfl⟩:∃t q,ps=t::q:=by cases ps with|nil=>exact absurd rfl hps|cons t q=>exact⟨t,q,rfl⟩
 have zero:∀{G:aC} {n:Nat} {e:Int},tg=(n,e)→∃z,(∃sc:D.Script,z=.tup [.agg (bR sc),int tg.1,int tg.2])∧Conv G (.tup [.agg (bR nN),int n,int e]) z:=fun h=>⟨_,⟨nN,rfl⟩,by rw[h];exact .refl _⟩
 refine⟨fun ρ H=>∃(a:List ByteArray) (t:ByteArray) (q:List ByteArray) (o:Bool) (j m:Nat) (cs:List D.Command) (c0 c1 c2 c3 c4 c5:AV),ρ 0=str s∧ρ 2=.op r 0 0∧ρ 5=.op u 0 0∧ρ 6=int a.length∧ρ 7=int (nlS a).size∧ρ 8=boo o∧ρ 9=int ((nlS a).size+j:Nat)∧s=nlS a++aG nlB (t::q)∧j≤t.size∧rF (t::q) a o=tg∧(∀p∈a++t::q,(10:UInt8)∉p.data.toList)∧H r=some ⟨40,7,[bR nN]⟩∧H u=some ⟨40,7,[[c0,c1,c2,c3,c4,c5,.os m]]⟩∧H m=some (cmR cs)∧u≠m∧r≠m∧cs.length≤a.length∧(o=true→∃y,[c0,c1,c2,c3,c4,c5]=aO y),fun ρ _=>s.size-bO (ρ 9),⟨[],t0,q0,false,0,m0,[],_,_,_,_,_,_,by simp only[go_sem],by simp only[go_sem],by simp only[go_sem],by simp only[go_sem];rfl,by simp only[go_sem];rfl,by simp only[go_sem],by simp only[go_sem];rfl,by rw[←hj];exact(xD _).symm,Xad _,htgt,by simpa using hno,R,U,C,hmu.symm,hrm,Xae _,fun h=>by cases h⟩,?_⟩;clear R U C hno hj htgt hps;rintro ρ H ⟨a,t,q,o,j,m,cs,c0,c1,c2,c3,c4,c5,e0,e2,e5,e6,e7,e8,e9,hl,hjt,hf,hno,R,U,C,hum,hrm,hcs,ho⟩;have hsz:=MM hl;have hal:a.length≤(nlS a).size:=by have:=fX 10 (a++[⟨#[]⟩]);rw[show aG ⟨#[10]⟩ (a++[⟨#[]⟩])=nlS a from(Bu a).symm,Xac,List.length_singleton]at this;omega
 have hwi:=fM (show(nlS a).size+j≤4611686018427387904 by omega);have hwn:=fM (show a.length≤4611686018427387904 by omega);simp only[go_sem,e0,e2,e5,e6,e7,e8,e9];refine aA (fun hlt=>?_) (fun hge=>?_)
 ·have hlt : (nlS a).size + j < s.size := by have:=of_decide_eq_true hlt;omega
  have b1:=inB hlt;simp only[go_sem,e0,e2,e5,e6,e7,e8,e9,b1];refine aA (fun hb=>?_) (fun hb=>?_)
  ·have hjl : j < t.size := by
    refine Nat.lt_of_not_le fun h=>?_
    have hjeq:j=t.size:=by omega
    have hq:q≠[]:=fun e=>by rw[e,cY]at hsz;have:(⟨#[]⟩:ByteArray).size=0:=rfl;omega
    rw[hjeq,Qx hl hq]at hb;exact absurd hb (by decide)
   simp only[go_sem,e0,e2,e5,e6,e7,e8,e9,hwi];exact⟨⟨a,t,q,o,j+1,m,cs,c0,c1,c2,c3,c4,c5,by and_intros <;> first|assumption|rfl|omega⟩,by simp only[aE];omega⟩
  ·have h10:s.data.getD ((nlS a).size+j) 0=10:=(BD (k:=10) (by decide)).1 (by simpa using hb);have hjeq:j=t.size:=by
    rcases Xbc j t.size with h|h
    ·have:=Nn hl h;rw[h10]at this;exact absurd this (hno t (by simp))
    ·omega
   subst hjeq;have hq:q≠[]:=fun e=>by rw[e,cY]at hsz;have:(⟨#[]⟩:ByteArray).size=0:=rfl;omega
   obtain⟨t2,q2,rfl⟩:∃t q',q=t::q':=by cases q with|nil=>exact absurd rfl hq|cons t q=>exact⟨t,q,rfl⟩
   obtain⟨hn1,hn2⟩:=Mg hl hq;have hext:=OB hl;have hpre:=N0 hl;have hno2:∀p∈(a++[t])++t2::q2,(10:UInt8)∉p.data.toList:=by simpa using hno
   rw[rF,if_neg hq]at hf;have hal2:(a++[t]).length=a.length+1:=by simp
   simp only[go_sem,e0,e2,e5,e6,e7,e8,e9,hwi,hwn];rw[hext];refine⟨⟨by omega,by omega,by omega⟩,aA (fun hb=>?_) (fun hb=>?_)⟩
   ·rw[Xag,Xay]at hb;have ho0:o=false:=hb.1;have htb:t=kB:=fP hb.2;rw[ho0,if_neg (by decide),if_pos htb]at hf;have hpc:=KI (a++[⟨#[]⟩]) (by simp) (fun p hp=>by
     rcases Xap.1 hp with h|h
     ·exact hno p (by simp[h])
     ·rw[Xbb.1 h];decide) (by rw[←Bu];omega)
    rw[←Bu,Ot]at hpc;generalize rU (kS (a++[⟨#[]⟩]) 0 1 x0)=s3 at hpc hf;obtain⟨sx,sn,se⟩:=s3;simp only at hpc hf;simp only[go_sem,e0,e2,e5,e6,e7,e8,e9];rw[hpre];refine⟨⟨by omega,by omega⟩,PC.use hpc ?_⟩;simp only[go_sem,e0,e2,e5,e6,e7,e8,e9];refine aL fun v G hv0 (V:G v=some ⟨31,6,[aO x0]⟩) N=>?_
    obtain⟨nrv,R⟩:=N R;obtain⟨nuv,U⟩:=N U;obtain⟨nmv,C⟩:=N C;clear N hv0;simp only[go_sem,e0,e2,e5,e6,e7,e8,e9,R,U,V];refine bF V ⟨Nat.zero_lt_one,rfl,Nat.le_of_ble_eq_true rfl⟩ fun G V1 F=>?_
    replace R:=F _ _ nrv R;replace U:=F _ _ nuv U;replace C:=F _ _ nmv C;replace V:G v=some ⟨31,6,[aO sx]⟩:=V1;clear F V1;simp only[go_sem,e0,e2,e5,e6,e7,e8,e9,R,U,V];refine aA (fun he=>?_) (fun he=>?_)
    ·have he:se≠0:=by simpa using he
     rw[if_pos he]at hf;simp only[go_sem,e0,e2,e5,e6,e7,e8,e9,R];refine bF R ⟨Nat.zero_lt_one,rfl,Nat.le_of_ble_eq_true rfl⟩ fun G R1 F=>?_
     simp only[go_sem,e2,R1];exact zero hf.symm
    ·have he:¬se≠0:=by simpa using he
     rw[if_neg he]at hf;simp only[go_sem,e0,e2,e5,e6,e7,e8,e9,R,U,V];refine bF U ⟨Nat.zero_lt_one,rfl,Nat.le_of_ble_eq_true rfl⟩ fun G U1 F=>?_
     replace R:=F _ _ hru R;replace C:=F _ _ (Ne.symm hum) C;simp only[go_sem,e0,e2,e5,e6,e7,e8,e9,hwi,hwn];exact⟨⟨a++[t],t2,q2,true,0,m,cs,.sl (sx.net.places.map D.bE),.sl (sx.net.arcs.map eF),.sl (sx.types.map aX),.sl (sx.orders.map aB),.sl (sx.apart.map bP),.sl (sx.before.map bP),congrArg int (by rw[hal2]),congrArg int (by rw[hn2]),rfl,congrArg int (by rw[Nat.add_zero,hn2]),hn1,Xad _,hf,hno2,R,U1,C,hum,hrm,by rw[hal2];omega,fun _=>⟨sx,rfl⟩⟩,by simp only[aE];omega⟩
   ·simp only[go_sem,e0,e2,e5,e6,e7,e8,e9];refine aA (fun ho1=>?_) (fun ho0=>?_)
    ·subst ho1;rw[if_pos rfl]at hf;simp only[go_sem,e0,e2,e5,e6,e7,e8,e9];refine(PH t (by omega)).use ?_;rintro _ ⟨c,er,hq,rfl⟩;simp only[go_sem,e0,e2,e5,e6,e7,e8,e9];refine aL fun v G hv0 (V:G v=some ⟨71,23,[aS ⟨0,0,e00⟩]⟩) N=>?_
     obtain⟨nrv,R⟩:=N R;obtain⟨nuv,U⟩:=N U;obtain⟨nmv,C⟩:=N C;clear N hv0;simp only[go_sem,e0,e2,e5,e6,e7,e8,e9,R,U,V];refine bF V ⟨Nat.zero_lt_one,rfl,Nat.le_of_ble_eq_true rfl⟩ fun G V1 F=>?_
     replace R:=F _ _ nrv R;replace U:=F _ _ nuv U;replace C:=F _ _ nmv C;replace V:G v=some ⟨71,23,[aS c]⟩:=V1;clear F V1;simp only[go_sem,e0,e2,e5,e6,e7,e8,e9,R,U,V];refine aA (fun he=>?_) (fun he=>?_)
     ·obtain ⟨her, hnc⟩ : er = 3 ∧ ∀ c, ¬ CE c t := by
       rcases hq with⟨h,_⟩|h
       ·rw[h]at he;exact absurd he (by decide)
       ·exact h
      have hcn:cmF t=none:=by unfold cmF;rw[dif_neg];rintro⟨c,hc⟩;exact hnc c hc
      rw[hcn]at hf;simp only[go_sem,e0,e2,e5,e6,e7,e8,e9,R];refine bF R ⟨Nat.zero_lt_one,rfl,Nat.le_of_ble_eq_true rfl⟩ fun G R1 F=>?_
      simp only[go_sem,e2,R1];rw[her];exact zero hf.symm
     ·have hce : CE c t := by
       rcases hq with⟨_,h⟩|⟨h,_⟩
       ·exact h
       ·rw[h]at he;exact absurd he (by decide)
      obtain⟨c',hcs'⟩:∃c',cmF t=some c':=by unfold cmF;rw[dif_pos ⟨c,hce⟩];exact⟨_,rfl⟩
      rw[hcs']at hf;simp only at hf;simp only[go_sem,e0,e2,e5,e6,e7,e8,e9,R,U,V];refine mH C ⟨rfl,rfl⟩ (by simp only[go_sem,aS]) (by simp only[Xab,Xaa,List.length_nil];omega) fun j' G2 A N2=>?_
      obtain⟨nuj,U⟩:=N2 _ _ hum U;obtain⟨nrj,R⟩:=N2 _ _ hrm R;replace C:G2 j'=some (cmR (cs++[c])):=A.trans (by simp only[cmR,Xal];rfl);replace hum:=nuj;replace hrm:=nrj;clear N2 A nuj nrj;simp only[go_sem,e0,e2,e5,e6,e7,e8,e9,R,U];refine bU RS U ⟨Nat.zero_lt_one,rfl,Nat.le_of_ble_eq_true rfl⟩ fun G U1 F=>?_
      replace R:=F _ _ hru R;replace C:=F _ _ (Ne.symm hum) C;simp only[go_sem,e0,e2,e5,e6,e7,e8,e9,hwi,hwn];exact⟨⟨a++[t],t2,q2,true,0,j',cs++[c],c0,c1,c2,c3,c4,c5,congrArg int (by rw[hal2]),congrArg int (by rw[hn2]),rfl,congrArg int (by rw[Nat.add_zero,hn2]),hn1,Xad _,hf,hno2,R,U1,C,hum,hrm,by rw[hal2,Xac,List.length_singleton];omega,ho⟩,by simp only[aE];omega⟩
    ·subst ho0;have htb:t≠kB:=fun e=>by rw[e]at hb;exact absurd hb (by decide +kernel)
     rw[if_neg (by decide),if_neg htb]at hf;simp only[go_sem,e0,e2,e5,e6,e7,e8,e9,hwi,hwn];exact⟨⟨a++[t],t2,q2,false,0,m,cs,c0,c1,c2,c3,c4,c5,congrArg int (by rw[hal2]),congrArg int (by rw[hn2]),rfl,congrArg int (by rw[Nat.add_zero,hn2]),hn1,Xad _,hf,hno2,R,U,C,hum,hrm,by rw[hal2];omega,fun h=>by cases h⟩,by simp only[aE];omega⟩
 ·have hge : s.size ≤ (nlS a).size + j := by have:=of_decide_eq_false hge;omega
  have hq:q=[]:=by
   refine Decidable.byContradiction fun h=>?_
   have:=Oc h;omega
  subst hq;rw[cY]at hsz;have h00:(⟨#[]⟩:ByteArray).size=0:=rfl;rw[rF,if_pos rfl]at hf;simp only[go_sem,e0,e2,e5,e6,e7,e8,e9];refine aA (fun hb=>?_) (fun hb=>?_)
  ·have hbad : ¬ (o = true ∧ t.size = 0) := fun ⟨h1, h2⟩ => by rw[h1]at hb;have:=of_decide_eq_true (by simpa using hb:decide (((nlS a).size:Int)<(s.size:Int))=true);omega
   rw[if_neg hbad]at hf;simp only[go_sem,e2,e6,hwn,R];refine bF R ⟨Nat.zero_lt_one,rfl,Nat.le_of_ble_eq_true rfl⟩ fun G R1 F=>?_
   simp only[go_sem,e2,R1];exact zero hf.symm
  ·rw[Xaq]at hb;have ho1:o=true:=by simpa using hb.1
   have ht0:t.size=0:=by have:=of_decide_eq_false hb.2;omega
   rw[if_pos ⟨ho1,ht0⟩]at hf;obtain⟨y,hy⟩:=ho ho1;simp only[aO,List.cons.injEq,and_true]at hy;obtain⟨rfl,rfl,rfl,rfl,rfl,rfl⟩:=hy;simp only[go_sem,e2,e5,R,U];refine bF R ⟨Nat.zero_lt_one,rfl,Nat.le_of_ble_eq_true rfl⟩ fun G R1 F=>?_
   replace C:=F _ _ (Ne.symm hrm) C;simp only[go_sem,e2,R1];rw[←hf];refine⟨_,⟨⟨y,cs⟩,rfl⟩,.tup _ _ (.cons _ _ _ _ ?_ (.cons _ _ _ _ (.refl _) (.cons _ _ _ _ (.refl _) .nil)))⟩;exact .agg _ _ (.cons _ _ _ _ (.refl _) (.cons _ _ _ _ (.refl _) (.cons _ _ _ _ (.refl _) (.cons _ _ _ _ (.refl _) (.cons _ _ _ _ (.refl _) (.cons _ _ _ _ (.refl _) (.cons _ _ _ _ (.row _ _ _ C (ConvE.refl _)) .nil)))))))
theorem SW(s:D.Script)(hl:s.commands.length≤9000):PC prog 8 [.agg (bR s)] (.agg (bR s)):=by
 refine pcb (fun t=>t == 7) func8 rfl rfl ?_;simp only[go_sem];refine aL fun r2 HGr2 hr20 (R2:HGr2 r2=some (⟨40,7,[bR nN]⟩)) N=>?_
 clear N hr20;simp only[go_sem,R2];refine aL fun n1 G1 _ _ N=>?_
 replace R2:=N R2;obtain⟨q1,R2⟩:=R2;clear N;refine aL fun n2 G2 _ _ N=>?_
 replace R2:=N R2;obtain⟨q2,R2⟩:=R2;clear N;refine aL fun n3 G3 _ _ N=>?_
 replace R2:=N R2;obtain⟨q3,R2⟩:=R2;clear N;refine aL fun n4 G4 _ _ N=>?_
 replace R2:=N R2;obtain⟨q4,R2⟩:=R2;clear N;refine aL fun n5 G5 _ _ N=>?_
 replace R2:=N R2;obtain⟨q5,R2⟩:=R2;clear N;refine aL fun n6 G6 _ _ N=>?_
 replace R2:=N R2;obtain⟨q6,R2⟩:=R2;clear N;refine aL fun n7 G7 _ (C:G7 n7=some ⟨71,23,[]⟩) N=>?_
 replace R2:=N R2;obtain⟨q7,R2⟩:=R2;clear N;refine cN fun r3 hr30=>?_
 simp only[go_sem,R2,C];refine oL hr30 (by simp[aO]) fun HGr3 (R3:HGr3 r3=some (⟨40,7,[yC s.inst n7]⟩)) N=>?_
 replace R2:=N R2;obtain⟨ne_r2_r3,R2⟩:=R2;replace C:=N C;obtain⟨ne_n7_r3,C⟩:=C;clear N hr30;simp only[go_sem,R3,R2,C];have h23:r2≠r3:=ne_r2_r3;refine⟨fun ρ H=>∃(k:Nat) (n:Nat),k≤s.commands.length∧ρ 1=.rp (bR s) 0∧ρ 2=.op r2 0 0∧ρ 3=.op r3 0 0∧ρ 4=int k∧H r3=some ⟨40,7,[yC s.inst n]⟩∧H n=some (cmR (s.commands.take k))∧H r2=some ⟨40,7,[bR nN]⟩∧r3≠n∧r2≠n,fun ρ _=>s.commands.length-bO (ρ 4),⟨0,n7,Xad _,by simp only[go_sem],by simp only[go_sem],by simp only[go_sem],(by simp only[go_sem];rfl),R3,C,R2,ne_n7_r3.symm,q7⟩,?_⟩;rintro ρ H ⟨k,n,hk,e1,e2,e3,e4,R3,C,R2,h3n,h2n⟩;simp only[go_sem,e1,e2,e3,e4];refine aA (fun hlt=>?_) (fun hge=>?_)
 ·have hlt:=ltB hlt;obtain⟨y,hy⟩:=cG hlt;have b1:=inB hlt;have hwr:=cH k;simp only[go_sem,e1,e2,e3,e4,R3];refine If [] (.q 0 (.q 2 (.q 3 (.q 4 (.q 5 (.q 6 (.a2 1 (.a1 7 (.a1 8 (.q 9 (.a1 10 .nil)))) 7 (.a1 1 (.a1 8 (.q 9 (.a1 10 .nil))))))))))) (fun ρ' H'=>ρ' 1=.rp (bR s) 0∧ρ' 2=.op r2 0 0∧ρ' 3=.op r3 0 0∧ρ' 4=int (k:Nat)∧∃n',H' r3=some ⟨40,7,[yC s.inst n']⟩∧H' n'=some (cmR (s.commands.take (k+1)))∧H' r2=some ⟨40,7,[bR nN]⟩∧r3≠n'∧r2≠n') (by simp) (by kernel_rfl) (fun K' hK' Hp Hr hp hr _ hr0=>?_) ?_
  ·have Q3:=(hr r3 (by simp)).trans R3;have QC:=(hr n (by simp)).trans C;have Q2:=(hr r2 (by simp)).trans R2;have hst:(s.commands.take (k+1)).map aS=(s.commands.take k).map aS++[aS y]:=by rw[fL hy];simp
   simp only[go_sem,e1,e2,e3,e4,Q3,aM hy,b1];refine⟨?_,?_⟩
   all_goals
    simp only[go_sem,e1,e2,e3,e4,Q3,aM hy,b1];refine aP QC ⟨rfl,rfl⟩ (by simp only[go_sem,aS]) (by simp only[Xab,Xaa,List.length_nil,Xas];omega) fun j' hj'=>?_
    have P3:=cF (r':=⟨71,23,(s.commands.take k).map aS++[aS y]⟩) Q3 h3n.symm hj';have P2:=cF (r':=⟨71,23,(s.commands.take k).map aS++[aS y]⟩) Q2 h2n.symm hj';have PC2:bG (bG Hr n none) j' (some ⟨71,23,(s.commands.take k).map aS++[aS y]⟩) j'=some (cmR (s.commands.take (k+1))):=by rw[aD];simp only[cmR,hst]
    have w3:=bM Q3 hj';have w2:=bM Q2 hj';generalize bG (bG Hr n none) j' _=HQ at *;simp only[go_sem,e1,e2,e3,e4,P3];refine Ao RS P3 ⟨by simp,rfl,by simp⟩ ?_;simp only[go_sem,e1,e2,e3,e4];refine cV fun _ Hm _ hm2=>hK' _ _ ⟨?_,?_,?_,?_,j',?_,?_,?_,w3,w2⟩
    ·simp only[go_sem,e1,e2,e3,e4]
    ·simp only[go_sem,e1,e2,e3,e4]
    ·simp only[go_sem,e1,e2,e3,e4]
    ·simp only[go_sem,e1,e2,e3,e4]
    ·exact(hm2 r3 (by simp)).trans (aD _ _ _)
    ·exact(hm2 j' (by simp)).trans ((aK _ _ _ _ w3.symm).trans PC2)
    ·exact(hm2 r2 (by simp)).trans ((aK _ _ _ _ h23).trans P2)
  ·rintro ρ' H' ⟨e1,e2,e3,e4,n',R3,C,R2,h3n,h2n⟩;simp only[go_sem,e1,e2,e3,e4,hwr];exact⟨⟨k+1,n',hlt,rfl,R3,C,R2,h3n,h2n⟩,by simp only[aE];omega⟩
 have hge:=geB hk hge;subst hge;rw[Xaj (Xae _)]at C;simp only[go_sem,e1,e2,e3,e4,R3];refine fD R2 ⟨by simp,rfl,by simp⟩ ?_;simp only[go_sem,e1,e2,e3,e4];have C2:bG H r2 (some ⟨40,7,[yC s.inst n]⟩) n=some (cmR s.commands):=by rw[aK _ _ _ _ h2n.symm];exact C
 exact .agg _ _ (.cons _ _ _ _ (.refl _) (.cons _ _ _ _ (.refl _) (.cons _ _ _ _ (.refl _) (.cons _ _ _ _ (.refl _) (.cons _ _ _ _ (.refl _) (.cons _ _ _ _ (.refl _) (.cons _ _ _ _ (.row _ _ _ C2 (ConvE.refl _)) .nil)))))))
theorem Ls{c:Nat}:∀l:List ByteArray,(∀p∈l,c≤p.size)→l.length*c≤(gL l).size
 | [],_=>by simp
 | a::r,h=>by
  have:=Ls r fun p hp=>h p (by simp[hp])
  have h2:=h a (by simp);rw[gL,ByteArray.size_append,Xaa,Nat.add_mul];omega
theorem Ti(it:Sk.Item):4≤it.ln.size:=by
 have h0:∀i<7,3≤(eJ.getD i ⟨#[]⟩).size:=by decide +kernel
 have h1:3≤it.word.size:=h0 _ it.rank_lt;unfold Sk.Item.ln Sk.Item.line;rw[ByteArray.size_append,aZ,ByteArray.size_append];show 4≤_+1;omega
theorem M5(x:Instance):((items x).length+1)*4≤(mC x).size:=by
 rw[vY];have:=Ls (c:=4) ((items x++[Sk.Item.fin]).map Sk.Item.ln) fun p hp=>by obtain⟨it,_,rfl⟩:=Xat.1 hp;exact Ti it
 rw[Xab,Xac,List.length_singleton]at this;exact this
theorem Og{ps:List ByteArray}{sc:D.Script}{n:Nat}(hs:(aG nlB ps).size≤8000)(h:vS ps=(sc,n,0)):n=0∧B5 sc=(aG nlB ps,0)∧OkS sc:=by
 obtain⟨h1,h2,g,hc,hcl⟩:=OU (by omega) h;have hpl:ps.length≤8001:=Xam (fX 10 ps) (show(aG nlB ps).size+1≤8001 by omega);obtain⟨_,_,_,e4,_⟩:=Sh (s:=sc) (by rw[h2]);rw[h2]at e4;have hz:=congrArg ByteArray.size e4;rw[ByteArray.size_append,←vY]at hz;have hf:=M5 sc.inst;have hlen:(items sc.inst).length=sc.inst.net.places.length+(sc.inst.net.arcs.length+(sc.inst.types.length+(sc.inst.orders.length+(sc.inst.apart.length+sc.inst.before.length)))):=by simp[items]
 simp only at hz;refine⟨h1,h2,⟨g.inB (by omega),by omega,by omega,by omega,by omega,by omega,by omega,g.arc,fun a ha=>(g.type a ha).1,fun a ha=>(g.order a ha).1,g.apart,g.before⟩,by omega,hc⟩
theorem Bd(s:ByteArray):PC prog 3 [str s] (boo true):=by
 refine pcd func3 rfl rfl ?_;simp only[go_sem];refine aA (fun _=>?_) (fun hb=>?_)
 ·simp only[go_sem];refine bB sW ?_;simp only[go_sem];exact .refl _
 have hs:s.size≤8000:=by have:=of_decide_eq_false hb;omega
 obtain⟨ps,hne,hno,hj⟩:=rC 10 s
 change s=aG nlB ps at hj
 have hown:=MX ps hne hno (by rw[←hj];omega);have href:=KP ps hne hno (by rw[←hj];omega);obtain⟨⟨sc,n,e⟩,hF⟩:∃x,vS ps=x:=⟨_,rfl⟩;rw[hF]at hown href;rw[←hj]at hown href;simp only[go_sem];refine bB hown ?_;simp only[go_sem,Tm];refine aL fun p G hp0 (P:G p=some ⟨34,7,[bR nN]⟩) N=>?_
 clear N hp0;simp only[go_sem,P];refine bF P ⟨Nat.zero_lt_one,rfl,Nat.le_of_ble_eq_true rfl⟩ fun G P1 F=>?_
 replace P:G p=some ⟨34,7,[bR sc]⟩:=P1;clear F P1;simp only[go_sem,P];refine href.use ?_;rintro _ ⟨sc2,rfl⟩;simp only[go_sem,P];refine aL fun q G hq0 (Q:G q=some ⟨40,7,[bR nN]⟩) N=>?_
 obtain⟨npq,P⟩:=N P;clear N hq0;simp only[go_sem,P,Q];refine bF Q ⟨Nat.zero_lt_one,rfl,Nat.le_of_ble_eq_true rfl⟩ fun G Q1 F=>?_
 replace P:=F _ _ npq P;clear F Q1 Q;simp only[go_sem,P];refine aA (fun hb=>absurd hb (by simp)) (fun _=>?_);simp only[go_sem,P];refine aA (fun _=>?_) (fun he=>?_)
 ·simp only[go_sem];refine bB sW ?_;simp only[go_sem];exact .refl _
 have he:e=0:=by simpa using he
 subst he;obtain⟨_,h2,hok⟩:=Og (by rw[←hj];exact hs) hF;have hpr:=Fh sc hok;rw[h2,←hj]at hpr;simp only at hpr;simp only[go_sem,P];refine bB (SW sc hok.cl) ?_;simp only[go_sem,P];refine bB hpr ?_;simp only[go_sem,P];refine⟨_,fun _=>sW.q rfl,?_⟩;simp only[go_sem,P];refine cB ?_;simp
end Sp
end Go.Proofs.YthbiheckeoknlaaGreatDoor
