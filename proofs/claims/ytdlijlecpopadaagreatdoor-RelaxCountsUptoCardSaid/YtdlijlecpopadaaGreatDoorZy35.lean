/- Texts joined by a program: RxU, RxV, RxO, RxW, RxX. -/
import Derived.Test.YtdlijlecpopadaaGreatDoorZy34

section
set_option linter.unusedSimpArgs false
set_option linter.unusedVariables false
namespace Go.Proofs.YtdlijlecpopadaaGreatDoor.Rx
open Go.Aw Go.Aw.D Go.Proofs Ty Go.Nu Go.So
open Sq (W jW eM kE NetOk dP jM)
open Nu (ltB geB Bt vI lC vM)
open Mv (fZ fA kI NC.pc bR)
set_option maxRecDepth 100000
theorem Same.st{w a:Rs}(h:Same w a):a.x=w.x∧a.t=w.t∧a.most=w.most∧a.limited=w.limited∧a.kind=w.kind:=by
 obtain⟨c,f,l,rfl⟩:=h.ex;exact⟨rfl,rfl,rfl,rfl,rfl⟩
def uI:Nat→Rs→RP→Rs
 | 0=>fun a _=>a
 | f+1=>EA f
theorem NN(f:Nat)(w:Rs)(p:RP):EA f w p=Jg (uI f) w p:=by cases f <;> rfl
theorem PT:∀(f:Nat) (w:Rs) (p:RP),w.least.size≤1048576→Same w (uI f w p)
 | 0,w,p,h=>.refl h
 | f+1,w,p,h=>FE f w p h
theorem Ba(f:Nat)(p:RP)(a:Rs)(v:Visit)(h:a.least.size≤1048576):Same a (Cf (uI f) p a v):=by
 unfold Cf;split
 · exact PT f _ _ h
 · exact .refl h
theorem QQ(f:Nat)(p:RP)(a:Rs)(i:Nat)(h:a.least.size≤1048576):Same a (DG (uI f) p a i):=by
 unfold DG;split
 · exact .refl h
 · exact wR (fun b v hb=>Ba f p b v hb) _ _ h
abbrev YG(D js f:Nat):Prop:=∀(w:Rs) (_:RsB D w) (_:w.least.size≤1048576) (H0:aE) (_:H0 js=some (gL w)) (p:RP) (_:RInv w.x.orders.length D p) (_:w.most≤p.visits+f) (_:p.visits≤w.most),
 MC Tryz.prog 109 [.op js 0 0,.agg (jG p)] H0 (aG H0 js (some (gL (EA f w p)))) (.tup [])
theorem BS(D js f:Nat)(hrec:∀f',f=f'+1→YG D js f'):YG D js f:=by
 intro w hw hle H0 hj p h hf hpv;have hm16:=hw.most;have hn60:=hw.n;have hmo:p.moms.length≤131072:=Nat.le_trans h.moms (Nat.le_trans (Nat.pow_le_pow_right (by decide) (show p.visits+1≤17 by omega)) (by decide));have hdl:=h.dual;rw[NN];refine MC.body (c:=Tryz.f109.body.getD .skip) (fun _=>false) (Cz hj) mixed Tryz.func109 rfl (by kernel_rfl) ?_;unfold Tryz.f109;simp only[Option.getD_some];simp only[go_sem];refine MC.use (Uo H0 js w hj p hw.ok.net (by omega) (by omega) hle) ?_;have hs1:=CE w p hle;have eB:Jg (uI f) w p=if(((p.visits:Int) == (w.most:Int))||(w.limited&&decide ((vY w p).count>8192)))=true then vY w p
   else(List.range w.x.orders.length).foldl (DG (uI f) p) (vY w p):=rfl
 generalize Jg (uI f) w p=EB at eB ⊢;generalize vY w p=w1 at *;generalize hHA:aG H0 js (some (gL w1))=HA;have R:HA js=some (gL w1):=by rw[←hHA,aA]
 have U:Sup (aG H0 js (some (gL w1))) HA:=Sup.eq (Sup.refl _) hHA;clear hHA;obtain⟨s1,s2,s3,s4,_⟩:=hs1.st;simp only[go_sem];refine dJ [js] [(0,true),(1,true),(2,true),(3,true),(4,true),(5,true),(6,true),(7,true),(8,true),(9,true),(10,true),(11,true),(12,true),(13,true),(14,true),(15,true),(16,true),(17,true),(18,true),(19,true)] (by simp[R]) (by kernel_rfl) fun Hp Hr hp hr _ hr0=>?_
 have P_R:=(hp js (by simp)).trans R;simp only[go_sem,P_R];refine eA hr ?_;simp only[go_sem];refine aB (fun hb=>?_) (fun hb=>?_)
 · rw[s3,s4]at hb
   rw[if_pos hb]at eB;subst eB;simp only[go_sem];exact lU.flat U _
 rw[s3,s4]at hb;rw[if_neg (fun h=>Bool.noConfusion (hb.symm.trans h))]at eB;have hvm:¬p.visits=w.most:=by simp at hb;omega
 obtain⟨f',rfl⟩:∃f',f=f'+1:=⟨f-1,by omega⟩;have hrec:=hrec f' rfl;simp only[go_sem];refine⟨fun ρ H=>∃(k:Nat) (a:Rs),k≤w.x.orders.length∧ρ 0=.op js 0 0∧ρ 3=.rp (jG p) 0∧ρ 4=int k∧a=(List.range k).foldl (DG (uI (f'+1)) p) w1∧Same w a∧H js=some (gL a)∧Sup (aG H0 js (some (gL a))) H,fun ρ _=>w.x.orders.length-bE (ρ 4),⟨0,w1,Nat.zero_le _,by simp only[go_sem],by simp only[go_sem],(by simp only[go_sem];rfl),rfl,hs1,R,U⟩,?_⟩;rintro ρ H ⟨k,a,hk,e0,e3,e4,ha,hS,R,U⟩;simp only[go_sem,e0,e3,e4,R];refine aB (fun hlt=>?_) (fun hge=>?_)
 · obtain⟨x1,x2,x3,x4,_⟩:=hS.st
   have hlt:=ltB (by simpa[x1]using hlt);have hab:=hS.b hw;have hsz:=hS.sz;have hlta:k<a.x.orders.length:=by rw[x1];exact hlt
   have b1:=inB hlta;have g1:=aF (f:=aV) (iV hlta);have hstep:(List.range (k+1)).foldl (DG (uI (f'+1)) p) w1=DG (uI (f'+1)) p a k:=by rw[List.range_succ,List.foldl_append,←ha];rfl
   have eX:DG (uI (f'+1)) p a k=if((aJ a.x k).off|| !jM a.t.skills (aJ a.x k).skills)=true then a else(Sq.dX (aJ a.x k) (k:Nat)).foldl (Cf (uI (f'+1)) p) a:=rfl
   simp only[go_sem,e0,e3,e4,R,g1,b1];refine aL fun i5 hi50=>?_
   have ne_js_i5:js≠i5:=aN R hi50;simp only[go_sem,e0,e3,e4,R];refine aP (aA _ _ _) (by simp[iY]) ?_;have n_i5:=U.none hi50;generalize hGi5:aG (aG _ i5 _) i5 _=HGi5;replace U:=Sup.eq ((U.upd n_i5 _).upd n_i5 _) hGi5;replace R:=(congrFun hGi5.symm js).trans ((aC _ _ _ _ ne_js_i5).trans ((aC _ _ _ _ ne_js_i5).trans R));have R5:HGi5 i5=some (uQ (aJ a.x k)):=by rw[←hGi5,aA];try rfl
   clear hGi5 hi50;simp only[go_sem,e0,e3,e4,R5,R];refine dJ [js,i5] [(0,true),(1,true),(2,true),(3,true),(4,true),(5,true),(6,true),(7,true),(8,true),(9,true),(10,true),(11,true)] (by simp[R,R5]) (by kernel_rfl) fun Hp Hr hp hr _ hr0=>?_
   have P_R:=(hp js (by simp)).trans R;have P_R5:=(hp i5 (by simp)).trans R5;simp only[go_sem,e0,e3,e4,P_R,P_R5];refine⟨_,fun _=>PC.q (Sq.TP a.t _) rfl,?_⟩;simp only[go_sem,e0,e3,e4,P_R,P_R5];refine eA hr ?_;simp only[go_sem,e0,e3,e4];refine aB (fun hb=>?_) (fun hb=>?_)
   · rw[if_pos hb]at eX
     simp only[go_sem,e0,e3,e4,bA (show k≤4611686018427387904 by omega)];exact⟨⟨k+1,a,hlt,rfl,by rw[hstep,eX],hS,R,U⟩,by simp only[aH];omega⟩
   rw[if_neg (fun h=>Bool.noConfusion (hb.symm.trans h))]at eX;simp only[go_sem,e0,e3,e4,R];refine PC.use (DF a.x k hlta (by have:=hab.n;omega)) ?_;have hvo:∀v∈Sq.dX (aJ a.x k) (k:Nat),v=⟨(k:Nat),v.drop⟩:=by
     intro v hv;unfold Sq.dX at hv;rw[List.mem_append]at hv;rcases hv with hv|hv
     · split at hv
       · simp at hv;rw[hv]
       · simp at hv
     · split at hv
       · simp at hv;rw[hv]
       · simp at hv
   have hvl:=Sq.rF (aJ a.x k) (k:Nat);generalize Sq.dX (aJ a.x k) (k:Nat)=vs at *;clear R5 P_R5 P_R;simp only[go_sem,e0,e3,e4];generalize hk0:k=k0 at *;refine⟨fun ρ H=>∃(k:Nat) (b:Rs),k≤vs.length∧ρ 0=.op js 0 0∧ρ 3=.rp (jG p) 0∧ρ 4=int (k0:Nat)∧ρ 6=.sl (vs.map bS)∧ρ 7=int k∧b=(vs.take k).foldl (Cf (uI (f'+1)) p) a∧Same w b∧H js=some (gL b)∧Sup (aG H0 js (some (gL b))) H,fun ρ _=>vs.length-bE (ρ 7),⟨0,a,Nat.zero_le _,by simp only[go_sem,e0,e3,e4],by simp only[go_sem,e0,e3,e4],by simp only[go_sem,e0,e3,e4],by simp only[go_sem,e0,e3,e4],(by simp only[go_sem,e0,e3,e4];rfl),rfl,hS,R,U⟩,?_⟩;rintro ρ H ⟨k,b,hk,e0,e3,e4,e6,e7,hb0,hSb,R,U⟩;simp only[go_sem,e0,e3,e4,e6,e7];refine aB (fun hlt=>?_) (fun hge=>?_)
   · have hlt2:=ltB (by simpa using hlt)
     obtain⟨v,hv⟩:=aW hlt2;have bv:=inB hlt2;have hve:=hvo v (List.mem_of_getElem? hv);have hs:=Sq.fR (f:=Cf (uI (f'+1)) p) (b:=a) hv;rw[←hb0]at hs;have hbb:=hSb.b hw;obtain⟨y1,y2,y3,y4,_⟩:=hSb.st;have hkb:k0<b.x.orders.length:=by rw[y1,←x1];exact hlta
     have hdim:=hbb.dim k0 hkb;have hcap:=hbb.cap;have hDD:=hbb.D;have hRi:RInv b.x.orders.length D p:=by rw[y1];exact h
     have hbd:=h.board;have hb61:p.board<2^61:=Nat.lt_of_lt_of_le hbd (Nat.pow_le_pow_right (by omega) (by omega));have hm62:p.memory<2^62:=Nat.lt_of_lt_of_le h.mem (Nat.pow_le_pow_right (by omega) (by omega));have hVl:=fun H1 hH1=>XY H1 js b hH1 p k0 v.drop hkb hbb.n hbb.ok hm62 hb61 (by omega) (by omega) (by omega) (by rw[h.load,hdim]) (by rw[h.load,hcap]) (by rw[h.load];exact hDD)
     have hVi:=PO (d:=v.drop) hbb hRi hkb;have eV:Cf (uI (f'+1)) p b v=if(fX b p k0 v.drop).2=true then EA f' b (fX b p k0 v.drop).1 else b:=by
       have e1:v.order.toNat=k0:=by rw[hve];exact Int.toNat_natCast k0
       unfold Cf;rw[e1];rfl
     generalize hEVd:Cf (uI (f'+1)) p b v=EV at *;generalize fX b p k0 v.drop=q at *;rw[←hve]at hVl;simp only[go_sem,e0,e3,e4,e6,e7];refine sI [] (.q 0 (.q 1 (.q 2 (.q 3 (.q 4 (.q 5 (.a2 6 (.q 7 (.q 8 (.q 9 (.a1 10 (.a1 11 (.q 12 .nil)))))) 10 (.a1 6 (.q 7 (.q 8 (.q 9 (.a1 11 (.q 12 .nil)))))))))))))  (fun ρ' H'=>ρ' 0=.op js 0 0∧ρ' 3=.rp (jG p) 0∧ρ' 4=int (k0:Nat)∧ρ' 6=.sl (vs.map bS)∧ρ' 7=int (k:Nat)∧ρ' 9=boo q.2∧∃j8,ρ' 8=.op j8 0 0∧H' j8=some (lO q.1)∧H' js=some (gL b)∧Sup (aG H0 js (some (gL b))) H') (by simp) (by kernel_rfl) (fun K' hK' Hp Hr hp hr _ _=>?_) ?_
     · obtain rfl:Hr=H:=funext fun k=>hr k (by simp)
       simp only[go_sem,e0,e3,e4,e6,e7,aF hv,bv];refine lA ?_ ?_
       · simp only[go_sem,e0,e3,e4,e6,e7]
         refine LC.use (hVl Hr R) ?_;simp only[go_sem,e0,e3,e4,e6,e7];refine aL fun j8 h80=>?_
         simp only[go_sem,e0,e3,e4,e6,e7];refine aP (aA _ _ _) (by simp[dE]) ?_;simp only[go_sem];refine nY (fun _ _=>rfl) h80 fun _=>hK' _ _ ⟨by simp only[go_sem,e0,e3,e4,e6,e7],by simp only[go_sem,e0,e3,e4,e6,e7],by simp only[go_sem,e0,e3,e4,e6,e7],by simp only[go_sem,e0,e3,e4,e6,e7],by simp only[go_sem,e0,e3,e4,e6,e7],by simp only[go_sem],j8,by simp only[go_sem],aA _ _ _,(aC _ _ _ _ (aN R h80)).trans ((aC _ _ _ _ (aN R h80)).trans R),(U.upd (U.none h80) _).upd (U.none h80) _⟩
       · simp only[go_sem,e0,e3,e4,e6,e7]
         refine aL fun j8 h80=>?_
         have R':∀z,aG Hr j8 z js=some (gL b):=fun z=>(aC _ _ _ _ (aN R h80)).trans R
         simp only[go_sem,e0,e3,e4,e6,e7];refine LC.use (hVl _ (R' _)) ?_;simp only[go_sem,e0,e3,e4,e6,e7];refine aP (aA _ _ _) (by simp[dE]) ?_;simp only[go_sem];refine nY (fun _ _=>rfl) h80 fun _=>hK' _ _ ⟨by simp only[go_sem,e0,e3,e4,e6,e7],by simp only[go_sem,e0,e3,e4,e6,e7],by simp only[go_sem,e0,e3,e4,e6,e7],by simp only[go_sem,e0,e3,e4,e6,e7],by simp only[go_sem,e0,e3,e4,e6,e7],by simp only[go_sem],j8,by simp only[go_sem],aA _ _ _,(aC _ _ _ _ (aN R h80)).trans ((aC _ _ _ _ (aN R h80)).trans R),(U.upd (U.none h80) _).upd (U.none h80) _⟩
     rintro ρ H ⟨e0,e3,e4,e6,e7,e9,j8,e8,R8,R,U⟩;simp only[go_sem,e0,e3,e4,e6,e7,e9,e8];refine dT (fun ρ' H'=>ρ' 0=.op js 0 0∧ρ' 3=.rp (jG p) 0∧ρ' 4=int (k0:Nat)∧ρ' 6=.sl (vs.map bS)∧ρ' 7=int (k:Nat)∧H' js=some (gL EV)∧Sup (aG H0 js (some (gL EV))) H') ?_ fun K hK hKe hKr=>aB (fun hb=>?_) (fun hb=>?_)
     rotate_left
     · rw[if_pos hb]at eV
       obtain⟨i1,i2⟩:=hVi hb;have hM:=hrec b hbb hSb.sz H R q.1 i1 (by rw[y3];omega) (by rw[y3];omega);rw[←eV]at hM;simp only[go_sem,e0,e3,e4,e6,e7,e9,e8,R8];refine MC.use hM ?_;simp only[go_sem];refine hK _ _ ⟨by simp only[go_sem,e0,e3,e4,e6,e7,e9,e8],by simp only[go_sem,e0,e3,e4,e6,e7,e9,e8],by simp only[go_sem,e0,e3,e4,e6,e7,e9,e8],by simp only[go_sem,e0,e3,e4,e6,e7,e9,e8],by simp only[go_sem,e0,e3,e4,e6,e7,e9,e8],aA _ _ _,U.set2 _⟩
     · rw[if_neg (fun h=>Bool.noConfusion (hb.symm.trans h))]at eV
       rw[eV]at hK;simp only[go_sem];refine hK _ _ ⟨by simp only[go_sem,e0,e3,e4,e6,e7,e9,e8],by simp only[go_sem,e0,e3,e4,e6,e7,e9,e8],by simp only[go_sem,e0,e3,e4,e6,e7,e9,e8],by simp only[go_sem,e0,e3,e4,e6,e7,e9,e8],by simp only[go_sem,e0,e3,e4,e6,e7,e9,e8],R,U⟩
     rintro ρ H ⟨e0,e3,e4,e6,e7,R,U⟩;simp only[go_sem,e0,e3,e4,e6,e7,bA (show k≤4611686018427387904 by omega)];have hEV:Same w EV:=by
       rw[←hEVd];exact hSb.trans (Ba (f'+1) p b v hSb.sz)
     exact⟨⟨k+1,EV,hlt2,rfl,hs.symm,hEV,R,U⟩,by simp only[aH];omega⟩
   have hge:=geB hk (by simpa using hge);subst hge;rw[List.take_length,←eX]at hb0;simp only[go_sem,e0,e3,e4,bA (show k0≤4611686018427387904 by omega)];exact⟨⟨k0+1,b,hlt,rfl,by rw[hstep,hb0],hSb,R,U⟩,by simp only[aH];omega⟩
 have hge:=geB hk (by simpa[hS.st.1]using hge);subst hge;rw[←eB]at ha;subst ha;simp only[go_sem];exact lU.flat U _
theorem Le(D js:Nat):∀f,YG D js f
 | 0=>BS D js 0 (fun f' e=>by omega)
 | f + 1 => BS D js (f + 1) (fun f' e => by
     obtain rfl:f'=f:=by omega
     exact Le D js f')
end Go.Proofs.YtdlijlecpopadaaGreatDoor.Rx
end

section
set_option linter.unusedSimpArgs false
set_option linter.unusedVariables false
namespace Go.Proofs.YtdlijlecpopadaaGreatDoor.Rx
open Go.Aw Go.Aw.D Go.Proofs Ty Go.Nu Go.So
open Sq (W jW eM kE NetOk dP jM)
open Nu (ltB geB Bt vI lC vM)
open Mv (fZ fA kI NC.pc bR)
set_option maxRecDepth 100000
def J3(x:Instance)(s i:Nat):Nat:=if(aJ x i).off=true then s else s+(Sq.dX (aJ x i) (i:Nat)).length
def lR(x:Instance)(k:Nat):Nat:=(List.range k).foldl (J3 x) 0
theorem wI(x:Instance)(k:Nat):lR x (k+1)=J3 x (lR x k) k:=by unfold lR;rw[List.range_succ,List.foldl_append];rfl
theorem xJ(x:Instance):∀k,lR x k≤2*k
 | 0=>by show 0≤0;omega
 | k+1=>by
   have:=xJ x k;have h2:=Sq.rF (aJ x k) (k:Nat);rw[wI];unfold J3;split <;> omega
def xM(x:Instance)(kind:Nat)(dual:List ByteArray)(near:List Int)(limited:Bool)(m:Nat):Rs:=⟨x,aI x kind,kind,near,dual,m,0,limited,false,ByteArray.empty⟩
def tY(t:VType)(k:Nat):RP:=⟨t.src,0,0,cN t [⟨t.start,0⟩],0,0,List.replicate k 0,0,0,dec 0⟩
def wX(x:Instance)(kind:Nat)(dual:List ByteArray)(near:List Int)(limited:Bool):Rs:=
 EA (lR x x.orders.length) (xM x kind dual near limited (lR x x.orders.length)) (tY (aI x kind) (aI x kind).cap.length)
abbrev yB(t:VType)(z:AV):Row:=⟨177,10,[[int t.src,int 0,int 0,.sl ((cN t [⟨t.start,0⟩]).map jT),int 0,int 0,z,int 0,int 0,str (dec 0)]]⟩
theorem Tp(D : Nat)(x : Instance)(kind : Nat)(dual : List ByteArray)(near : List Int)(limited : Bool)(hk : kind < x.types.length)(hn : x.orders.length ≤ 8)(hcap : (aI x kind).cap.length ≤ 1048576)
   (hB:RsB D (xM x kind dual near limited (lR x x.orders.length))):
   NC Tryz.prog 54 [.agg (aS x),int (kind:Nat),.sl (dual.map Go.Aw.D.fL),.sl (near.map aO),boo limited] (gL (wX x kind dual near limited)) (fun j=>.op j 0 0):=by
 have b2:=inB hk;have hT:x.types[kind]?=some (aI x kind):=by unfold aI;rw[List.getD,List.getElem?_eq_getElem hk,Option.getD_some]
 have g2:=aF (f:=bC) hT;have hme:=xJ x x.orders.length;refine NC.body (c:=Tryz.f54.body.getD .skip) (fun t=>t == 26||t == 71||t == 88) mixed Tryz.func54 rfl (by kernel_rfl) ?_;unfold Tryz.f54;simp only[Option.getD_some];simp only[go_sem];refine jD [(0,true),(1,true),(2,true),(3,true),(4,true),(5,true),(6,true),(7,true),(8,true),(9,true),(10,true),(11,false),(12,true)] (by kernel_rfl) ?_;simp only[go_sem,g2,b2];have hfill:∀(E:Option (List AV)) (F:List AV→Prop),E=some (iR (xM x kind dual near limited 0))→F (iR (xM x kind dual near limited 0))→bD E F:=fun E F h hF=>by rw[h];exact hF
 refine hfill _ _ (by kernel_rfl) ?_;refine⟨by rw[nR];omega,?_⟩;refine aL fun js hjs0=>?_
 generalize hHA:aG bU js _=HA;have R:HA js=some (gL (xM x kind dual near limited (lR x 0))):=by rw[←hHA,aA];rfl
 clear hHA hjs0;simp only[go_sem];refine⟨fun ρ H=>∃(k:Nat),k≤x.orders.length∧ρ 5=.rp (aS x) 0∧ρ 11=.op js 0 0∧ρ 12=int k∧H js=some (gL (xM x kind dual near limited (lR x k))),fun ρ _=>x.orders.length-bE (ρ 12),⟨0,Nat.zero_le _,by simp only[go_sem],by simp only[go_sem],(by simp only[go_sem];rfl),R⟩,?_⟩;rintro ρ H ⟨k,hk,e5,e11,e12,R⟩;simp only[go_sem,e5,e11,e12];refine aB (fun hlt=>?_) (fun hge=>?_)
 · have hlt:=ltB (by simpa using hlt)
   have b1:=inB hlt;have g1:=aF (f:=aV) (iV hlt);have hs:=wI x k;have hml:=xJ x k;unfold J3 at hs;have hv:=DF x k hlt (by omega);have hvl:=Sq.rF (aJ x k) (k:Nat);generalize lR x k=m at *;simp only[go_sem,e5,e11,e12,g1,b1];refine dT (fun ρ' H'=>ρ' 5=.rp (aS x) 0∧ρ' 11=.op js 0 0∧ρ' 12=int (k:Nat)∧H' js=some (gL (xM x kind dual near limited (lR x (k+1))))) ?_ fun K hK hKe hKr=>aB (fun hb=>?_) (fun hb=>?_)
   rotate_left
   · have hof:(aJ x k).off=false:=by simpa using hb
     rw[if_neg (by rw[hof];simp)]at hs;rw[hs]at hK;generalize Sq.dX (aJ x k) (k:Nat)=vs at *;have w1:IntKind.i64.wrap (((xM x kind dual near limited m).most:Int)+(vs.length:Int))=((m+vs.length:Nat):Int):=by
       show IntKind.i64.wrap ((m:Int)+(vs.length:Int))=_;rw[aQ (by omega)];rfl
     simp only[go_sem];refine sI [] (.q 0 (.q 1 (.q 2 (.q 3 (.q 5 (.q 6 (.q 7 (.a2 4 (.a1 8 (.q 9 (.q 10 (.q 11 (.q 12 (.a1 13 .nil)))))) 8 (.q 9 (.a1 4 (.q 10 (.q 11 (.q 12 (.a1 13 .nil))))))))))))))  (fun ρ' H'=>ρ' 5=.rp (aS x) 0∧ρ' 11=.op js 0 0∧ρ' 12=int (k:Nat)∧H' js=some (gL (xM x kind dual near limited (m+vs.length)))) (by simp) (by kernel_rfl) (fun K' hK' Hp Hr hp hr _ _=>?_) ?_
     · obtain rfl:Hr=H:=funext fun k=>hr k (by simp)
       have hG:∀z,z=[iR (xM x kind dual near limited (m+vs.length))]→aG Hr js (some (⟨108,28,z⟩:Row)) js=some (gL (xM x kind dual near limited (m+vs.length))):=fun z hz=>by rw[aA,hz]
       simp only[go_sem,e5,e11,e12];refine lA ?_ ?_
       · simp only[go_sem,e5,e11,e12,R]
         refine PC.use hv ?_;simp only[go_sem,e5,e11,e12,R,List.length_map,w1];refine bY so3 R (by simp[nR]) ?_;simp only[go_sem];refine fC (fun _ _=>rfl) (by simp) (hK' _ _ ⟨by simp only[go_sem,e5,e11,e12],by simp only[go_sem,e5,e11,e12],by simp only[go_sem,e5,e11,e12],hG _ rfl⟩)
       · simp only[go_sem,e5,e11,e12,R]
         refine PC.use hv ?_;simp only[go_sem,e5,e11,e12,R,List.length_map,w1];refine bY so3 R (by simp[nR]) ?_;simp only[go_sem];refine fC (fun _ _=>rfl) (by simp) (hK' _ _ ⟨by simp only[go_sem,e5,e11,e12],by simp only[go_sem,e5,e11,e12],by simp only[go_sem,e5,e11,e12],hG _ rfl⟩)
     rintro ρ H ⟨e5,e11,e12,R⟩;exact hK _ _ ⟨e5,e11,e12,R⟩
   · have hof:(aJ x k).off=true:=by simpa using hb
     rw[if_pos hof]at hs;rw[hs]at hK;simp only[go_sem];exact hK _ _ ⟨by simp only[go_sem,e5,e11,e12],by simp only[go_sem,e5,e11,e12],by simp only[go_sem,e5,e11,e12],R⟩
   rintro ρ H ⟨e5,e11,e12,R⟩;simp only[go_sem,e5,e11,e12,bA (show k≤4611686018427387904 by omega)];exact⟨⟨k+1,hlt,rfl,R⟩,by simp only[aH];omega⟩
 have hge:=geB hk (by simpa using hge);subst hge;simp only[go_sem,e5,e11,e12];generalize hM:lR x x.orders.length=M at *;have hHB:∃HB,HB=H:=⟨H,rfl⟩;obtain⟨HB,hHB⟩:=hHB;rw[←hHB]at R ⊢;clear hHB;refine sI [js] (.q 0 (.q 1 (.q 2 (.q 3 (.q 4 (.q 5 (.q 6 (.q 7 (.q 8 (.q 9 (.q 10 (.q 11 (.q 12 (.q 13 (.q 14 (.a2 15 (.a2 16 (.q 17 (.a1 18 (.a1 19 .nil))) 18 (.a1 16 (.q 17 (.a1 19 .nil)))) 18 (.a1 15 (.a1 16 (.q 17 (.a1 19 .nil)))))))))))))))))))) (fun ρ' H'=>ρ' 11=.op js 0 0∧∃j13 jl,ρ' 13=.op j13 0 0∧H' js=some (gL (xM x kind dual near limited M))∧H' j13=some (yB (aI x kind) (.os jl))∧H' jl=some (kK [])∧js≠j13∧js≠jl∧j13≠jl) (by simp[R]) (by kernel_rfl) (fun K' hK' Hp Hr hp hr hp0 hr0=>?_) ?_
 · have P_R:=(hp js (by simp)).trans R
   simp only[go_sem,e5,e11,e12,P_R];have hEnd : ∀ (ρ' : Env) (j13 jl : Nat) (z : Row) (row : Row), aG Hr j13 (some z) jl = none → ρ' 11 = .op js 0 0 → ρ' 13 = .op j13 0 0 → row = yB (aI x kind) (.os jl) →
       lD [js] HB K' ρ' (aG (aG (aG Hr j13 (some z)) jl (some (⟨3,1,[]⟩:Row))) j13 (some row)):=by
     intro ρ' j13 jl z row hjl h11 h13 hrow;have n1:jl≠j13:=fun e=>by subst e;rw[aA]at hjl;cases hjl
     refine kL fun hz Hm h1 h2=>?_
     have z1:=hz js (by simp);have n2:js≠j13:=fun e=>by rw[←e,aA]at z1;cases z1
     have n3:js≠jl:=fun e=>by rw[aC _ _ _ _ n2,←e,aA]at z1;cases z1
     refine hK' _ _ ⟨h11,j13,jl,h13,(h1 js (by simp)).trans R,?_,?_,n2,n3,n1.symm⟩
     · rw[h2 j13 (by simp[n2.symm]),aA,hrow]
     · rw[h2 jl (by simp[n3.symm]),aC _ _ _ _ n1,aA];rfl
   refine lA ?_ ?_
   · simp only[go_sem,e5,e11,e12]
     refine lA ?_ ?_
     · simp only[go_sem,e5,e11,e12,P_R]
       refine PC.use (yY (aI x kind) [⟨(aI x kind).start,0⟩] (Nat.le_of_ble_eq_true rfl)) ?_;simp only[go_sem,e5,e11,e12,P_R];refine aL fun j13 h13=>?_
       simp only[go_sem];refine AN 6 3 1 ⟨rfl,by decide⟩ (aA _ _ _) (by simp) fun jl hjl=>?_
       simp only[go_sem];exact hEnd _ _ _ _ _ hjl (by simp only[go_sem,e5,e11,e12]) (by simp only[go_sem]) (by rw[yB,←L0];rfl)
     · simp only[go_sem,e5,e11,e12,P_R]
       refine aL fun j13 h13=>?_
       simp only[go_sem,e5,e11,e12,P_R];refine PC.use (yY (aI x kind) [⟨(aI x kind).start,0⟩] (Nat.le_of_ble_eq_true rfl)) ?_;simp only[go_sem,e5,e11,e12,P_R];refine AN 6 3 1 ⟨rfl,by decide⟩ (aA _ _ _) (by simp) fun jl hjl=>?_
       simp only[go_sem];exact hEnd _ _ _ _ _ hjl (by simp only[go_sem,e5,e11,e12]) (by simp only[go_sem]) (by rw[yB,←L0];rfl)
   · simp only[go_sem,e5,e11,e12,P_R]
     refine aL fun j13 h13=>?_
     simp only[go_sem,e5,e11,e12,P_R];refine PC.use (yY (aI x kind) [⟨(aI x kind).start,0⟩] (Nat.le_of_ble_eq_true rfl)) ?_;simp only[go_sem,e5,e11,e12,P_R];refine AN 6 3 1 ⟨rfl,by decide⟩ (aA _ _ _) (by simp) fun jl hjl=>?_
     simp only[go_sem];exact hEnd _ _ _ _ _ hjl (by simp only[go_sem,e5,e11,e12]) (by simp only[go_sem]) (by rw[yB,←L0];rfl)
 rintro ρ HC ⟨e11,j13,jl,e13,R,R13,Rl,n1,n2,n3⟩;simp only[go_sem,e11,e13];refine⟨fun ρ H=>∃(k:Nat) (jl:Nat),k≤(aI x kind).cap.length∧ρ 11=.op js 0 0∧ρ 13=.op j13 0 0∧ρ 14=int k∧H js=some (gL (xM x kind dual near limited M))∧H j13=some (yB (aI x kind) (.os jl))∧H jl=some (kK (List.replicate k 0))∧js≠j13∧js≠jl∧j13≠jl,fun ρ _=>(aI x kind).cap.length-bE (ρ 14),⟨0,jl,Nat.zero_le _,by simp only[go_sem,e11,e13],by simp only[go_sem,e11,e13],(by simp only[go_sem,e11,e13];rfl),R,R13,Rl,n1,n2,n3⟩,?_⟩;rintro ρ H ⟨k,jl,hk,e11,e13,e14,R,R13,Rl,n1,n2,n3⟩;simp only[go_sem,e11,e13,e14,R];refine aB (fun hlt=>?_) (fun hge=>?_)
 · have hlt : k < (aI x kind).cap.length := by
     have h0:=hlt;simp at h0;exact h0
   simp only[go_sem,e11,e13,e14,R13];refine aX Rl ⟨rfl,rfl⟩ (by simp only[go_sem]) (by simp only[List.length_map,List.length_replicate,List.length_cons,List.length_nil];omega) (fun j2 hj2=>?_);have m1:js≠j2:=aN R hj2;have m2:j13≠j2:=aN R13 hj2;generalize hG:aG (aG H jl none) j2 _=HG;have G13:HG j13=some (yB (aI x kind) (.os jl)):=by rw[←hG,aC _ _ _ _ m2,aC _ _ _ _ n3];exact R13
   have GR:HG js=some (gL (xM x kind dual near limited M)):=by rw[←hG,aC _ _ _ _ m1,aC _ _ _ _ n2];exact R
   have Gl:HG j2=some (kK (List.replicate (k+1) 0)):=by
     rw[←hG,aA,List.replicate_succ'];refine congrArg (fun l=>some (⟨3,1,l⟩:Row)) ?_;rw[List.map_append];rfl
   clear hG;simp only[go_sem,e11,e13,e14,G13];refine bY Pg G13 (by simp) ?_;simp only[go_sem,e11,e13,e14,bA (show k≤4611686018427387904 by omega)];refine⟨⟨k+1,j2,hlt,rfl,?_,?_,?_,n1,m1,m2⟩,by simp only[aH];omega⟩
   · rw[aC _ _ _ _ n1];exact GR
   · rfl
   · rw[aC _ _ _ _ m2.symm];exact Gl
 have hge:k=(aI x kind).cap.length:=by
   have h0:=hge;simp at h0;exact Nat.le_antisymm hk h0
 subst hge;simp only[go_sem,e11,e13,e14,R13];refine WV [jl] (jG (tY (aI x kind) (aI x kind).cap.length)) ⟨.inl rfl,.inl rfl,.inl rfl,.inl rfl,.inl rfl,.inl rfl,.inr ⟨jl,_,by simp,rfl,Rl,rfl⟩,.inl rfl,.inl rfl,.inl rfl,trivial⟩ fun Hq _ hq1=>?_
 have R:=(hq1 js (by simp[n2])).trans R;simp only[go_sem,e11,e13,e14];have hI:RInv x.orders.length D (tY (aI x kind) (aI x kind).cap.length):=⟨by show 0<_;decide,Nat.two_pow_pos _,by show(List.replicate _ _).length=D;rw[List.length_replicate];exact hB.cap,by show(cN _ _).length≤_;rw[yC];exact Nat.le_refl 2,by show(dec 0).size≤8194;rw[←L0];decide⟩;refine MC.use (Le D js M (xM x kind dual near limited M) hB (by show ByteArray.empty.size≤_;decide) Hq R (tY (aI x kind) (aI x kind).cap.length) hI (by show M≤0+M;omega) (Nat.zero_le _)) ?_;simp only[go_sem,e11,e13,e14];exact⟨js,rfl,by rw[aA,←hM];rfl⟩
end Go.Proofs.YtdlijlecpopadaaGreatDoor.Rx
end

section
set_option linter.unusedSimpArgs false
set_option linter.unusedVariables false
namespace Go.Proofs.YtdlijlecpopadaaGreatDoor.Rx
open Go.Aw Go.Aw.D Go.Proofs Ty Go.Nu Go.So
open Sq (W jW eM kE NetOk)
open Nu (ltB geB)
open Mv (fZ fA kI NC.pc bR)
set_option maxRecDepth 100000
theorem Gh{x:Instance}{near:List Int}(h:mI x near=true)(hn:x.orders.length≤10):near.length=x.orders.length∧NearB near:=by
 unfold mI at h;rw[Bool.and_eq_true,List.all_eq_true]at h;have hl:near.length=x.orders.length:=by have:=h.1;simp at this;omega
 refine⟨hl,by omega,fun n hm=>?_⟩;obtain⟨i,hi,rfl⟩:=List.getElem_of_mem hm;have hb:=h.2 i (List.mem_range.2 hi);unfold pK at hb;rw[List.getD,List.getElem?_eq_getElem hi]at hb;simp only[Option.getD_some,Bool.not_eq_true',Bool.or_eq_false_iff,decide_eq_false_iff_not]at hb;have h1:((2^near.length:Nat):Int)≤((2^10:Nat):Int):=by
   have:=Nat.pow_le_pow_right (n:=2) (by omega) (show near.length≤10 by omega);omega
 have:=hb.1;refine⟨by omega,?_⟩;have:((2^10:Nat):Int)=1024:=by decide
 omega
end Go.Proofs.YtdlijlecpopadaaGreatDoor.Rx
end

section
set_option linter.unusedSimpArgs false
set_option linter.unusedVariables false
namespace Go.Proofs.YtdlijlecpopadaaGreatDoor.Rx
open Go.Aw Go.Aw.D Go.Proofs Ty Go.Nu Go.So
open Sq (W jW eM kE NetOk dP jM)
open Nu (ltB geB Bt vI lC vM sZ)
open Mv (fZ fA kI NC.pc bR)
set_option maxRecDepth 100000
structure XR(D:Nat)(x:Instance):Prop where
 net:Sq.NetB x.net
 dim:∀o,o<x.orders.length→(aJ x o).load.length=D
 cap:∀k,k<x.types.length→(aI x k).cap.length=D
 D:D≤1048576
 n:x.orders.length≤8
def HJ(x:Instance)(kind:Int):Bool:=decide (kind<0)||decide (kind≥(x.types.length:Int))
def oG(x:Instance)(kind:Int)(near:List Int):Int×Int:=
 if(HJ x kind|| !mI x near)=true then(0,2)
 else
   let s:=wX x kind.toNat (List.replicate x.orders.length (dec 0)) near true
   if s.count>8192 then(0,4)else(s.count,0)
theorem rs_b{D : Nat}{x : Instance}(h : XR D x){kind : Nat}(hk : kind < x.types.length){near : List Int}(hl : mI x near = true){dual : List ByteArray}(hd : dual.length = x.orders.length)(hds : ∀ a ∈ dual, a.size ≤ 1048576)(lim : Bool):
   RsB D (xM x kind dual near lim (lR x x.orders.length)):=by
 have hn:=h.n;obtain⟨l1,l2⟩:=Gh hl (by omega);have hm:=xJ x x.orders.length;exact⟨⟨h.net,l2,l1,hd,hds⟩,h.dim,h.cap kind hk,h.D,by show x.orders.length≤60;omega,by show lR x x.orders.length≤16;omega⟩
theorem Tz{x:Instance}{kind:Int}(h:HJ x kind=false):∃k:Nat,kind=(k:Nat)∧k<x.types.length:=by
 unfold HJ at h;simp only[Bool.or_eq_false_iff,decide_eq_false_iff_not]at h;exact⟨kind.toNat,by omega,by omega⟩
theorem Nl{D : Nat}(x : Instance)(h : XR D x)(kind : Int)(near : List Int)(hnl : near.length ≤ 1048576):
   PC Tryz.prog 22 [.agg (aS x),int kind,.sl (near.map aO)] (.tup [int (oG x kind near).1,int (oG x kind near).2]):=by
 have hn:=h.n;have hL:=SY x near (by omega) hnl;have eR:oG x kind near=if(HJ x kind|| !mI x near)=true then(0,2)
   else
     let s:=wX x kind.toNat (List.replicate x.orders.length (dec 0)) near true
     if s.count>8192 then(0,4)else(s.count,0):=rfl
 generalize oG x kind near=R at eR;refine PC.body (c:=Tryz.f22.body.getD .skip) (fun t=>t == 8||t == 38) mixed Tryz.func22 rfl (by kernel_rfl) ?_;unfold Tryz.f22;simp only[Option.getD_some];simp only[go_sem];refine⟨_,fun _=>hL.q rfl,?_⟩;simp only[go_sem];refine aB (fun hb=>?_) (fun hb=>?_)
 · have hb2:(HJ x kind|| !mI x near)=true:=hb
   rw[if_pos hb2]at eR;subst eR;simp only[go_sem];exact .refl _
 have hb2:(HJ x kind|| !mI x near)=false:=hb;rw[if_neg (fun h=>Bool.noConfusion (hb2.symm.trans h))]at eR;rw[Bool.or_eq_false_iff]at hb2;obtain⟨k0,rfl,hk0⟩:=Tz hb2.1;have hl:mI x near=true:=by simpa using hb2.2
 rw[Int.toNat_natCast]at eR;simp only[go_sem];refine aL fun j hj0=>?_
 generalize hGj:aG _ j _=HGj;have R8:HGj j=some ((⟨46,1,(List.replicate 0 (dec 0)).map Go.Aw.D.fL⟩:Row)):=by rw[←hGj,aA];try rfl
 clear hGj hj0;simp only[go_sem,R8];refine⟨fun ρ H=>∃(k:Nat) (j:Nat),k≤x.orders.length∧ρ 1=int (k0:Nat)∧ρ 2=.sl (near.map aO)∧ρ 3=.rp (aS x) 0∧ρ 9=int k∧ρ 8=.os j∧H j=some (⟨46,1,(List.replicate k (dec 0)).map Go.Aw.D.fL⟩:Row),fun ρ _=>x.orders.length-bE (ρ 9),⟨0,j,Nat.zero_le _,by simp only[go_sem],by simp only[go_sem],by simp only[go_sem],(by simp only[go_sem];rfl),by simp only[go_sem],R8⟩,?_⟩;rintro ρ H ⟨k,j,hk,e1,e2,e3,e9,e8,R8⟩;simp only[go_sem,e1,e2,e3,e9,e8];refine aB (fun hlt=>?_) (fun hge=>?_)
 · have hlt:=ltB (by simpa using hlt)
   simp only[go_sem,e1,e2,e3,e9,e8];refine aX R8 ⟨rfl,rfl⟩ (by simp only[go_sem]) (by simp only[List.length_map,List.length_replicate,List.length_cons,List.length_nil];omega) (fun j2 hj2=>?_);simp only[go_sem,e1,e2,e3,e9,e8,bA (show k≤4611686018427387904 by omega)];refine⟨⟨k+1,j2,hlt,rfl,rfl,?_⟩,by simp only[aH];omega⟩;rw[aA,List.replicate_succ',List.map_append,←L0];rfl
 have hge:=geB hk (by simpa using hge);subst hge;simp only[go_sem,e1,e2,e3,e9,e8];refine wQ (by simp only[go_sem,e1,e2,e3,e9,e8]) R8 fun Hr _ _=>?_
 simp only[go_sem,e1,e2,e3,e9,e8];have hcap:=h.cap k0 hk0;have hDD:=h.D;have hds:∀a∈List.replicate x.orders.length (dec 0),a.size≤1048576:=fun a ha=>by rw[List.eq_of_mem_replicate ha,←L0];decide
 refine NC.use (Tp D x k0 (List.replicate x.orders.length (dec 0)) near true hk0 (by omega) (by omega) (rs_b h hk0 hl (by rw[List.length_replicate]) hds true)) fun js hjs=>?_
 generalize wX x k0 (List.replicate x.orders.length (dec 0)) near true=s at eR ⊢;have RS:aG Hr js (some (gL s)) js=some (gL s):=aA _ _ _;generalize aG Hr js (some (gL s))=HB at RS ⊢;simp only[go_sem,e1,e2,e3,e9,e8,RS];refine aB (fun hb=>?_) (fun hb=>?_)
 · have hc:s.count>8192:=of_decide_eq_true hb
   simp only[hc,if_true]at eR;subst eR;simp only[go_sem];exact .refl _
 · have hc:¬s.count>8192:=of_decide_eq_false hb
   simp only[hc,if_false]at eR;subst eR;simp only[go_sem,e1,e2,e3,e9,e8,RS];exact .refl _
end Go.Proofs.YtdlijlecpopadaaGreatDoor.Rx
end

section
set_option linter.unusedSimpArgs false
set_option linter.unusedVariables false
namespace Go.Proofs.YtdlijlecpopadaaGreatDoor.Rx
open Go.Aw Go.Aw.D Go.Proofs Ty
open Sq
set_option maxRecDepth 100000
theorem yV{l:List Point}{i:Nat}(h:i<l.length):dH l i∈l:=by
 rw[cT (List.getElem?_eq_getElem h)];exact List.getElem_mem h
theorem JJ{p:Point}{t:Int}(hp:0≤p.t∧p.t≤4096∧p.t≤p.a∧p.a≤p.t+4096)(ht:0≤t∧t≤12288):0≤uL p t∧uL p t≤100000000:=by
 unfold uL;rw[cR (n:=t+p.a) (by omega),cR (by omega)];omega
theorem U8{p q:Point}{t:Int}(hp:0≤p.t∧p.t≤4096∧p.t≤p.a∧p.a≤p.t+4096)(hq:0≤q.t∧q.t≤4096∧q.t≤q.a∧q.a≤q.t+4096)(ha:p.a≤q.a)(h1:p.t≤t)(h2:t<q.t):0≤Dv p q t∧Dv p q t≤100000000:=by
 unfold Dv;have hx:0≤t-p.t∧t-p.t≤4096:=by omega
 have hy:0≤q.a-p.a∧q.a-p.a≤8192:=by omega
 have hm0:0≤(t-p.t)*(q.a-p.a):=Int.mul_nonneg hx.1 hy.1;have hm1:(t-p.t)*(q.a-p.a)≤4096*8192:=Int.mul_le_mul hx.2 hy.2 hy.1 (by omega);rw[cR (n:=t-p.t) (by omega),cR (n:=q.a-p.a) (by omega),cR (n:=(t-p.t)*(q.a-p.a)) (by omega),cR (n:=q.t-p.t) (by omega)];generalize (t-p.t)*(q.a-p.a)=m at hm0 hm1;rw[cR (n:=m+q.t) (by omega),cR (n:=m+q.t-p.t) (by omega),cR (n:=m+q.t-p.t-1) (by omega),Int.tdiv_eq_ediv_of_nonneg (by omega)];have d0:0≤(m+q.t-p.t-1)/(q.t-p.t):=Int.ediv_nonneg (by omega) (by omega);have d1:(m+q.t-p.t-1)/(q.t-p.t)≤m+q.t-p.t-1:=Int.ediv_le_self _ (by omega);have e:IntKind.i64.wrap ((m+q.t-p.t-1)/(q.t-p.t))=(m+q.t-p.t-1)/(q.t-p.t):=cR (by omega);rw[e,cR (by omega)];omega
theorem VC{l:List Point}{t:Int}(h:iA l=[])(ht:0≤t∧t≤12288):0≤fD l t∧fD l t≤100000000:=by
 have hb:=Ha h;have hl:=hb.len;unfold fD;split
 · omega
 · split
   · rename_i k hk
     have hs:=List.find?_some hk;have hm:=List.mem_range.1 (List.mem_of_find?_eq_some hk);simp only[kU,Bool.and_eq_true,decide_eq_true_eq]at hs;have:=hb.mono k (by omega);exact U8 (hb.pt _ (yV (by omega))) (hb.pt _ (yV (by omega))) this.2 hs.1 hs.2
   · split
     · exact JJ (hb.pt _ (yV (by omega))) ht
     · exact JJ (hb.pt _ (yV (by omega))) ht
theorem Lf{t:Int}:∀(l:List Point) (s B:Int),(∀p∈l,0≤p.a∧p.a≤4096)→0≤s∧s≤B→B+4096*l.length≤1000000000000→0≤l.foldl (lW t) s∧l.foldl (lW t) s≤B+4096*l.length
 | [],s,B,_,hs,_=>by simpa using hs
 | p::l,s,B,hp,hs,hB=>by
   have h1:=hp p (by simp);simp only[List.length_cons,List.foldl_cons]at hB ⊢;have e:0≤lW t s p∧lW t s p≤B+4096:=by
     unfold lW;split
     · rw[cR (by omega)];omega
     · omega
   have:=Lf (t:=t) l (lW t s p) (B+4096) (fun q hq=>hp q (by simp[hq])) e (by omega);omega
theorem LL{a:Arc}{t:Int}(h:ArcOk a)(ht:0≤t∧t≤12288):0≤oR a t∧oR a t≤1000000000:=by
 have h1:=VC h.travel ht;have h2:=h.slow;have:=Lf (t:=t) a.slow _ 100000000 (fun p hp=>(h.pt p hp).2) h1 (by omega);unfold oR;omega
theorem aaL{s c:Nat}(hs:s<2^63)(hc:c<2^63):qQ .andNot .i64 (s:Int) (c:Int)=0↔∀i,i<63→¬(s.testBit i=true∧c.testBit i=false):=by
 have h1:((s:Int)%((2^64:Nat):Int)).toNat=s:=by omega
 have h2:((c:Int)%((2^64:Nat):Int)).toNat=c:=by omega
 have hm:(BitVec.ofInt 64 (s:Int) &&& ~~~(BitVec.ofInt 64 (c:Int))).toNat<2^63:=by
   rw[BitVec.toNat_and,BitVec.toNat_ofInt,h1];exact Nat.lt_of_le_of_lt Nat.and_le_left hs
 have e:qQ .andNot .i64 (s:Int) (c:Int)=(((BitVec.ofInt 64 (s:Int) &&& ~~~(BitVec.ofInt 64 (c:Int))).toNat:Nat):Int):=by
   exact aQ (n:=(((BitVec.ofInt 64 (s:Int) &&& ~~~(BitVec.ofInt 64 (c:Int))).toNat:Nat):Int)) (by omega)
 have hbit:∀i,i<64→(BitVec.ofInt 64 (s:Int) &&& ~~~(BitVec.ofInt 64 (c:Int))).toNat.testBit i=(s.testBit i&& !c.testBit i):=fun i hi=>by
   rw[BitVec.testBit_toNat,BitVec.getLsbD_and,BitVec.getLsbD_not];have a1:(BitVec.ofInt 64 (s:Int)).getLsbD i=s.testBit i:=by rw[←BitVec.testBit_toNat,BitVec.toNat_ofInt,h1]
   have a2:(BitVec.ofInt 64 (c:Int)).getLsbD i=c.testBit i:=by rw[←BitVec.testBit_toNat,BitVec.toNat_ofInt,h2]
   rw[a1,a2,decide_eq_true hi];simp
 rw[e];constructor
 · intro h0 i hi hc2
   have h0:(BitVec.ofInt 64 (s:Int) &&& ~~~(BitVec.ofInt 64 (c:Int))).toNat=0:=by omega
   have:=hbit i (by omega);rw[h0,hc2.1,hc2.2]at this;simp at this
 · intro hz
   have:(BitVec.ofInt 64 (s:Int) &&& ~~~(BitVec.ofInt 64 (c:Int))).toNat=0:=by
     refine Nat.eq_of_testBit_eq fun i=>?_
     rw[Nat.zero_testBit];by_cases hi:i<63
     · rw[hbit i (by omega)]
       have:=hz i hi;cases h3:s.testBit i <;> cases h4:c.testBit i <;> simp_all
     · refine Nat.testBit_lt_two_pow (Nat.lt_of_lt_of_le hm (Nat.pow_le_pow_right (by decide) (by omega)))
   omega
theorem HE{s i:Nat}(hs:s<2^63):((IntKind.i64.wrap (Int.tdiv (s:Int) ((2^i:Nat):Int))).tmod 2 == 1)=s.testBit i:=by
 have e:Int.tdiv (s:Int) ((2^i:Nat):Int)=((s/2^i:Nat):Int):=by
   rw[Int.tdiv_eq_ediv_of_nonneg (by omega)];norm_cast
 have hle:s/2^i≤s:=Nat.div_le_self _ _;rw[e,Nat.testBit_eq_decide_div_mod_eq];generalize s/2^i=q at hle;rw[show IntKind.i64.wrap (q:Int)=(q:Int)from aQ (by omega),Int.tmod_eq_emod_of_nonneg (by omega)];rw[Bool.eq_iff_iff];simp only[beq_iff_eq,decide_eq_true_eq];omega
theorem Gt{s i:Nat}(hs:s<2^63):((IntKind.i64.wrap (Int.tdiv (s:Int) ((2^i:Nat):Int))).tmod 2 == 0)= !s.testBit i:=by
 rw[←HE hs];have e:Int.tdiv (s:Int) ((2^i:Nat):Int)=((s/2^i:Nat):Int):=by
   rw[Int.tdiv_eq_ediv_of_nonneg (by omega)];norm_cast
 have hle:s/2^i≤s:=Nat.div_le_self _ _;rw[e];generalize s/2^i=q at hle;rw[show IntKind.i64.wrap (q:Int)=(q:Int)from aQ (by omega),Int.tmod_eq_emod_of_nonneg (by omega)];rw[Bool.eq_iff_iff];simp only[beq_iff_eq,Bool.not_eq_true',beq_eq_false_iff_ne,ne_eq];omega
theorem GB{c s:Int}(hc:0≤c∧c≤1073741823)(hs:0≤s∧s≤1073741823):pG c s=jM c s:=by
 obtain⟨c,rfl⟩:=Int.eq_ofNat_of_zero_le hc.1;obtain⟨s,rfl⟩:=Int.eq_ofNat_of_zero_le hs.1;have hc2:c<2^63:=by omega
 have hs2:s<2^63:=by omega
 unfold pG jM;rw[show decide ((c:Int)≥0)=true by simp,show decide ((s:Int)≥0)=true by simp,show decide ((c:Int)<0)=false by simp,show decide ((s:Int)<0)=false by simp];simp only[Bool.true_and,Bool.or_self,Bool.not_false];rw[Bool.eq_iff_iff,beq_iff_eq,aaL hs2 hc2,List.all_eq_true];constructor
 · intro h i hi
   have:=h i (List.mem_range.1 hi);unfold tW;rw[HE hs2,Gt hc2];cases h1:s.testBit i <;> cases h2:c.testBit i <;> simp_all
 · intro h i hi
   have:=h i (List.mem_range.2 hi);unfold tW at this;rw[HE hs2,Gt hc2]at this;cases h1:s.testBit i <;> cases h2:c.testBit i <;> simp_all
theorem Tw{s:Stop}(h:eY s=0)(h2:0≤s.place):(0≤s.start∧s.start≤s.close)∧s.close≤4096∧0≤s.service∧s.service≤4096:=by
 unfold eY at h;split at h
 · rename_i hz
   simp only[Go.Proofs.YtdlijlecpopadaaGreatDoor.kJ,Bool.and_eq_true,beq_iff_eq]at hz;omega
 · split at h
   · cases h
   · rename_i hb
     simp only[GZ,Bool.or_eq_true,decide_eq_true_eq]at hb;omega
theorem Qy{x:Instance}(h:Acc x):NetOk x.net:=⟨by have:=h.arcs;omega,fun a ha=>(h.arc a ha).travel,fun a ha=>by have:=(h.arc a ha).slow;omega⟩
theorem RM{x:Instance}(h:Acc x):NetB x.net:=⟨by have:=h.arcs;omega,fun a ha=>by
 have hb:=Ha (h.arc a ha).travel;have:=(h.arc a ha).slow;exact⟨by have:=hb.len;omega,by omega,fun p hp=>by have:=hb.pt p hp;unfold Vo;omega⟩⟩
theorem sR{x:Instance}{o:Nat}(h:o<x.orders.length):aJ x o∈x.orders:=List.mem_of_getElem? (iV h)
theorem tX{x:Instance}{k:Nat}(h:k<x.types.length):aI x k∈x.types:=by
 unfold aI;rw[List.getD,List.getElem?_eq_getElem h];exact List.getElem_mem h
def AU(x:Instance):Nat:=(lY x.types).toNat
theorem Cn{x:Instance}(h:Acc x){k:Nat}(hk:k<x.types.length):(aI x k).cap.length=AU x:=by
 have:=Kz (h.type _ (tX hk)).cap;unfold AU;omega
theorem zY{x:Instance}(h:Acc x){o:Nat}(ho:o<x.orders.length):(aJ x o).load.length=AU x:=by
 have h1:=(CK (h.order _ (sR ho)).load).1;unfold AU;omega
theorem OE{x:Instance}(h:Acc x):AU x≤3:=by
 have h1:=h.types;have:=Kz (h.type _ (tX (show 0<x.types.length by omega))).cap;unfold AU;omega
theorem Yw{x:Instance}(h:Acc x)(hn:x.orders.length≤8):XB (AU x) x:=⟨Qy h,fun _ ho=>zY h ho,fun _ hk=>Cn h hk,by have:=OE h;omega,hn,by have:=h.types;omega⟩
theorem Y7{x:Instance}(h:Acc x)(hn:x.orders.length≤8):XR (AU x) x:=⟨RM h,fun _ ho=>zY h ho,fun _ hk=>Cn h hk,by have:=OE h;omega,hn⟩
theorem Jv{n:Nat}{near:List Int}(hl:near.length=n)(hn:n≤8)(i:Nat)(hi:i<n):oN n near i=pK near i:=by
 unfold oN pK;by_cases h0:near.getD i 0<0
 · rw[decide_eq_true h0];simp
 rw[decide_eq_false h0,Bool.false_or,Bool.false_or];obtain⟨m,hm⟩:=Int.eq_ofNat_of_zero_le (show 0≤near.getD i 0 by omega);rw[hm,hl,JX (by omega) (by omega),Mw (by omega),Int.toNat_natCast,Int.toNat_natCast,qE,Bool.or_comm]
 congr 1
 rw[Bool.eq_iff_iff];have e:(m:Int)/2^n=((m/2^n:Nat):Int):=by norm_cast
 rw[e];simp only[bne_iff_ne,ne_eq,decide_eq_true_eq];have hp:0<2^n:=Nat.two_pow_pos n;have hd:m/2^n=0↔m<2^n:=by rw[Nat.div_eq_zero_iff];omega
 generalize 2^n=z at *;generalize m/z=y at *;omega
theorem Pp{x:Instance}(hn:x.orders.length≤8)(kind:Int)(near:List Int):jC x kind near=(HJ x kind|| !mI x near):=by
 unfold jC HJ mI;by_cases hl:near.length=x.orders.length
 · have e:((near.length:Int) != (x.orders.length:Int))=false:=by rw[hl];simp
   rw[e,Bool.or_false,Bool.not_false,Bool.true_and]
   congr 1
   rw[Bool.eq_iff_iff];simp only[List.any_eq_true,Bool.not_eq_true',List.all_eq_false];constructor
   · rintro⟨i,hi,h⟩
     rw[Jv hl hn i (by have:=List.mem_range.1 hi;omega)]at h;exact⟨i,hi,by rw[h];simp⟩
   · rintro⟨i,hi,h⟩
     refine⟨i,hi,?_⟩;rw[Jv hl hn i (by have:=List.mem_range.1 hi;omega)];simpa using h
 · have e:((near.length:Int) != (x.orders.length:Int))=true:=by simp;omega
   rw[e];simp
end Go.Proofs.YtdlijlecpopadaaGreatDoor.Rx
end
