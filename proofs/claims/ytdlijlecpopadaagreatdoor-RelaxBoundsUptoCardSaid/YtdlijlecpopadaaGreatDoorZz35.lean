/- Texts joined by a program: RxU, RxV, RxO, RxW, RxX. -/
import Derived.Test.YtdlijlecpopadaaGreatDoorZz34

section
set_option linter.unusedSimpArgs false
set_option linter.unusedVariables false
namespace Go.Proofs.YtdlijlecpopadaaGreatDoor.Rx
open Go.Aw Go.Aw.D Go.Proofs Ty Go.Nu Go.So
open Sq (W jX eK kE NetOk dM jU)
open Nu (ltB geB Cp vV lP wO)
open Mv (gC fF kJ NC.pc bQ)
set_option maxRecDepth 100000
theorem Same.st{w a:Rs}(h:Same w a):a.x=w.x∧a.t=w.t∧a.most=w.most∧a.limited=w.limited∧a.kind=w.kind:=by
 obtain⟨c,f,l,rfl⟩:=h.ex;exact⟨rfl,rfl,rfl,rfl,rfl⟩
def wR:Nat→Rs→RP→Rs
 | 0=>fun a _=>a
 | f+1=>IR f
theorem Po(f:Nat)(w:Rs)(p:RP):IR f w p=Kn (wR f) w p:=by cases f <;> rfl
theorem QE:∀(f:Nat) (w:Rs) (p:RP),w.least.size≤1048576→Same w (wR f w p)
 | 0,w,p,h=>.refl h
 | f+1,w,p,h=>Gc f w p h
theorem BQ(f:Nat)(p:RP)(a:Rs)(v:Visit)(h:a.least.size≤1048576):Same a (El (wR f) p a v):=by
 unfold El;split
 · exact QE f _ _ h
 · exact .refl h
theorem Qh(f:Nat)(p:RP)(a:Rs)(i:Nat)(h:a.least.size≤1048576):Same a (EP (wR f) p a i):=by
 unfold EP;split
 · exact .refl h
 · exact yB (fun b v hb=>BQ f p b v hb) _ _ h
abbrev ZW(D js f:Nat):Prop:=∀(w:Rs) (_:RsB D w) (_:w.least.size≤1048576) (H0:aG) (_:H0 js=some (gR w)) (p:RP) (_:RInv w.x.orders.length D p) (_:w.most≤p.visits+f) (_:p.visits≤w.most),
 MC Tryz.prog 109 [.op js 0 0,.agg (jN p)] H0 (aI H0 js (some (gR (IR f w p)))) (.tup [])
theorem Cn(D js f:Nat)(hrec:∀f',f=f'+1→ZW D js f'):ZW D js f:=by
 intro w hw hle H0 hj p h hf hpv;have hm16:=hw.most;have hn60:=hw.n;have hmo:p.moms.length≤131072:=Nat.le_trans h.moms (Nat.le_trans (Nat.pow_le_pow_right (by decide) (show p.visits+1≤17 by omega)) (by decide));have hdl:=h.dual;rw[Po];refine MC.body (c:=Tryz.f109.body.getD .skip) (fun _=>false) (D0 hj) mixed Tryz.func109 rfl (by kernel_rfl) ?_;unfold Tryz.f109;simp only[Option.getD_some];simp only[go_sem];refine MC.use (VV H0 js w hj p hw.ok.net (by omega) (by omega) hle) ?_;have hs1:=Dh w p hle;have eB:Kn (wR f) w p=if(((p.visits:Int) == (w.most:Int))||(w.limited&&decide ((BP w p).count>8192)))=true then BP w p
   else(List.range w.x.orders.length).foldl (EP (wR f) p) (BP w p):=rfl
 generalize Kn (wR f) w p=EB at eB ⊢;generalize BP w p=w1 at *;generalize hHA:aI H0 js (some (gR w1))=HA;have R:HA js=some (gR w1):=by rw[←hHA,aA]
 have U:Sup (aI H0 js (some (gR w1))) HA:=Sup.eq (Sup.refl _) hHA;clear hHA;obtain⟨s1,s2,s3,s4,_⟩:=hs1.st;simp only[go_sem];refine dH [js] [(0,true),(1,true),(2,true),(3,true),(4,true),(5,true),(6,true),(7,true),(8,true),(9,true),(10,true),(11,true),(12,true),(13,true),(14,true),(15,true),(16,true),(17,true),(18,true),(19,true)] (by simp[R]) (by kernel_rfl) fun Hp Hr hp hr _ hr0=>?_
 have P_R:=(hp js (by simp)).trans R;simp only[go_sem,P_R];refine dV hr ?_;simp only[go_sem];refine aB (fun hb=>?_) (fun hb=>?_)
 · rw[s3,s4]at hb
   rw[if_pos hb]at eB;subst eB;simp only[go_sem];exact mD.flat U _
 rw[s3,s4]at hb;rw[if_neg (fun h=>Bool.noConfusion (hb.symm.trans h))]at eB;have hvm:¬p.visits=w.most:=by simp at hb;omega
 obtain⟨f',rfl⟩:∃f',f=f'+1:=⟨f-1,by omega⟩;have hrec:=hrec f' rfl;simp only[go_sem];refine⟨fun ρ H=>∃(k:Nat) (a:Rs),k≤w.x.orders.length∧ρ 0=.op js 0 0∧ρ 3=.rp (jN p) 0∧ρ 4=int k∧a=(List.range k).foldl (EP (wR (f'+1)) p) w1∧Same w a∧H js=some (gR a)∧Sup (aI H0 js (some (gR a))) H,fun ρ _=>w.x.orders.length-bE (ρ 4),⟨0,w1,Nat.zero_le _,by simp only[go_sem],by simp only[go_sem],(by simp only[go_sem];rfl),rfl,hs1,R,U⟩,?_⟩;rintro ρ H ⟨k,a,hk,e0,e3,e4,ha,hS,R,U⟩;simp only[go_sem,e0,e3,e4,R];refine aB (fun hlt=>?_) (fun hge=>?_)
 · obtain⟨x1,x2,x3,x4,_⟩:=hS.st
   have hlt:=ltB (by simpa[x1]using hlt);have hab:=hS.b hw;have hsz:=hS.sz;have hlta:k<a.x.orders.length:=by rw[x1];exact hlt
   have b1:=inB hlta;have g1:=aH (f:=aV) (jC hlta);have hstep:(List.range (k+1)).foldl (EP (wR (f'+1)) p) w1=EP (wR (f'+1)) p a k:=by rw[List.range_succ,List.foldl_append,←ha];rfl
   have eX:EP (wR (f'+1)) p a k=if((aF a.x k).off|| !jU a.t.skills (aF a.x k).skills)=true then a else(Sq.fC (aF a.x k) (k:Nat)).foldl (El (wR (f'+1)) p) a:=rfl
   simp only[go_sem,e0,e3,e4,R,g1,b1];refine aL fun i5 hi50=>?_
   have ne_js_i5:js≠i5:=aN R hi50;simp only[go_sem,e0,e3,e4,R];refine aP (aA _ _ _) (by simp[jH]) ?_;have n_i5:=U.none hi50;generalize hGi5:aI (aI _ i5 _) i5 _=HGi5;replace U:=Sup.eq ((U.upd n_i5 _).upd n_i5 _) hGi5;replace R:=(congrFun hGi5.symm js).trans ((aC _ _ _ _ ne_js_i5).trans ((aC _ _ _ _ ne_js_i5).trans R));have R5:HGi5 i5=some (uM (aF a.x k)):=by rw[←hGi5,aA];try rfl
   clear hGi5 hi50;simp only[go_sem,e0,e3,e4,R5,R];refine dH [js,i5] [(0,true),(1,true),(2,true),(3,true),(4,true),(5,true),(6,true),(7,true),(8,true),(9,true),(10,true),(11,true)] (by simp[R,R5]) (by kernel_rfl) fun Hp Hr hp hr _ hr0=>?_
   have P_R:=(hp js (by simp)).trans R;have P_R5:=(hp i5 (by simp)).trans R5;simp only[go_sem,e0,e3,e4,P_R,P_R5];refine⟨_,fun _=>PC.q (Sq.Vn a.t _) rfl,?_⟩;simp only[go_sem,e0,e3,e4,P_R,P_R5];refine dV hr ?_;simp only[go_sem,e0,e3,e4];refine aB (fun hb=>?_) (fun hb=>?_)
   · rw[if_pos hb]at eX
     simp only[go_sem,e0,e3,e4,bA (show k≤4611686018427387904 by omega)];exact⟨⟨k+1,a,hlt,rfl,by rw[hstep,eX],hS,R,U⟩,by simp only[aJ];omega⟩
   rw[if_neg (fun h=>Bool.noConfusion (hb.symm.trans h))]at eX;simp only[go_sem,e0,e3,e4,R];refine PC.use (DX a.x k hlta (by have:=hab.n;omega)) ?_;have hvo:∀v∈Sq.fC (aF a.x k) (k:Nat),v=⟨(k:Nat),v.drop⟩:=by
     intro v hv;unfold Sq.fC at hv;rw[List.mem_append]at hv;rcases hv with hv|hv
     · split at hv
       · simp at hv;rw[hv]
       · simp at hv
     · split at hv
       · simp at hv;rw[hv]
       · simp at hv
   have hvl:=Sq.rX (aF a.x k) (k:Nat);generalize Sq.fC (aF a.x k) (k:Nat)=vs at *;clear R5 P_R5 P_R;simp only[go_sem,e0,e3,e4];generalize hk0:k=k0 at *;refine⟨fun ρ H=>∃(k:Nat) (b:Rs),k≤vs.length∧ρ 0=.op js 0 0∧ρ 3=.rp (jN p) 0∧ρ 4=int (k0:Nat)∧ρ 6=.sl (vs.map bW)∧ρ 7=int k∧b=(vs.take k).foldl (El (wR (f'+1)) p) a∧Same w b∧H js=some (gR b)∧Sup (aI H0 js (some (gR b))) H,fun ρ _=>vs.length-bE (ρ 7),⟨0,a,Nat.zero_le _,by simp only[go_sem,e0,e3,e4],by simp only[go_sem,e0,e3,e4],by simp only[go_sem,e0,e3,e4],by simp only[go_sem,e0,e3,e4],(by simp only[go_sem,e0,e3,e4];rfl),rfl,hS,R,U⟩,?_⟩;rintro ρ H ⟨k,b,hk,e0,e3,e4,e6,e7,hb0,hSb,R,U⟩;simp only[go_sem,e0,e3,e4,e6,e7];refine aB (fun hlt=>?_) (fun hge=>?_)
   · have hlt2:=ltB (by simpa using hlt)
     obtain⟨v,hv⟩:=aU hlt2;have bv:=inB hlt2;have hve:=hvo v (List.mem_of_getElem? hv);have hs:=Sq.fY (f:=El (wR (f'+1)) p) (b:=a) hv;rw[←hb0]at hs;have hbb:=hSb.b hw;obtain⟨y1,y2,y3,y4,_⟩:=hSb.st;have hkb:k0<b.x.orders.length:=by rw[y1,←x1];exact hlta
     have hdim:=hbb.dim k0 hkb;have hcap:=hbb.cap;have hDD:=hbb.D;have hRi:RInv b.x.orders.length D p:=by rw[y1];exact h
     have hbd:=h.board;have hb61:p.board<2^61:=Nat.lt_of_lt_of_le hbd (Nat.pow_le_pow_right (by omega) (by omega));have hm62:p.memory<2^62:=Nat.lt_of_lt_of_le h.mem (Nat.pow_le_pow_right (by omega) (by omega));have hVl:=fun H1 hH1=>WG H1 js b hH1 p k0 v.drop hkb hbb.n hbb.ok hm62 hb61 (by omega) (by omega) (by omega) (by rw[h.load,hdim]) (by rw[h.load,hcap]) (by rw[h.load];exact hDD)
     have hVi:=PV (d:=v.drop) hbb hRi hkb;have eV:El (wR (f'+1)) p b v=if(gJ b p k0 v.drop).2=true then IR f' b (gJ b p k0 v.drop).1 else b:=by
       have e1:v.order.toNat=k0:=by rw[hve];exact Int.toNat_natCast k0
       unfold El;rw[e1];rfl
     generalize hEVd:El (wR (f'+1)) p b v=EV at *;generalize gJ b p k0 v.drop=q at *;rw[←hve]at hVl;simp only[go_sem,e0,e3,e4,e6,e7];refine sY [] (.q 0 (.q 1 (.q 2 (.q 3 (.q 4 (.q 5 (.a2 6 (.q 7 (.q 8 (.q 9 (.a1 10 (.a1 11 (.q 12 .nil)))))) 10 (.a1 6 (.q 7 (.q 8 (.q 9 (.a1 11 (.q 12 .nil)))))))))))))  (fun ρ' H'=>ρ' 0=.op js 0 0∧ρ' 3=.rp (jN p) 0∧ρ' 4=int (k0:Nat)∧ρ' 6=.sl (vs.map bW)∧ρ' 7=int (k:Nat)∧ρ' 9=boo q.2∧∃j8,ρ' 8=.op j8 0 0∧H' j8=some (mB q.1)∧H' js=some (gR b)∧Sup (aI H0 js (some (gR b))) H') (by simp) (by kernel_rfl) (fun K' hK' Hp Hr hp hr _ _=>?_) ?_
     · obtain rfl:Hr=H:=funext fun k=>hr k (by simp)
       simp only[go_sem,e0,e3,e4,e6,e7,aH hv,bv];refine lG ?_ ?_
       · simp only[go_sem,e0,e3,e4,e6,e7]
         refine LC.use (hVl Hr R) ?_;simp only[go_sem,e0,e3,e4,e6,e7];refine aL fun j8 h80=>?_
         simp only[go_sem,e0,e3,e4,e6,e7];refine aP (aA _ _ _) (by simp[dL]) ?_;simp only[go_sem];refine oO (fun _ _=>rfl) h80 fun _=>hK' _ _ ⟨by simp only[go_sem,e0,e3,e4,e6,e7],by simp only[go_sem,e0,e3,e4,e6,e7],by simp only[go_sem,e0,e3,e4,e6,e7],by simp only[go_sem,e0,e3,e4,e6,e7],by simp only[go_sem,e0,e3,e4,e6,e7],by simp only[go_sem],j8,by simp only[go_sem],aA _ _ _,(aC _ _ _ _ (aN R h80)).trans ((aC _ _ _ _ (aN R h80)).trans R),(U.upd (U.none h80) _).upd (U.none h80) _⟩
       · simp only[go_sem,e0,e3,e4,e6,e7]
         refine aL fun j8 h80=>?_
         have R':∀z,aI Hr j8 z js=some (gR b):=fun z=>(aC _ _ _ _ (aN R h80)).trans R
         simp only[go_sem,e0,e3,e4,e6,e7];refine LC.use (hVl _ (R' _)) ?_;simp only[go_sem,e0,e3,e4,e6,e7];refine aP (aA _ _ _) (by simp[dL]) ?_;simp only[go_sem];refine oO (fun _ _=>rfl) h80 fun _=>hK' _ _ ⟨by simp only[go_sem,e0,e3,e4,e6,e7],by simp only[go_sem,e0,e3,e4,e6,e7],by simp only[go_sem,e0,e3,e4,e6,e7],by simp only[go_sem,e0,e3,e4,e6,e7],by simp only[go_sem,e0,e3,e4,e6,e7],by simp only[go_sem],j8,by simp only[go_sem],aA _ _ _,(aC _ _ _ _ (aN R h80)).trans ((aC _ _ _ _ (aN R h80)).trans R),(U.upd (U.none h80) _).upd (U.none h80) _⟩
     rintro ρ H ⟨e0,e3,e4,e6,e7,e9,j8,e8,R8,R,U⟩;simp only[go_sem,e0,e3,e4,e6,e7,e9,e8];refine dW (fun ρ' H'=>ρ' 0=.op js 0 0∧ρ' 3=.rp (jN p) 0∧ρ' 4=int (k0:Nat)∧ρ' 6=.sl (vs.map bW)∧ρ' 7=int (k:Nat)∧H' js=some (gR EV)∧Sup (aI H0 js (some (gR EV))) H') ?_ fun K hK hKe hKr=>aB (fun hb=>?_) (fun hb=>?_)
     rotate_left
     · rw[if_pos hb]at eV
       obtain⟨i1,i2⟩:=hVi hb;have hM:=hrec b hbb hSb.sz H R q.1 i1 (by rw[y3];omega) (by rw[y3];omega);rw[←eV]at hM;simp only[go_sem,e0,e3,e4,e6,e7,e9,e8,R8];refine MC.use hM ?_;simp only[go_sem];refine hK _ _ ⟨by simp only[go_sem,e0,e3,e4,e6,e7,e9,e8],by simp only[go_sem,e0,e3,e4,e6,e7,e9,e8],by simp only[go_sem,e0,e3,e4,e6,e7,e9,e8],by simp only[go_sem,e0,e3,e4,e6,e7,e9,e8],by simp only[go_sem,e0,e3,e4,e6,e7,e9,e8],aA _ _ _,U.set2 _⟩
     · rw[if_neg (fun h=>Bool.noConfusion (hb.symm.trans h))]at eV
       rw[eV]at hK;simp only[go_sem];refine hK _ _ ⟨by simp only[go_sem,e0,e3,e4,e6,e7,e9,e8],by simp only[go_sem,e0,e3,e4,e6,e7,e9,e8],by simp only[go_sem,e0,e3,e4,e6,e7,e9,e8],by simp only[go_sem,e0,e3,e4,e6,e7,e9,e8],by simp only[go_sem,e0,e3,e4,e6,e7,e9,e8],R,U⟩
     rintro ρ H ⟨e0,e3,e4,e6,e7,R,U⟩;simp only[go_sem,e0,e3,e4,e6,e7,bA (show k≤4611686018427387904 by omega)];have hEV:Same w EV:=by
       rw[←hEVd];exact hSb.trans (BQ (f'+1) p b v hSb.sz)
     exact⟨⟨k+1,EV,hlt2,rfl,hs.symm,hEV,R,U⟩,by simp only[aJ];omega⟩
   have hge:=geB hk (by simpa using hge);subst hge;rw[List.take_length,←eX]at hb0;simp only[go_sem,e0,e3,e4,bA (show k0≤4611686018427387904 by omega)];exact⟨⟨k0+1,b,hlt,rfl,by rw[hstep,hb0],hSb,R,U⟩,by simp only[aJ];omega⟩
 have hge:=geB hk (by simpa[hS.st.1]using hge);subst hge;rw[←eB]at ha;subst ha;simp only[go_sem];exact mD.flat U _
theorem Kv(D js:Nat):∀f,ZW D js f
 | 0=>Cn D js 0 (fun f' e=>by omega)
 | f + 1 => Cn D js (f + 1) (fun f' e => by
     obtain rfl:f'=f:=by omega
     exact Kv D js f')
end Go.Proofs.YtdlijlecpopadaaGreatDoor.Rx
end

section
set_option linter.unusedSimpArgs false
set_option linter.unusedVariables false
namespace Go.Proofs.YtdlijlecpopadaaGreatDoor.Rx
open Go.Aw Go.Aw.D Go.Proofs Ty Go.Nu Go.So
open Sq (W jX eK kE NetOk dM jU)
open Nu (ltB geB Cp vV lP wO)
open Mv (gC fF kJ NC.pc bQ)
set_option maxRecDepth 100000
def Lv(x:Instance)(s i:Nat):Nat:=if(aF x i).off=true then s else s+(Sq.fC (aF x i) (i:Nat)).length
def mF(x:Instance)(k:Nat):Nat:=(List.range k).foldl (Lv x) 0
theorem vQ(x:Instance)(k:Nat):mF x (k+1)=Lv x (mF x k) k:=by unfold mF;rw[List.range_succ,List.foldl_append];rfl
theorem xW(x:Instance):∀k,mF x k≤2*k
 | 0=>by show 0≤0;omega
 | k+1=>by
   have:=xW x k;have h2:=Sq.rX (aF x k) (k:Nat);rw[vQ];unfold Lv;split <;> omega
def yG(x:Instance)(kind:Nat)(dual:List ByteArray)(near:List Int)(limited:Bool)(m:Nat):Rs:=⟨x,aD x kind,kind,near,dual,m,0,limited,false,ByteArray.empty⟩
def zO(t:VType)(k:Nat):RP:=⟨t.src,0,0,cO t [⟨t.start,0⟩],0,0,List.replicate k 0,0,0,dec 0⟩
def sA(x:Instance)(kind:Nat)(dual:List ByteArray)(near:List Int)(limited:Bool):Rs:=
 IR (mF x x.orders.length) (yG x kind dual near limited (mF x x.orders.length)) (zO (aD x kind) (aD x kind).cap.length)
abbrev yW(t:VType)(z:AV):Row:=⟨177,10,[[int t.src,int 0,int 0,.sl ((cO t [⟨t.start,0⟩]).map kB),int 0,int 0,z,int 0,int 0,str (dec 0)]]⟩
theorem S9(D : Nat)(x : Instance)(kind : Nat)(dual : List ByteArray)(near : List Int)(limited : Bool)(hk : kind < x.types.length)(hn : x.orders.length ≤ 8)(hcap : (aD x kind).cap.length ≤ 1048576)
   (hB:RsB D (yG x kind dual near limited (mF x x.orders.length))):
   NC Tryz.prog 54 [.agg (aS x),int (kind:Nat),.sl (dual.map Go.Aw.D.eH),.sl (near.map aO),boo limited] (gR (sA x kind dual near limited)) (fun j=>.op j 0 0):=by
 have b2:=inB hk;have hT:x.types[kind]?=some (aD x kind):=by unfold aD;rw[List.getD,List.getElem?_eq_getElem hk,Option.getD_some]
 have g2:=aH (f:=bC) hT;have hme:=xW x x.orders.length;refine NC.body (c:=Tryz.f54.body.getD .skip) (fun t=>t == 26||t == 71||t == 88) mixed Tryz.func54 rfl (by kernel_rfl) ?_;unfold Tryz.f54;simp only[Option.getD_some];simp only[go_sem];refine jF [(0,true),(1,true),(2,true),(3,true),(4,true),(5,true),(6,true),(7,true),(8,true),(9,true),(10,true),(11,false),(12,true)] (by kernel_rfl) ?_;simp only[go_sem,g2,b2];have hfill:∀(E:Option (List AV)) (F:List AV→Prop),E=some (iY (yG x kind dual near limited 0))→F (iY (yG x kind dual near limited 0))→bD E F:=fun E F h hF=>by rw[h];exact hF
 refine hfill _ _ (by kernel_rfl) ?_;refine⟨by rw[oR];omega,?_⟩;refine aL fun js hjs0=>?_
 generalize hHA:aI bX js _=HA;have R:HA js=some (gR (yG x kind dual near limited (mF x 0))):=by rw[←hHA,aA];rfl
 clear hHA hjs0;simp only[go_sem];refine⟨fun ρ H=>∃(k:Nat),k≤x.orders.length∧ρ 5=.rp (aS x) 0∧ρ 11=.op js 0 0∧ρ 12=int k∧H js=some (gR (yG x kind dual near limited (mF x k))),fun ρ _=>x.orders.length-bE (ρ 12),⟨0,Nat.zero_le _,by simp only[go_sem],by simp only[go_sem],(by simp only[go_sem];rfl),R⟩,?_⟩;rintro ρ H ⟨k,hk,e5,e11,e12,R⟩;simp only[go_sem,e5,e11,e12];refine aB (fun hlt=>?_) (fun hge=>?_)
 · have hlt:=ltB (by simpa using hlt)
   have b1:=inB hlt;have g1:=aH (f:=aV) (jC hlt);have hs:=vQ x k;have hml:=xW x k;unfold Lv at hs;have hv:=DX x k hlt (by omega);have hvl:=Sq.rX (aF x k) (k:Nat);generalize mF x k=m at *;simp only[go_sem,e5,e11,e12,g1,b1];refine dW (fun ρ' H'=>ρ' 5=.rp (aS x) 0∧ρ' 11=.op js 0 0∧ρ' 12=int (k:Nat)∧H' js=some (gR (yG x kind dual near limited (mF x (k+1))))) ?_ fun K hK hKe hKr=>aB (fun hb=>?_) (fun hb=>?_)
   rotate_left
   · have hof:(aF x k).off=false:=by simpa using hb
     rw[if_neg (by rw[hof];simp)]at hs;rw[hs]at hK;generalize Sq.fC (aF x k) (k:Nat)=vs at *;have w1:IntKind.i64.wrap (((yG x kind dual near limited m).most:Int)+(vs.length:Int))=((m+vs.length:Nat):Int):=by
       show IntKind.i64.wrap ((m:Int)+(vs.length:Int))=_;rw[aQ (by omega)];rfl
     simp only[go_sem];refine sY [] (.q 0 (.q 1 (.q 2 (.q 3 (.q 5 (.q 6 (.q 7 (.a2 4 (.a1 8 (.q 9 (.q 10 (.q 11 (.q 12 (.a1 13 .nil)))))) 8 (.q 9 (.a1 4 (.q 10 (.q 11 (.q 12 (.a1 13 .nil))))))))))))))  (fun ρ' H'=>ρ' 5=.rp (aS x) 0∧ρ' 11=.op js 0 0∧ρ' 12=int (k:Nat)∧H' js=some (gR (yG x kind dual near limited (m+vs.length)))) (by simp) (by kernel_rfl) (fun K' hK' Hp Hr hp hr _ _=>?_) ?_
     · obtain rfl:Hr=H:=funext fun k=>hr k (by simp)
       have hG:∀z,z=[iY (yG x kind dual near limited (m+vs.length))]→aI Hr js (some (⟨108,28,z⟩:Row)) js=some (gR (yG x kind dual near limited (m+vs.length))):=fun z hz=>by rw[aA,hz]
       simp only[go_sem,e5,e11,e12];refine lG ?_ ?_
       · simp only[go_sem,e5,e11,e12,R]
         refine PC.use hv ?_;simp only[go_sem,e5,e11,e12,R,List.length_map,w1];refine cD so3 R (by simp[oR]) ?_;simp only[go_sem];refine fJ (fun _ _=>rfl) (by simp) (hK' _ _ ⟨by simp only[go_sem,e5,e11,e12],by simp only[go_sem,e5,e11,e12],by simp only[go_sem,e5,e11,e12],hG _ rfl⟩)
       · simp only[go_sem,e5,e11,e12,R]
         refine PC.use hv ?_;simp only[go_sem,e5,e11,e12,R,List.length_map,w1];refine cD so3 R (by simp[oR]) ?_;simp only[go_sem];refine fJ (fun _ _=>rfl) (by simp) (hK' _ _ ⟨by simp only[go_sem,e5,e11,e12],by simp only[go_sem,e5,e11,e12],by simp only[go_sem,e5,e11,e12],hG _ rfl⟩)
     rintro ρ H ⟨e5,e11,e12,R⟩;exact hK _ _ ⟨e5,e11,e12,R⟩
   · have hof:(aF x k).off=true:=by simpa using hb
     rw[if_pos hof]at hs;rw[hs]at hK;simp only[go_sem];exact hK _ _ ⟨by simp only[go_sem,e5,e11,e12],by simp only[go_sem,e5,e11,e12],by simp only[go_sem,e5,e11,e12],R⟩
   rintro ρ H ⟨e5,e11,e12,R⟩;simp only[go_sem,e5,e11,e12,bA (show k≤4611686018427387904 by omega)];exact⟨⟨k+1,hlt,rfl,R⟩,by simp only[aJ];omega⟩
 have hge:=geB hk (by simpa using hge);subst hge;simp only[go_sem,e5,e11,e12];generalize hM:mF x x.orders.length=M at *;have hHB:∃HB,HB=H:=⟨H,rfl⟩;obtain⟨HB,hHB⟩:=hHB;rw[←hHB]at R ⊢;clear hHB;refine sY [js] (.q 0 (.q 1 (.q 2 (.q 3 (.q 4 (.q 5 (.q 6 (.q 7 (.q 8 (.q 9 (.q 10 (.q 11 (.q 12 (.q 13 (.q 14 (.a2 15 (.a2 16 (.q 17 (.a1 18 (.a1 19 .nil))) 18 (.a1 16 (.q 17 (.a1 19 .nil)))) 18 (.a1 15 (.a1 16 (.q 17 (.a1 19 .nil)))))))))))))))))))) (fun ρ' H'=>ρ' 11=.op js 0 0∧∃j13 jl,ρ' 13=.op j13 0 0∧H' js=some (gR (yG x kind dual near limited M))∧H' j13=some (yW (aD x kind) (.os jl))∧H' jl=some (kR [])∧js≠j13∧js≠jl∧j13≠jl) (by simp[R]) (by kernel_rfl) (fun K' hK' Hp Hr hp hr hp0 hr0=>?_) ?_
 · have P_R:=(hp js (by simp)).trans R
   simp only[go_sem,e5,e11,e12,P_R];have hEnd : ∀ (ρ' : Env) (j13 jl : Nat) (z : Row) (row : Row), aI Hr j13 (some z) jl = none → ρ' 11 = .op js 0 0 → ρ' 13 = .op j13 0 0 → row = yW (aD x kind) (.os jl) →
       lM [js] HB K' ρ' (aI (aI (aI Hr j13 (some z)) jl (some (⟨3,1,[]⟩:Row))) j13 (some row)):=by
     intro ρ' j13 jl z row hjl h11 h13 hrow;have n1:jl≠j13:=fun e=>by subst e;rw[aA]at hjl;cases hjl
     refine kO fun hz Hm h1 h2=>?_
     have z1:=hz js (by simp);have n2:js≠j13:=fun e=>by rw[←e,aA]at z1;cases z1
     have n3:js≠jl:=fun e=>by rw[aC _ _ _ _ n2,←e,aA]at z1;cases z1
     refine hK' _ _ ⟨h11,j13,jl,h13,(h1 js (by simp)).trans R,?_,?_,n2,n3,n1.symm⟩
     · rw[h2 j13 (by simp[n2.symm]),aA,hrow]
     · rw[h2 jl (by simp[n3.symm]),aC _ _ _ _ n1,aA];rfl
   refine lG ?_ ?_
   · simp only[go_sem,e5,e11,e12]
     refine lG ?_ ?_
     · simp only[go_sem,e5,e11,e12,P_R]
       refine PC.use (AJ (aD x kind) [⟨(aD x kind).start,0⟩] (Nat.le_of_ble_eq_true rfl)) ?_;simp only[go_sem,e5,e11,e12,P_R];refine aL fun j13 h13=>?_
       simp only[go_sem];refine Bh 6 3 1 ⟨rfl,by decide⟩ (aA _ _ _) (by simp) fun jl hjl=>?_
       simp only[go_sem];exact hEnd _ _ _ _ _ hjl (by simp only[go_sem,e5,e11,e12]) (by simp only[go_sem]) (by rw[yW,←RZ];rfl)
     · simp only[go_sem,e5,e11,e12,P_R]
       refine aL fun j13 h13=>?_
       simp only[go_sem,e5,e11,e12,P_R];refine PC.use (AJ (aD x kind) [⟨(aD x kind).start,0⟩] (Nat.le_of_ble_eq_true rfl)) ?_;simp only[go_sem,e5,e11,e12,P_R];refine Bh 6 3 1 ⟨rfl,by decide⟩ (aA _ _ _) (by simp) fun jl hjl=>?_
       simp only[go_sem];exact hEnd _ _ _ _ _ hjl (by simp only[go_sem,e5,e11,e12]) (by simp only[go_sem]) (by rw[yW,←RZ];rfl)
   · simp only[go_sem,e5,e11,e12,P_R]
     refine aL fun j13 h13=>?_
     simp only[go_sem,e5,e11,e12,P_R];refine PC.use (AJ (aD x kind) [⟨(aD x kind).start,0⟩] (Nat.le_of_ble_eq_true rfl)) ?_;simp only[go_sem,e5,e11,e12,P_R];refine Bh 6 3 1 ⟨rfl,by decide⟩ (aA _ _ _) (by simp) fun jl hjl=>?_
     simp only[go_sem];exact hEnd _ _ _ _ _ hjl (by simp only[go_sem,e5,e11,e12]) (by simp only[go_sem]) (by rw[yW,←RZ];rfl)
 rintro ρ HC ⟨e11,j13,jl,e13,R,R13,Rl,n1,n2,n3⟩;simp only[go_sem,e11,e13];refine⟨fun ρ H=>∃(k:Nat) (jl:Nat),k≤(aD x kind).cap.length∧ρ 11=.op js 0 0∧ρ 13=.op j13 0 0∧ρ 14=int k∧H js=some (gR (yG x kind dual near limited M))∧H j13=some (yW (aD x kind) (.os jl))∧H jl=some (kR (List.replicate k 0))∧js≠j13∧js≠jl∧j13≠jl,fun ρ _=>(aD x kind).cap.length-bE (ρ 14),⟨0,jl,Nat.zero_le _,by simp only[go_sem,e11,e13],by simp only[go_sem,e11,e13],(by simp only[go_sem,e11,e13];rfl),R,R13,Rl,n1,n2,n3⟩,?_⟩;rintro ρ H ⟨k,jl,hk,e11,e13,e14,R,R13,Rl,n1,n2,n3⟩;simp only[go_sem,e11,e13,e14,R];refine aB (fun hlt=>?_) (fun hge=>?_)
 · have hlt : k < (aD x kind).cap.length := by
     have h0:=hlt;simp at h0;exact h0
   simp only[go_sem,e11,e13,e14,R13];refine aX Rl ⟨rfl,rfl⟩ (by simp only[go_sem]) (by simp only[List.length_map,List.length_replicate,List.length_cons,List.length_nil];omega) (fun j2 hj2=>?_);have m1:js≠j2:=aN R hj2;have m2:j13≠j2:=aN R13 hj2;generalize hG:aI (aI H jl none) j2 _=HG;have G13:HG j13=some (yW (aD x kind) (.os jl)):=by rw[←hG,aC _ _ _ _ m2,aC _ _ _ _ n3];exact R13
   have GR:HG js=some (gR (yG x kind dual near limited M)):=by rw[←hG,aC _ _ _ _ m1,aC _ _ _ _ n2];exact R
   have Gl:HG j2=some (kR (List.replicate (k+1) 0)):=by
     rw[←hG,aA,List.replicate_succ'];refine congrArg (fun l=>some (⟨3,1,l⟩:Row)) ?_;rw[List.map_append];rfl
   clear hG;simp only[go_sem,e11,e13,e14,G13];refine cD RB G13 (by simp) ?_;simp only[go_sem,e11,e13,e14,bA (show k≤4611686018427387904 by omega)];refine⟨⟨k+1,j2,hlt,rfl,?_,?_,?_,n1,m1,m2⟩,by simp only[aJ];omega⟩
   · rw[aC _ _ _ _ n1];exact GR
   · rfl
   · rw[aC _ _ _ _ m2.symm];exact Gl
 have hge:k=(aD x kind).cap.length:=by
   have h0:=hge;simp at h0;exact Nat.le_antisymm hk h0
 subst hge;simp only[go_sem,e11,e13,e14,R13];refine X5 [jl] (jN (zO (aD x kind) (aD x kind).cap.length)) ⟨.inl rfl,.inl rfl,.inl rfl,.inl rfl,.inl rfl,.inl rfl,.inr ⟨jl,_,by simp,rfl,Rl,rfl⟩,.inl rfl,.inl rfl,.inl rfl,trivial⟩ fun Hq _ hq1=>?_
 have R:=(hq1 js (by simp[n2])).trans R;simp only[go_sem,e11,e13,e14];have hI:RInv x.orders.length D (zO (aD x kind) (aD x kind).cap.length):=⟨by show 0<_;decide,Nat.two_pow_pos _,by show(List.replicate _ _).length=D;rw[List.length_replicate];exact hB.cap,by show(cO _ _).length≤_;rw[yZ];exact Nat.le_refl 2,by show(dec 0).size≤8194;rw[←RZ];decide⟩;refine MC.use (Kv D js M (yG x kind dual near limited M) hB (by show ByteArray.empty.size≤_;decide) Hq R (zO (aD x kind) (aD x kind).cap.length) hI (by show M≤0+M;omega) (Nat.zero_le _)) ?_;simp only[go_sem,e11,e13,e14];exact⟨js,rfl,by rw[aA,←hM];rfl⟩
end Go.Proofs.YtdlijlecpopadaaGreatDoor.Rx
end

section
set_option linter.unusedSimpArgs false
set_option linter.unusedVariables false
namespace Go.Proofs.YtdlijlecpopadaaGreatDoor.Rx
open Go.Aw Go.Aw.D Go.Proofs Ty Go.Nu Go.So
open Sq (W jX eK kE NetOk)
open Nu (ltB geB)
open Mv (gC fF kJ NC.pc bQ)
set_option maxRecDepth 100000
theorem Fz{x:Instance}{near:List Int}(h:kZ x near=true)(hn:x.orders.length≤10):near.length=x.orders.length∧NearB near:=by
 unfold kZ at h;rw[Bool.and_eq_true,List.all_eq_true]at h;have hl:near.length=x.orders.length:=by have:=h.1;simp at this;omega
 refine⟨hl,by omega,fun n hm=>?_⟩;obtain⟨i,hi,rfl⟩:=List.getElem_of_mem hm;have hb:=h.2 i (List.mem_range.2 hi);unfold qF at hb;rw[List.getD,List.getElem?_eq_getElem hi]at hb;simp only[Option.getD_some,Bool.not_eq_true',Bool.or_eq_false_iff,decide_eq_false_iff_not]at hb;have h1:((2^near.length:Nat):Int)≤((2^10:Nat):Int):=by
   have:=Nat.pow_le_pow_right (n:=2) (by omega) (show near.length≤10 by omega);omega
 have:=hb.1;refine⟨by omega,?_⟩;have:((2^10:Nat):Int)=1024:=by decide
 omega
end Go.Proofs.YtdlijlecpopadaaGreatDoor.Rx
end

section
set_option linter.unusedSimpArgs false
set_option linter.unusedVariables false
namespace Go.Proofs.YtdlijlecpopadaaGreatDoor.Rx
open Go.Aw Go.Aw.D Go.Proofs Ty Go.Nu Go.So
open Sq (W jX eK kE NetOk dM jU)
open Nu (ltB geB Cp vV lP wO pO)
open Mv (gC fF kJ NC.pc bQ)
set_option maxRecDepth 100000
structure XR(D:Nat)(x:Instance):Prop where
 net:Sq.NetB x.net
 dim:∀o,o<x.orders.length→(aF x o).load.length=D
 cap:∀k,k<x.types.length→(aD x k).cap.length=D
 D:D≤1048576
 n:x.orders.length≤8
def AY(x:Instance)(kind:Int):Bool:=decide (kind<0)||decide (kind≥(x.types.length:Int))
def pH(x:Instance)(kind:Int)(dual:List ByteArray)(near:List Int):ByteArray×Bool×Int:=
 if(AY x kind||(dual.length:Int) != (x.orders.length:Int)|| !kZ x near)=true then(emp,false,2)
 else if(dual.any fun a=> !bS a)=true then(emp,false,3)
 else
   let s:=sA x kind.toNat dual near false
   (s.least,s.found,0)
theorem rs_b{D : Nat}{x : Instance}(h : XR D x){kind : Nat}(hk : kind < x.types.length){near : List Int}(hl : kZ x near = true){dual : List ByteArray}(hd : dual.length = x.orders.length)(hds : ∀ a ∈ dual, a.size ≤ 1048576)(lim : Bool):
   RsB D (yG x kind dual near lim (mF x x.orders.length)):=by
 have hn:=h.n;obtain⟨l1,l2⟩:=Fz hl (by omega);have hm:=xW x x.orders.length;exact⟨⟨h.net,l2,l1,hd,hds⟩,h.dim,h.cap kind hk,h.D,by show x.orders.length≤60;omega,by show mF x x.orders.length≤16;omega⟩
theorem TO{x:Instance}{kind:Int}(h:AY x kind=false):∃k:Nat,kind=(k:Nat)∧k<x.types.length:=by
 unfold AY at h;simp only[Bool.or_eq_false_iff,decide_eq_false_iff_not]at h;exact⟨kind.toNat,by omega,by omega⟩
theorem Q8{D : Nat}(x : Instance)(h : XR D x)(kind : Int)(dual : List ByteArray)(near : List Int)(hnl : near.length ≤ 1048576)(hdl : dual.length ≤ 1048576)(hds : ∀ a ∈ dual, a.size ≤ 1048576):
   PC Tryz.prog 20 [.agg (aS x),int kind,.sl (dual.map Go.Aw.D.eH),.sl (near.map aO)] (.tup [str (pH x kind dual near).1,boo (pH x kind dual near).2.1,int (pH x kind dual near).2.2]):=by
 have hn:=h.n;have hL:=Um x near (by omega) hnl;have eR:pH x kind dual near=if(AY x kind||(dual.length:Int) != (x.orders.length:Int)|| !kZ x near)=true then(emp,false,2)
   else if(dual.any fun a=> !bS a)=true then(emp,false,3)
   else
     let s:=sA x kind.toNat dual near false
     (s.least,s.found,0):=rfl
 generalize pH x kind dual near=R at eR;refine PC.body (c:=Tryz.f20.body.getD .skip) (fun _=>false) mixed Tryz.func20 rfl (by kernel_rfl) ?_;unfold Tryz.f20;simp only[Option.getD_some];simp only[go_sem];refine⟨_,fun _=>hL.q rfl,?_⟩;simp only[go_sem];refine aB (fun hb=>?_) (fun hb=>?_)
 · have hb2:(AY x kind||(dual.length:Int) != (x.orders.length:Int)|| !kZ x near)=true:=by simpa[AY]using hb
   rw[if_pos hb2]at eR;subst eR;simp only[go_sem];exact .refl _
 have hb2:(AY x kind||(dual.length:Int) != (x.orders.length:Int)|| !kZ x near)=false:=by simpa[AY]using hb
 rw[if_neg (fun h=>Bool.noConfusion (hb2.symm.trans h))]at eR;rw[Bool.or_eq_false_iff,Bool.or_eq_false_iff]at hb2;obtain⟨⟨q1,q2⟩,q3⟩:=hb2;obtain⟨k0,rfl,hk0⟩:=TO q1;have hl:kZ x near=true:=by simpa using q3
 have hdn:dual.length=x.orders.length:=by simp at q2;omega
 rw[Int.toNat_natCast]at eR;simp only[go_sem];refine⟨fun ρ H=>∃(k:Nat),k≤dual.length∧ρ 1=int (k0:Nat)∧ρ 2=.sl (dual.map Go.Aw.D.eH)∧ρ 3=.sl (near.map aO)∧ρ 4=.rp (aS x) 0∧ρ 11=int k∧(∀a,a∈dual.take k→bS a=true),fun ρ _=>dual.length-bE (ρ 11),⟨0,Nat.zero_le _,by simp only[go_sem],by simp only[go_sem],by simp only[go_sem],by simp only[go_sem],(by simp only[go_sem];rfl),by intro a ha;simp at ha⟩,?_⟩;rintro ρ H ⟨k,hk,e1,e2,e3,e4,e11,hz⟩;simp only[go_sem,e1,e2,e3,e4,e11];refine aB (fun hlt=>?_) (fun hge=>?_)
 · have hlt:=ltB (by simpa using hlt)
   obtain⟨a,ha⟩:=aU hlt;have b1:=inB hlt;have hsz:=hds a (List.mem_of_getElem? ha);simp only[go_sem,e1,e2,e3,e4,e11,aH ha,b1];refine PC.use (pO a hsz) ?_;simp only[go_sem,e1,e2,e3,e4,e11];refine aB (fun hb=>?_) (fun hb=>?_)
   · have hany:(dual.any fun a=> !bS a)=true:=List.any_eq_true.2 ⟨a,List.mem_of_getElem? ha,hb⟩
     rw[if_pos hany]at eR;subst eR;simp only[go_sem];exact .refl _
   · simp only[go_sem,e1,e2,e3,e4,e11,bA (show k≤4611686018427387904 by omega)]
     refine⟨⟨k+1,hlt,rfl,fun b hbm=>?_⟩,by simp only[aJ];omega⟩;rw[cL ha,List.mem_append]at hbm;rcases hbm with hbm|hbm
     · exact hz b hbm
     · simp at hbm;subst hbm;simpa using hb
 have hge:=geB hk (by simpa using hge);subst hge;rw[List.take_length]at hz;have hany:¬(dual.any fun a=> !bS a)=true:=fun h=>by
   obtain⟨a,ha,h2⟩:=List.any_eq_true.1 h;rw[hz a ha]at h2;cases h2
 rw[if_neg hany]at eR;simp only[go_sem,e1,e2,e3,e4,e11];have hcap:=h.cap k0 hk0;have hDD:=h.D;refine NC.use (S9 D x k0 dual near false hk0 (by omega) (by omega) (rs_b h hk0 hl hdn hds false)) fun js hjs=>?_
 generalize sA x k0 dual near false=s at eR ⊢;have RS:aI H js (some (gR s)) js=some (gR s):=aA _ _ _;generalize aI H js (some (gR s))=HB at RS ⊢;simp only[go_sem,e1,e2,e3,e4,e11,RS];refine dH [js] [(0,true),(1,true),(2,true),(3,true),(4,true),(5,true),(6,true),(7,true),(8,true),(9,true),(10,true)] (by simp[RS]) (by kernel_rfl) fun Hp Hr hp hr _ hr0=>?_
 have P_RS:=(hp js (by simp)).trans RS;simp only[go_sem,e1,e2,e3,e4,e11,P_RS];refine dV hr ?_;subst eR;simp only[go_sem];exact .refl _
end Go.Proofs.YtdlijlecpopadaaGreatDoor.Rx
end

section
set_option linter.unusedSimpArgs false
set_option linter.unusedVariables false
namespace Go.Proofs.YtdlijlecpopadaaGreatDoor.Rx
open Go.Aw Go.Aw.D Go.Proofs Ty
open Sq
set_option maxRecDepth 100000
theorem pM{l:List Point}{i:Nat}(h:i<l.length):dJ l i∈l:=by
 rw[cY (List.getElem?_eq_getElem h)];exact List.getElem_mem h
theorem JP{p:Point}{t:Int}(hp:0≤p.t∧p.t≤4096∧p.t≤p.a∧p.a≤p.t+4096)(ht:0≤t∧t≤12288):0≤sN p t∧sN p t≤100000000:=by
 unfold sN;rw[bP (n:=t+p.a) (by omega),bP (by omega)];omega
theorem Uw{p q:Point}{t:Int}(hp:0≤p.t∧p.t≤4096∧p.t≤p.a∧p.a≤p.t+4096)(hq:0≤q.t∧q.t≤4096∧q.t≤q.a∧q.a≤q.t+4096)(ha:p.a≤q.a)(h1:p.t≤t)(h2:t<q.t):0≤Bb p q t∧Bb p q t≤100000000:=by
 unfold Bb;have hx:0≤t-p.t∧t-p.t≤4096:=by omega
 have hy:0≤q.a-p.a∧q.a-p.a≤8192:=by omega
 have hm0:0≤(t-p.t)*(q.a-p.a):=Int.mul_nonneg hx.1 hy.1;have hm1:(t-p.t)*(q.a-p.a)≤4096*8192:=Int.mul_le_mul hx.2 hy.2 hy.1 (by omega);rw[bP (n:=t-p.t) (by omega),bP (n:=q.a-p.a) (by omega),bP (n:=(t-p.t)*(q.a-p.a)) (by omega),bP (n:=q.t-p.t) (by omega)];generalize (t-p.t)*(q.a-p.a)=m at hm0 hm1;rw[bP (n:=m+q.t) (by omega),bP (n:=m+q.t-p.t) (by omega),bP (n:=m+q.t-p.t-1) (by omega),Int.tdiv_eq_ediv_of_nonneg (by omega)];have d0:0≤(m+q.t-p.t-1)/(q.t-p.t):=Int.ediv_nonneg (by omega) (by omega);have d1:(m+q.t-p.t-1)/(q.t-p.t)≤m+q.t-p.t-1:=Int.ediv_le_self _ (by omega);have e:IntKind.i64.wrap ((m+q.t-p.t-1)/(q.t-p.t))=(m+q.t-p.t-1)/(q.t-p.t):=bP (by omega);rw[e,bP (by omega)];omega
theorem PO{l:List Point}{t:Int}(h:hU l=[])(ht:0≤t∧t≤12288):0≤eY l t∧eY l t≤100000000:=by
 have hb:=CS h;have hl:=hb.len;unfold eY;split
 · omega
 · split
   · rename_i k hk
     have hs:=List.find?_some hk;have hm:=List.mem_range.1 (List.mem_of_find?_eq_some hk);simp only[kS,Bool.and_eq_true,decide_eq_true_eq]at hs;have:=hb.mono k (by omega);exact Uw (hb.pt _ (pM (by omega))) (hb.pt _ (pM (by omega))) this.2 hs.1 hs.2
   · split
     · exact JP (hb.pt _ (pM (by omega))) ht
     · exact JP (hb.pt _ (pM (by omega))) ht
theorem JV{t:Int}:∀(l:List Point) (s B:Int),(∀p∈l,0≤p.a∧p.a≤4096)→0≤s∧s≤B→B+4096*l.length≤1000000000000→0≤l.foldl (kG t) s∧l.foldl (kG t) s≤B+4096*l.length
 | [],s,B,_,hs,_=>by simpa using hs
 | p::l,s,B,hp,hs,hB=>by
   have h1:=hp p (by simp);simp only[List.length_cons,List.foldl_cons]at hB ⊢;have e:0≤kG t s p∧kG t s p≤B+4096:=by
     unfold kG;split
     · rw[bP (by omega)];omega
     · omega
   have:=JV (t:=t) l (kG t s p) (B+4096) (fun q hq=>hp q (by simp[hq])) e (by omega);omega
theorem MK{a:Arc}{t:Int}(h:ArcOk a)(ht:0≤t∧t≤12288):0≤mM a t∧mM a t≤1000000000:=by
 have h1:=PO h.travel ht;have h2:=h.slow;have:=JV (t:=t) a.slow _ 100000000 (fun p hp=>(h.pt p hp).2) h1 (by omega);unfold mM;omega
theorem adV{s c:Nat}(hs:s<2^63)(hc:c<2^63):rH .andNot .i64 (s:Int) (c:Int)=0↔∀i,i<63→¬(s.testBit i=true∧c.testBit i=false):=by
 have h1:((s:Int)%((2^64:Nat):Int)).toNat=s:=by omega
 have h2:((c:Int)%((2^64:Nat):Int)).toNat=c:=by omega
 have hm:(BitVec.ofInt 64 (s:Int) &&& ~~~(BitVec.ofInt 64 (c:Int))).toNat<2^63:=by
   rw[BitVec.toNat_and,BitVec.toNat_ofInt,h1];exact Nat.lt_of_le_of_lt Nat.and_le_left hs
 have e:rH .andNot .i64 (s:Int) (c:Int)=(((BitVec.ofInt 64 (s:Int) &&& ~~~(BitVec.ofInt 64 (c:Int))).toNat:Nat):Int):=by
   exact aQ (n:=(((BitVec.ofInt 64 (s:Int) &&& ~~~(BitVec.ofInt 64 (c:Int))).toNat:Nat):Int)) (by omega)
 have hbit:∀i,i<64→(BitVec.ofInt 64 (s:Int) &&& ~~~(BitVec.ofInt 64 (c:Int))).toNat.testBit i=(s.testBit i&& !c.testBit i):=fun i hi=>by
   rw[BitVec.testBit_toNat,BitVec.getLsbD_and,BitVec.getLsbD_not];have a1:(BitVec.ofInt 64 (s:Int)).getLsbD i=s.testBit i:=by rw[←BitVec.testBit_toNat,BitVec.toNat_ofInt,h1]
   have a2:(BitVec.ofInt 64 (c:Int)).getLsbD i=c.testBit i:=by rw[←BitVec.testBit_toNat,BitVec.toNat_ofInt,h2]
   rw[a1,a2,decide_eq_true hi];simp
 rw[e];constructor
 · intro h0 i hi hc2
   have h0:(BitVec.ofInt 64 (s:Int) &&& ~~~(BitVec.ofInt 64 (c:Int))).toNat=0:=by omega
   have:=hbit i (by omega);rw[h0,hc2.1,hc2.2]at this;simp at this
 · intro hz
   have:(BitVec.ofInt 64 (s:Int) &&& ~~~(BitVec.ofInt 64 (c:Int))).toNat=0:=by
     refine Nat.eq_of_testBit_eq fun i=>?_
     rw[Nat.zero_testBit];by_cases hi:i<63
     · rw[hbit i (by omega)]
       have:=hz i hi;cases h3:s.testBit i <;> cases h4:c.testBit i <;> simp_all
     · refine Nat.testBit_lt_two_pow (Nat.lt_of_lt_of_le hm (Nat.pow_le_pow_right (by decide) (by omega)))
   omega
theorem IK{s i:Nat}(hs:s<2^63):((IntKind.i64.wrap (Int.tdiv (s:Int) ((2^i:Nat):Int))).tmod 2 == 1)=s.testBit i:=by
 have e:Int.tdiv (s:Int) ((2^i:Nat):Int)=((s/2^i:Nat):Int):=by
   rw[Int.tdiv_eq_ediv_of_nonneg (by omega)];norm_cast
 have hle:s/2^i≤s:=Nat.div_le_self _ _;rw[e,Nat.testBit_eq_decide_div_mod_eq];generalize s/2^i=q at hle;rw[show IntKind.i64.wrap (q:Int)=(q:Int)from aQ (by omega),Int.tmod_eq_emod_of_nonneg (by omega)];rw[Bool.eq_iff_iff];simp only[beq_iff_eq,decide_eq_true_eq];omega
theorem GE{s i:Nat}(hs:s<2^63):((IntKind.i64.wrap (Int.tdiv (s:Int) ((2^i:Nat):Int))).tmod 2 == 0)= !s.testBit i:=by
 rw[←IK hs];have e:Int.tdiv (s:Int) ((2^i:Nat):Int)=((s/2^i:Nat):Int):=by
   rw[Int.tdiv_eq_ediv_of_nonneg (by omega)];norm_cast
 have hle:s/2^i≤s:=Nat.div_le_self _ _;rw[e];generalize s/2^i=q at hle;rw[show IntKind.i64.wrap (q:Int)=(q:Int)from aQ (by omega),Int.tmod_eq_emod_of_nonneg (by omega)];rw[Bool.eq_iff_iff];simp only[beq_iff_eq,Bool.not_eq_true',beq_eq_false_iff_ne,ne_eq];omega
theorem yC{c s:Int}(hc:0≤c∧c≤1073741823)(hs:0≤s∧s≤1073741823):nN c s=jU c s:=by
 obtain⟨c,rfl⟩:=Int.eq_ofNat_of_zero_le hc.1;obtain⟨s,rfl⟩:=Int.eq_ofNat_of_zero_le hs.1;have hc2:c<2^63:=by omega
 have hs2:s<2^63:=by omega
 unfold nN jU;rw[show decide ((c:Int)≥0)=true by simp,show decide ((s:Int)≥0)=true by simp,show decide ((c:Int)<0)=false by simp,show decide ((s:Int)<0)=false by simp];simp only[Bool.true_and,Bool.or_self,Bool.not_false];rw[Bool.eq_iff_iff,beq_iff_eq,adV hs2 hc2,List.all_eq_true];constructor
 · intro h i hi
   have:=h i (List.mem_range.1 hi);unfold uI;rw[IK hs2,GE hc2];cases h1:s.testBit i <;> cases h2:c.testBit i <;> simp_all
 · intro h i hi
   have:=h i (List.mem_range.2 hi);unfold uI at this;rw[IK hs2,GE hc2]at this;cases h1:s.testBit i <;> cases h2:c.testBit i <;> simp_all
theorem Je{s:Stop}(h:fB s=0)(h2:0≤s.place):(0≤s.start∧s.start≤s.close)∧s.close≤4096∧0≤s.service∧s.service≤4096:=by
 unfold fB at h;split at h
 · rename_i hz
   simp only[Go.Proofs.YtdlijlecpopadaaGreatDoor.kQ,Bool.and_eq_true,beq_iff_eq]at hz;omega
 · split at h
   · cases h
   · rename_i hb
     simp only[Hl,Bool.or_eq_true,decide_eq_true_eq]at hb;omega
theorem Rv{x:Instance}(h:Acc x):NetOk x.net:=⟨by have:=h.arcs;omega,fun a ha=>(h.arc a ha).travel,fun a ha=>by have:=(h.arc a ha).slow;omega⟩
theorem TE{x:Instance}(h:Acc x):NetB x.net:=⟨by have:=h.arcs;omega,fun a ha=>by
 have hb:=CS (h.arc a ha).travel;have:=(h.arc a ha).slow;exact⟨by have:=hb.len;omega,by omega,fun p hp=>by have:=hb.pt p hp;unfold Wm;omega⟩⟩
theorem kU{x:Instance}{o:Nat}(h:o<x.orders.length):aF x o∈x.orders:=List.mem_of_getElem? (jC h)
theorem uU{x:Instance}{k:Nat}(h:k<x.types.length):aD x k∈x.types:=by
 unfold aD;rw[List.getD,List.getElem?_eq_getElem h];exact List.getElem_mem h
def A1(x:Instance):Nat:=(mJ x.types).toNat
theorem CR{x:Instance}(h:Acc x){k:Nat}(hk:k<x.types.length):(aD x k).cap.length=A1 x:=by
 have:=L4 (h.type _ (uU hk)).cap;unfold A1;omega
theorem AZ{x:Instance}(h:Acc x){o:Nat}(ho:o<x.orders.length):(aF x o).load.length=A1 x:=by
 have h1:=(uR (h.order _ (kU ho)).load).1;unfold A1;omega
theorem Oj{x:Instance}(h:Acc x):A1 x≤3:=by
 have h1:=h.types;have:=L4 (h.type _ (uU (show 0<x.types.length by omega))).cap;unfold A1;omega
theorem ZT{x:Instance}(h:Acc x)(hn:x.orders.length≤8):XB (A1 x) x:=⟨Rv h,fun _ ho=>AZ h ho,fun _ hk=>CR h hk,by have:=Oj h;omega,hn,by have:=h.types;omega⟩
theorem ZZ{x:Instance}(h:Acc x)(hn:x.orders.length≤8):XR (A1 x) x:=⟨TE h,fun _ ho=>AZ h ho,fun _ hk=>CR h hk,by have:=Oj h;omega,hn⟩
theorem Ky{n:Nat}{near:List Int}(hl:near.length=n)(hn:n≤8)(i:Nat)(hi:i<n):pB n near i=qF near i:=by
 unfold pB qF;by_cases h0:near.getD i 0<0
 · rw[decide_eq_true h0];simp
 rw[decide_eq_false h0,Bool.false_or,Bool.false_or];obtain⟨m,hm⟩:=Int.eq_ofNat_of_zero_le (show 0≤near.getD i 0 by omega);rw[hm,hl,Ll (by omega) (by omega),NU (by omega),Int.toNat_natCast,Int.toNat_natCast,nL,Bool.or_comm]
 congr 1
 rw[Bool.eq_iff_iff];have e:(m:Int)/2^n=((m/2^n:Nat):Int):=by norm_cast
 rw[e];simp only[bne_iff_ne,ne_eq,decide_eq_true_eq];have hp:0<2^n:=Nat.two_pow_pos n;have hd:m/2^n=0↔m<2^n:=by rw[Nat.div_eq_zero_iff];omega
 generalize 2^n=z at *;generalize m/z=y at *;omega
theorem Q5{x:Instance}(hn:x.orders.length≤8)(kind:Int)(near:List Int):jI x kind near=(AY x kind|| !kZ x near):=by
 unfold jI AY kZ;by_cases hl:near.length=x.orders.length
 · have e:((near.length:Int) != (x.orders.length:Int))=false:=by rw[hl];simp
   rw[e,Bool.or_false,Bool.not_false,Bool.true_and]
   congr 1
   rw[Bool.eq_iff_iff];simp only[List.any_eq_true,Bool.not_eq_true',List.all_eq_false];constructor
   · rintro⟨i,hi,h⟩
     rw[Ky hl hn i (by have:=List.mem_range.1 hi;omega)]at h;exact⟨i,hi,by rw[h];simp⟩
   · rintro⟨i,hi,h⟩
     refine⟨i,hi,?_⟩;rw[Ky hl hn i (by have:=List.mem_range.1 hi;omega)];simpa using h
 · have e:((near.length:Int) != (x.orders.length:Int))=true:=by simp;omega
   rw[e];simp
end Go.Proofs.YtdlijlecpopadaaGreatDoor.Rx
end
