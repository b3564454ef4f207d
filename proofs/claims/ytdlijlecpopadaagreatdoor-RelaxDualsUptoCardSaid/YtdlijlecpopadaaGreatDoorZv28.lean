/- Texts joined by a program: RxG. -/
import Derived.Test.YtdlijlecpopadaaGreatDoorZv27
set_option linter.unusedSimpArgs false
set_option linter.unusedVariables false
set_option maxRecDepth 100000
namespace Go.Proofs.YtdlijlecpopadaaGreatDoor.Rx
open Go.Aw Go.Aw.D Go.Proofs Ty Go.Nu
open Sq (W dX mR pU qV gK iP dN iV NetOk)
open Nu (qN uH wL ltB geB lF)
open Mv (fF eI NC.pc bK)
structure PInv(D:Nat)(p:Part):Prop where
 ok:PartOk p
 load:p.load.length=D
 clk:p.clocks.length≤2^p.visits
structure WkB(D:Nat)(w:Wk):Prop where
 ok:WkOk w
 dim:∀o,o<w.x.orders.length→(aG w.x o).load.length=D
 D:D≤1048576
 n:w.x.orders.length≤62
 most:w.most≤16
structure VisOk(x:Instance)(v:Visit):Prop where
 ex:∃o:Nat,v.order=(o:Nat)∧o<x.orders.length
theorem GZ{D:Nat}{w:Wk}{p:Part}{o:Nat}{d:Bool}(hl:p.load.length=D)(ho:(aG w.x o).load.length=D):(eO w p o d).1.load.length=D:=by
 have hz:=Mg p.load (aG w.x o).load (by omega);unfold eO;split
 · show(pU p.load (aG w.x o).load).length=D;omega
 · split
   · split
     · show(qV p.load (aG w.x o).load).length=D;omega
     · exact hl
   · exact hl
theorem LK(s:Stop)(l:List Clk):(dP s l).length≤l.length:=by
 have:=CG s l l.length
 rwa [List.take_length]at this
theorem OV(n:Network)(t:VType)(a b:Int)(l:List Clk):(bF n t a b l).1.length≤2*l.length:=by
 have:=yS n t a b l l.length
 rwa [List.take_length]at this
theorem Am{D:Nat}{w:Wk}{p:Part}{v:Visit}(hw:WkB D w)(h:PInv D p)(hv:VisOk w.x v)(hn:(bX w p v).2=true):PInv D (bX w p v).1∧(bX w p v).1.visits=p.visits+1∧p.visits<w.most:=by
 obtain⟨o,hvo,ho⟩:=hv.ex;have hto:v.order.toNat=o:=by rw[hvo];rfl
 have ho61:o≤61:=by have:=hw.n;omega
 unfold bX at hn ⊢;rw[hto]at hn ⊢;by_cases h1:(decide ((p.visits:Int)≥(w.most:Int))||(aG w.x o).off|| !mR w.t.skills (aG w.x o).skills)=true
 · rw[if_pos h1]at hn;cases hn
 rw[if_neg h1]at hn ⊢;have hlt:p.visits<w.most:=by
   simp only[Bool.or_eq_true,decide_eq_true_eq,not_or]at h1;have:=h1.1.1;omega
 have hs:PartOk (if(!v.drop||decide ((aG w.x o).pick.place<0))=true then fH w p o else(p,true)).1∧(if(!v.drop||decide ((aG w.x o).pick.place<0))=true then fH w p o else(p,true)).1.load=p.load∧(if(!v.drop||decide ((aG w.x o).pick.place<0))=true then fH w p o else(p,true)).1.clocks=p.clocks∧(if(!v.drop||decide ((aG w.x o).pick.place<0))=true then fH w p o else(p,true)).1.visits=p.visits:=by
   split
   · have:=EC (w:=w) h.ok ho61
     exact⟨this.1,this.2.1,this.2.2.1,this.2.2.2.1⟩
   · exact⟨h.ok,rfl,rfl,rfl⟩
 generalize (if(!v.drop||decide ((aG w.x o).pick.place<0))=true then fH w p o else(p,true))=S at *;simp only at hn ⊢;by_cases h2:S.2=true
 · rw[if_pos h2]at hn ⊢
   obtain⟨hs1,hs2,hs3,hs4⟩:=hs;have hl:=CN (w:=w) (o:=o) (d:=v.drop) hs1 ho61;have hll:=GZ (D:=D) (w:=w) (p:=S.1) (o:=o) (d:=v.drop) (by rw[hs2];exact h.load) (hw.dim o ho);generalize eO w S.1 o v.drop=L at *;by_cases h3:L.2=true
   · rw[if_pos h3]at hn ⊢
     by_cases h4:((dN w.x v).2 != 0)=true
     · rw[if_pos h4]at hn;cases hn
     rw[if_neg h4]at hn ⊢;obtain⟨hl1,hl2,hl3,hl4⟩:=hl;have hc:L.1.clocks.length≤2^p.visits:=by rw[hl2,hs3];exact h.clk
     have hd:=OV w.x.net w.t L.1.place (dN w.x v).1.place L.1.clocks;have hsv:=LK (dN w.x v).1 (bF w.x.net w.t L.1.place (dN w.x v).1.place L.1.clocks).1;refine⟨⟨⟨hl1.mem,hl1.board,Nat.le_trans (vP _ _) (by decide)⟩,hll,?_⟩,?_,hlt⟩
     · show(dP (dN w.x v).1 (bF w.x.net w.t L.1.place (dN w.x v).1.place L.1.clocks).1).length≤2^(L.1.visits+1)
       rw[hl3,hs4,Nat.pow_succ];omega
     · show L.1.visits+1=_
       rw[hl3,hs4]
   · rw[if_neg h3]at hn;cases hn
 · rw[if_neg h2]at hn;cases hn
theorem GW{w:Wk}{p:Part}{v:Visit}(h:w.most≤p.visits):(bX w p v).2=false:=by
 unfold bX;rw[if_pos (by simp;left;left;omega)]
def Lb(w:Wk)(p:Part)(n:Int):Int:=if(iB w p).2.2=true then W (n+1)else n
def pR(w:Wk)(vs:List Visit):Nat→Part→Int→Int
 | 0,p,n=>Lb w p n
 | f+1,p,n=>vs.foldl (fun n v=>if n>8192 then n else if(bX w p v).2=true then pR w vs f (bX w p v).1 n else n) (Lb w p n)
def Re(w:Wk)(vs:List Visit):Nat→Part→Int→Int
 | 0,_,n=>n
 | f+1,q,n=>pR w vs f q n
def lB(w:Wk)(vs:List Visit)(f:Nat)(p:Part)(n:Int)(v:Visit):Int:=if n>8192 then n else if(bX w p v).2=true then Re w vs f (bX w p v).1 n else n
theorem Qd{w:Wk}{vs:List Visit}{f:Nat}{p:Part}(h:w.most≤p.visits+f)(n:Int):pR w vs f p n=vs.foldl (lB w vs f p) (Lb w p n):=by
 cases f with
 | zero=>
   have:∀(l:List Visit) (m:Int),l.foldl (lB w vs 0 p) m=m:=by
     intro l;induction l with
     | nil=>intro m;rfl
     | cons v l ih=>
       intro m;rw[List.foldl_cons,ih];unfold lB;split
       · rfl
       · rw[if_neg (by rw[GW (by omega)];simp)]
   rw[this];rfl
 | succ f=>rfl
theorem Nl(w:Wk)(vs:List Visit)(f:Nat)(p:Part):∀(l:List Visit) (m:Int),m>8192→l.foldl (lB w vs f p) m=m
 | [],m,_=>rfl
 | v::l,m,h=>by
   rw[List.foldl_cons];have:lB w vs f p m v=m:=if_pos h;rw[this];exact Nl w vs f p l m h
abbrev sG(v:Visit):Row:=⟨97,2,[cK v]⟩
theorem Ki{α:Type}{l:List α}{k:Nat}{c:α}(h:l[k]?=some c):l=l.take k++c::l.drop (k+1):=by
 have:=(List.getElem?_eq_some_iff.1 h);obtain⟨hlt,rfl⟩:=this;rw[List.getElem_cons_drop,List.take_append_drop]
theorem I9{α β:Type}{g:β→α→β}{b:β}{l:List α}{k:Nat}{v:α}(h:l[k]?=some v):l.foldl g b=(l.drop (k+1)).foldl g (g ((l.take k).foldl g b) v):=by
 conv=>lhs;rw[Ki h,List.foldl_append]
 rfl
theorem B6{D:Nat}{w:Wk}(hw:WkB D w)(vs:List Visit)(hvs:∀v∈vs,VisOk w.x v)(hvl:vs.length≤1048576)(jw:Nat)(f:Nat)
   (hrec:∀f',f=f'+1→∀(H0:aF) (hj:H0 jw=some (kX w)) (p:Part) (n:Int) (h:PInv D p) (hf:w.most≤p.visits+f') (hpv:p.visits≤16),LC Tryz.prog 55 [.op jw 0 0,.agg (bS p),.sl (vs.map cK),int n] H0 (int (pR w vs f' p n)))
   (H0:aF) (hj:H0 jw=some (kX w)) (p:Part) (n:Int) (h:PInv D p) (hf:w.most≤p.visits+f) (hpv:p.visits≤16):
   LC Tryz.prog 55 [.op jw 0 0,.agg (bS p),.sl (vs.map cK),int n] H0 (int (pR w vs f p n)):=by
 rw[Qd hf n];have hc20:p.clocks.length≤1048576:=Nat.le_trans h.clk (Nat.le_trans (Nat.pow_le_pow_right (by decide) hpv) (by decide));refine LC.body (c:=Tryz.f55.body.getD .skip) (fun _=>false) mixed Tryz.func55 rfl (by kernel_rfl) ?_;unfold Tryz.f55;simp only[Option.getD_some];simp only[go_sem];have U:=Sup.refl H0;refine LC.use (VY _ jw w hj p hw.ok hc20) ?_;simp only[go_sem];refine bD (fun ρ' H'=>ρ' 0=.op jw 0 0∧ρ' 2=.sl (vs.map cK)∧ρ' 5=.rp (bS p) 0∧ρ' 3=int (Lb w p n)∧Sup H0 H') ?_ fun K hK=>aA (fun hb=>?_) (fun hb=>?_)
 rotate_left
 · have e1:Lb w p n=W (n+1):=if_pos hb
   rw[e1]at hK;simp only[go_sem];refine hK _ _ ⟨by simp only[go_sem],by simp only[go_sem],by simp only[go_sem],(by simp only[go_sem];rfl),U⟩
 · have e1:Lb w p n=n:=if_neg (fun h=>Bool.noConfusion (hb.symm.trans h))
   rw[e1]at hK;refine hK _ _ ⟨by simp only[go_sem],by simp only[go_sem],by simp only[go_sem],by simp only[go_sem],U⟩
 rintro ρ H ⟨e0,e2,e5,e3,U⟩;generalize Lb w p n=c0 at *;simp only[go_sem,e0,e2,e5,e3,List.length_map];refine⟨fun ρ H=>∃(k:Nat),k≤vs.length∧ρ 0=.op jw 0 0∧ρ 2=.sl (vs.map cK)∧ρ 5=.rp (bS p) 0∧ρ 26=.sl (vs.map cK)∧ρ 27=int (vs.length:Nat)∧ρ 28=int k∧ρ 3=int ((vs.take k).foldl (lB w vs f p) c0)∧Sup H0 H,fun ρ _=>vs.length-bQ (ρ 28),⟨0,Nat.zero_le _,by simp only[go_sem,e0,e2,e5,e3],by simp only[go_sem,e0,e2,e5,e3],by simp only[go_sem,e0,e2,e5,e3],by simp only[go_sem,e0,e2,e5,e3],by simp only[go_sem,List.length_map,e0,e2,e5,e3],(by simp only[go_sem,e0,e2,e5,e3];rfl),by simp only[go_sem,e3];rfl,U⟩,?_⟩;rintro ρ H ⟨k,hk,e0,e2,e5,e26,e27,e28,e3,U⟩;simp only[go_sem,e0,e2,e5,e26,e27,e28,e3];refine aA (fun hlt=>?_) (fun hge=>?_)
 · have hlt:=ltB (by simpa using hlt)
   obtain⟨v,hv⟩:=bC hlt;have b1:=inB hlt;have hs:=Sq.iQ (f:=lB w vs f p) (b:=c0) hv;have hall:=I9 (g:=lB w vs f p) (b:=c0) hv;generalize (vs.take k).foldl (lB w vs f p) c0=m at *;simp only[go_sem,e0,e2,e5,e26,e27,e28,e3,aH hv,b1];refine aN fun i13 hi130=>?_
   simp only[go_sem,e0,e2,e5,e26,e27,e28,e3];refine aU (aB _ _ _) (by simp[oM]) ?_;have n_i13:=U.none hi130;generalize hGi13:aJ (aJ _ i13 _) i13 _=HGi13;replace U:=Sup.eq ((U.upd n_i13 _).upd n_i13 _) hGi13;have R13:HGi13 i13=some (sG v):=by rw[←hGi13,aB];try rfl
   clear hGi13 hi130;simp only[go_sem,e0,e2,e5,e26,e27,e28,e3,R13];refine aA (fun hb=>?_) (fun hb=>?_)
   · have hm:m>8192:=by simpa using hb
     have e1:lB w vs f p m v=m:=if_pos hm;rw[e1,Nl w vs f p _ m hm]at hall;simp only[go_sem,e0,e2,e5,e26,e27,e28,e3];rw[hall];exact rM.flat U _
   have hm:¬m>8192:=by simpa using hb
   have e1:lB w vs f p m v=if(bX w p v).2=true then Re w vs f (bX w p v).1 m else m:=if_neg hm;have hvo:=hvs v (List.mem_of_getElem? hv);obtain⟨o,hvo1,ho⟩:=hvo.ex;have hve:v=⟨(o:Nat),v.drop⟩:=by rw[←hvo1]
   simp only[go_sem,e0,e2,e5,e26,e27,e28,e3,R13];rw[hve];refine LC.use (QY _ jw w (U.at hj) p o v.drop ho hw.ok h.ok (by have:=hw.n;omega) (by rw[h.load,hw.dim o ho]) (by rw[h.load];exact hw.D) hc20 (by omega)) ?_;rw[←hve];have hnt:=Am hw h hvo;generalize bX w p v=q at *;simp only[go_sem,e0,e2,e5,e26,e27,e28,e3];refine aN fun i14 hi140=>?_
   simp only[go_sem,e0,e2,e5,e26,e27,e28,e3];refine aU (aB _ _ _) (by simp[bO]) ?_;have n_i14:=U.none hi140;generalize hGi14:aJ (aJ _ i14 _) i14 _=HGi14;replace U:=Sup.eq ((U.upd n_i14 _).upd n_i14 _) hGi14;have R14:HGi14 i14=some (eF q.1):=by rw[←hGi14,aB];try rfl
   clear hGi14 hi140;simp only[go_sem,e0,e2,e5,e26,e27,e28,e3,R14];refine fU (fun ρ' H'=>ρ' 0=.op jw 0 0∧ρ' 2=.sl (vs.map cK)∧ρ' 5=.rp (bS p) 0∧ρ' 26=.sl (vs.map cK)∧ρ' 27=int (vs.length:Nat)∧ρ' 28=int k∧ρ' 3=int (lB w vs f p m v)∧Sup H0 H') ?_ fun K hK _ _=>aA (fun hb=>?_) (fun hb=>?_)
   rotate_left
   · rw[if_pos hb]at e1
     obtain⟨q1,q2,q3⟩:=hnt hb;obtain⟨f',rfl⟩:∃f',f=f'+1:=⟨f-1,by omega⟩;simp only[go_sem,e0,e2,e5,e26,e27,e28,e3,R14];have hm16:=hw.most;refine LC.use (hrec f' rfl _ (U.at hj) q.1 m q1 (by omega) (by omega)) ?_;simp only[go_sem,e0,e2,e5,e26,e27,e28,e3];exact hK _ _ ⟨by simp only[go_sem,e0,e2,e5,e26,e27,e28,e3],by simp only[go_sem,e0,e2,e5,e26,e27,e28,e3],by simp only[go_sem,e0,e2,e5,e26,e27,e28,e3],by simp only[go_sem,e0,e2,e5,e26,e27,e28,e3],by simp only[go_sem,e0,e2,e5,e26,e27,e28,e3],by simp only[go_sem,e0,e2,e5,e26,e27,e28,e3],by simp only[go_sem];rw[e1];rfl,U⟩
   · rw[if_neg (fun h=>Bool.noConfusion (hb.symm.trans h))]at e1
     simp only[go_sem];exact hK _ _ ⟨by simp only[go_sem,e0,e2,e5,e26,e27,e28,e3],by simp only[go_sem,e0,e2,e5,e26,e27,e28,e3],by simp only[go_sem,e0,e2,e5,e26,e27,e28,e3],by simp only[go_sem,e0,e2,e5,e26,e27,e28,e3],by simp only[go_sem,e0,e2,e5,e26,e27,e28,e3],by simp only[go_sem,e0,e2,e5,e26,e27,e28,e3],by simp only[go_sem,e0,e2,e5,e26,e27,e28,e3];rw[e1],U⟩
   rintro ρ H ⟨e0,e2,e5,e26,e27,e28,e3,U⟩;simp only[go_sem,e0,e2,e5,e26,e27,e28,e3,bG (show k≤4611686018427387904 by omega)];exact⟨⟨k+1,hlt,rfl,by rw[hs],U⟩,by simp only[aI];omega⟩
 have hge:=geB hk (by simpa using hge);subst hge;rw[List.take_length]at e3;simp only[go_sem,e0,e2,e5,e26,e27,e28,e3];exact rM.flat U _
theorem MM{D:Nat}{w:Wk}(hw:WkB D w)(vs:List Visit)(hvs:∀v∈vs,VisOk w.x v)(hvl:vs.length≤1048576)(jw:Nat):∀(f:Nat) (H0:aF) (hj:H0 jw=some (kX w)) (p:Part) (n:Int) (h:PInv D p) (hf:w.most≤p.visits+f) (hpv:p.visits≤16),
   LC Tryz.prog 55 [.op jw 0 0,.agg (bS p),.sl (vs.map cK),int n] H0 (int (pR w vs f p n))
 | 0=>B6 hw vs hvs hvl jw 0 (fun f' e=>by omega)
 | f + 1 => B6 hw vs hvs hvl jw (f + 1) (fun f' e => by
     obtain rfl:f'=f:=by omega
     exact MM hw vs hvs hvl jw f')
structure XB(D:Nat)(x:Instance):Prop where
 net:NetOk x.net
 dim:∀o,o<x.orders.length→(aG x o).load.length=D
 cap:∀k,k<x.types.length→(aE x k).cap.length=D
 D:D≤1048576
 n:x.orders.length≤8
 types:x.types.length≤1048576
theorem J0{D:Nat}{x:Instance}(h:XB D x):(cQ x).length≤16:=by
 have:=yW x x.orders.length;have h2:=h.n;unfold cQ;omega
theorem MF(x:Instance):∀v∈cQ x,VisOk x v:=by
 intro v hv;unfold cQ at hv;rw[List.mem_flatMap]at hv;obtain⟨i,hi,hv⟩:=hv;have hi:=List.mem_range.1 hi;split at hv
 · simp at hv
 · refine⟨i,?_,hi⟩
   unfold Sq.iP at hv;split at hv
   · simp at hv
   · split at hv
     · unfold Sq.jH at hv
       simp only[List.mem_append]at hv;rcases hv with hv|hv
       · split at hv
         · simp at hv;rw[hv]
         · simp at hv
       · split at hv
         · simp at hv;rw[hv]
         · simp at hv
     · simp at hv
theorem U6{n:Nat}{near:List Int}(hn:n≤62)(hl:near.length≤62)(h:∀i,i<near.length→nH n near i=false):NearB near:=by
 refine⟨hl,fun a ha=>?_⟩;obtain⟨i,hi,rfl⟩:=List.getElem_of_mem ha;have:=h i hi;unfold nH at this;rw[List.getD,List.getElem?_eq_getElem hi,Option.getD_some,Sq.LL (by omega)]at this;simp only[Bool.or_eq_false_iff,decide_eq_false_iff_not]at this;obtain⟨⟨h1,h2⟩,h3⟩:=this;have h3:near[i]/2^n=0:=by simpa using h3
 have h4:near[i]<2^n:=by
   have hp:(0:Int)<2^n:=Int.pow_pos (by decide);have h5:=Int.emod_add_mul_ediv near[i] (2^n);have h6:=Int.emod_lt_of_pos near[i] hp;rw[h3]at h5;omega
 have h5:(2:Int)^n≤2^62:=by
   have:=Nat.pow_le_pow_right (show 0<2 by decide) hn
   exact_mod_cast this
 exact⟨by omega,by omega⟩
theorem QP{D:Nat}{x:Instance}{kind:Nat}{near:List Int}(h:XB D x)(hB:hJ x (kind:Nat) near=false)(dual:Option (List ByteArray))(hd:∀l,dual=some l→l.length=x.orders.length∧∀a∈l,a.size≤1048576):
   WkB D { jW x kind near with dual:=dual }∧(aE x kind).cap.length=D:=by
 obtain⟨h1,h2⟩:=vZ hB;have hk:kind<x.types.length:=by simp at h1;omega
 have hnl:near.length=x.orders.length:=by simp at h1;omega
 have hn:=h.n;have ht:=h.types;refine⟨⟨⟨h.net,U6 (n:=x.orders.length) (by omega) (by show near.length≤62;omega) h2,hnl,?_,hd⟩,h.dim,h.D,?_,J0 h⟩,h.cap kind hk⟩
 · show kind<_;omega
 · show x.orders.length≤62;omega
theorem Eg{D:Nat}{w:Wk}(h:w.t.cap.length=D):PInv D (dY w):=by
 refine⟨⟨by show 0<2^62;decide,by show 0<2^62;decide,?_⟩,?_,Nat.le_refl 1⟩
 · exact Nat.le_trans (uS KO) (by decide)
 · show(List.replicate w.t.cap.length (0:Int)).length=D
   rw[List.length_replicate,h]
def yU(x:Instance)(kind:Int)(near:List Int):Int×Int:=
 if hJ x kind near=true then(0,2)
 else if pR (jW x kind.toNat near) (cQ x) (cQ x).length (dY (jW x kind.toNat near)) 0>8192 then(0,4)
 else(pR (jW x kind.toNat near) (cQ x) (cQ x).length (dY (jW x kind.toNat near)) 0,0)
theorem Pu{D:Nat}(x:Instance)(h:XB D x)(kind:Int)(near:List Int)(hnl:near.length≤1048576):
   PC Tryz.prog 21 [.agg (aQ x),int kind,.sl (near.map aM)] (.tup [int (yU x kind near).1,int (yU x kind near).2]):=by
 have hx:x.orders.length≤1048576:=by have:=h.n;omega
 have eR:yU x kind near=if hJ x kind near=true then(0,2)
   else if pR (jW x kind.toNat near) (cQ x) (cQ x).length (dY (jW x kind.toNat near)) 0>8192 then(0,4)
   else(pR (jW x kind.toNat near) (cQ x) (cQ x).length (dY (jW x kind.toNat near)) 0,0):=rfl
 generalize yU x kind near=R at eR;refine PC.body (c:=Tryz.f21.body.getD .skip) (fun _=>false) mixed Tryz.func21 rfl (by kernel_rfl) ?_;unfold Tryz.f21;simp only[Option.getD_some];simp only[go_sem];by_cases hB:hJ x kind near=true
 · rw[if_pos hB]at eR
   subst eR;refine PC.use (HU x kind near hx hnl hB) ?_;simp only[go_sem];refine aA (fun hb=>?_) (fun hb=>nomatch hb);simp only[go_sem];exact .refl _
 rw[if_neg hB]at eR;have hB:hJ x kind near=false:=by simpa using hB
 obtain⟨k,rfl⟩:∃k:Nat,kind=(k:Nat):=by
   have:=(vZ hB).1;simp at this;exact⟨kind.toNat,by omega⟩
 rw[Int.toNat_natCast]at eR;obtain⟨hw,hcap⟩:=QP h hB none (fun l e=>by cases e);have hwe:({ jW x k near with dual:=none }:Wk)=jW x k near:=rfl;rw[hwe]at hw;refine NC.use (Tc x k near hx hnl hB) fun jw hjw=>?_
 have R0:aJ bT jw (some (kX (jW x k near))) jw=some (kX (jW x k near)):=aB _ _ _;generalize aJ bT jw _=H at R0 ⊢;simp only[go_sem];refine aA (fun hb=>nomatch hb) (fun hb=>?_);simp only[go_sem];refine kK [(0,true),(1,true),(3,true),(2,false),(4,false),(5,false),(6,true)] (by kernel_rfl) ?_;simp only[go_sem];refine LC.use (Nm _ jw _ R0 (by show(aE x k).cap.length≤_;rw[hcap];exact h.D)) ?_;simp only[go_sem];refine PC.use (Qe x hx) ?_;simp only[go_sem];have hal:=J0 h;refine LC.use (MM hw (cQ x) (MF x) (by omega) jw (cQ x).length H R0 (dY (jW x k near)) 0 (Eg hcap) (by show(cQ x).length≤_;omega) (by show 0≤16;omega)) ?_;generalize pR (jW x k near) (cQ x) (cQ x).length (dY (jW x k near)) 0=N at *;simp only[go_sem];refine aA (fun hb=>?_) (fun hb=>?_)
 · rw[if_pos (by simpa using hb)]at eR
   subst eR;simp only[go_sem];exact .refl _
 · rw[if_neg (by simpa using hb)]at eR
   subst eR;simp only[go_sem];exact .refl _
end Go.Proofs.YtdlijlecpopadaaGreatDoor.Rx
