/- Texts joined by a program: RxC, RxD. -/
import Derived.Test.YtdlijlecpopadaaGreatDoorZv25
set_option linter.unusedSimpArgs false
set_option linter.unusedVariables false
set_option maxRecDepth 100000
section
namespace Go.Proofs.YtdlijlecpopadaaGreatDoor.Rx
open Go.Aw Go.Aw.D Go.Proofs Ty Go.Nu
open Sq (W dX mR pU qV gK iP dN iV NetOk pW rH oZ pJ)
open Mv (fF eI NC.pc bK)
open Nu (qN uH wL ltB geB)
theorem bN.cutO{P:Program}{f:FuncId}{args:List AV}{H:aF}{K:AV→aF→Prop}
   (h:bN P f args H fun a H'=>K a H'∨∃j i row,a=.oz j 0 i∧H' j=some row∧i≤row.es.length∧∀j',H' j'=none→K (.os j') (aJ (aJ H' j none) j' (some ⟨row.e,row.sz,row.es.take i⟩))):bN P f args H K:=by
 intro S w vals hS ha;refine(h S w vals hS ha).mono fun e w' ⟨v,x,H',S',he,hx,hS',hv,hg,hn⟩=>?_
 rcases hx with hx|hx
 · exact⟨v,x,H',S',he,hx,hS',hv,hg,hn⟩
 have h2:∀K2:AV→aF→Prop,(∃j i row,x=.oz j 0 i∧H' j=some row∧i≤row.es.length∧∀j',H' j'=none→K2 (.os j') (aJ (aJ H' j none) j' (some ⟨row.e,row.sz,row.es.take i⟩)))→∃v x H' S',e=.returned v∧K2 x H'∧St S' w' H'∧rep S' w' x v∧Grow S w S' w'∧∀k,k<S.N→H k=none→H' k=none:=by
   rintro K2 ⟨j,i,row,rfl,hj,hi,hk⟩;simp only[rep]at hv;obtain⟨hjN,ad,n,c,ad',cc,hloc,hvv,_,hin,_,h0⟩:=hv;obtain⟨rfl,rfl⟩:=h0 trivial;obtain⟨c1,c2⟩:=hS'.cut hj hloc hi;have hnone:H' S'.N=none:=by
     cases e:H' S'.N with
     | none=>rfl
     | some row2=>exact absurd (hS'.rows _ _ e).lt (Nat.lt_irrefl _)
   refine⟨v,.os S'.N,_,_,he,hk S'.N hnone,c1,?_,hg.trans c2,fun q hq h0=>?_⟩
   · simp only[rep]
     refine⟨Nat.lt_succ_self _,?_,ad',i-0,cc,hvv⟩;rw[hvv];simp[Sg.addRow]
   · have hqN:q≠S'.N:=Nat.ne_of_lt (Nat.lt_of_lt_of_le hq hg.le.N)
     rw[aD _ _ _ _ hqN];by_cases e:q=j
     · subst e;rw[aB]
     · rw[aD _ _ _ _ e];exact hn q hq h0
 exact h2 K hx
theorem DQ{α:Type}{p:α→Bool}:∀{l:List α} {n:Int},0≤n→pW p l n= -1→∀y∈l,p y=false
 | [],_,_,_,y,hy=>by simp at hy
 | a::r,n,hn,h,y,hy=>by
   simp only[pW]at h;split at h
   · omega
   · next hp=>
     rcases List.mem_cons.1 hy with rfl|hy
     · simpa using hp
     · exact DQ (by omega) h y hy
theorem E0{α:Type}{p:α→Bool}:∀{l:List α} {n:Int},pW p l n≠ -1→∃(i:Nat) (y:α),pW p l n=n+i∧l[i]?=some y∧p y=true∧∀u∈l.take i,p u=false
 | [],_,h=>absurd rfl h
 | a::r,n,h=>by
   simp only[pW]at h ⊢;by_cases hp:p a=true
   · exact⟨0,a,by rw[if_pos hp];omega,rfl,hp,by simp⟩
   · rw[if_neg hp]at h ⊢
     obtain⟨i,y,h1,h2,h3,h4⟩:=E0 h;refine⟨i+1,y,by omega,h2,h3,fun u hu=>?_⟩;rw[List.take_succ_cons]at hu;rcases List.mem_cons.1 hu with rfl|hu
     · simpa using hp
     · exact h4 u hu
theorem Dc{α:Type}(l:List α){m:Nat}{v:α}(h:m<l.length):(l.set m v).take (m+1)=l.take m++[v]:=by
 have h2:(l.set m v)[m]?=some v:=by simp[h]
 rw[List.take_add_one,h2,List.take_set_of_le (Nat.le_refl m)];rfl
theorem J4{g:Nat}{cap:List AV}{p:Clk→Bool}(l:List Clk)(hl:l.length≤4000000000000000000)(hok:aC Tryz.prog g=true)(hg:∀v∈l,PC Tryz.prog g ((.agg (cH v))::cap) (boo (p v))):
   PC Tryz.prog 156 [.sl (l.map cH),.fn g cap] (int (pW p l 0)):=by
 refine PC.body (c:=Tryz.f156.body.getD .skip) (fun _=>false) mixed Tryz.func156 rfl (by kernel_rfl) ?_;unfold Tryz.f156;simp only[Option.getD_some];simp only[go_sem];refine⟨fun ρ _=>∃k:Nat,k≤l.length∧ρ 0=.sl (l.map cH)∧ρ 1=.fn g cap∧ρ 7=int l.length∧ρ 8=int k∧∀u∈l.take k,p u=false,fun ρ _=>l.length-bQ (ρ 8),⟨0,Nat.zero_le _,rfl,rfl,rfl,rfl,by simp⟩,?_⟩;rintro ρ H ⟨k,hk,h0,h1,h7,h8,hz⟩;simp only[go_sem,h0,h1,h7,h8];refine aA (fun hlt=>?_) (fun hge=>?_)
 · have hlt:=cA hlt
   obtain⟨u,hu⟩:=bC hlt;have b1:=inB hlt;simp only[go_sem,h0,h1,h7,h8,aH hu,b1,hok];refine PC.use (hg u (List.mem_of_getElem? hu)) ?_;simp only[go_sem,h0,h1,h7,h8];refine aA (fun hb=>?_) (fun hb=>?_)
   · simp only[go_sem,h8]
     exact fF (by rw[rH hz hu hb];omega)
   · simp only[go_sem,h0,h1,h7,h8,bG (show k≤4611686018427387904 by omega)]
     exact⟨⟨k+1,hlt,rfl,bK (p:=fun u=>p u=false) hu hb hz⟩,by simp only[aI];omega⟩
 · have hge:=cF hk hge
   subst hge;rw[List.take_length]at hz;simp only[go_sem];exact fF (by rw[oZ hz])
theorem HV{g:Nat}{cap:List AV}{p:Clk→Bool}(l:List Clk)(hl:l.length≤4000000000000000000)(hok:aC Tryz.prog g=true)(hg:∀v∈l,PC Tryz.prog g ((.agg (cH v))::cap) (boo (p v))):
   PC Tryz.prog 98 [.sl (l.map cH),.fn g cap] (boo (l.any p)):=by
 refine PC.body (c:=Tryz.f98.body.getD .skip) (fun _=>false) mixed Tryz.func98 rfl (by kernel_rfl) ?_;unfold Tryz.f98;simp only[Option.getD_some];simp only[go_sem];refine PC.use (J4 l hl hok hg) ?_;simp only[go_sem];exact eI (pJ l 0 (Int.le_refl _))
theorem Gu(u v:Clk):lT (cH u) 0 (cH v)=cH v:=(rfl)
theorem RH{g:Nat}{cap cap':List AV}{p:Clk→Bool}(l:List Clk)(H0:aF)(jd:Nat)(hj:H0 jd=some ⟨157,2,l.map cH⟩)(hl:l.length≤1000000000)(hok:aC Tryz.prog g=true)(hg:∀v∈l,PC Tryz.prog g ((.agg (cH v))::cap') (boo (p v)))
   (hc:∀H:aF,(∀k row,k≠jd→H0 k=some row→H k=some row)→ConvL H cap cap') {K:AV→aF→Prop}
   (hK:∀(j':Nat) (H':aF),(∀k row,k≠jd→H0 k=some row→H' k=some row)→(H0 j'=none∨j'=jd)→H' j'=some ⟨157,2,(l.filter fun v=> !p v).map cH⟩→K (.os j') H'):
   bN Tryz.prog 154 [.os jd,.fn g cap] H0 K:=by
 have hstep:bN Tryz.prog 154 [.os jd,.fn g cap] H0 fun a H'=>K a H'∨∃j i row,a=.oz j 0 i∧H' j=some row∧i≤row.es.length∧∀j',H' j'=none→K (.os j') (aJ (aJ H' j none) j' (some ⟨row.e,row.sz,row.es.take i⟩)):=by
   refine bN.body (c:=Tryz.f154.body.getD .skip) (fun _=>false) mixed Tryz.func154 rfl (by kernel_rfl) ?_;unfold Tryz.f154;simp only[Option.getD_some];simp only[go_sem];refine dB.use ⟨[.sl (l.map cH),.fn g cap'],.cons _ _ _ _ (.row _ _ _ hj (ConvE.refl _)) (.cons _ _ _ _ (.fn _ _ _ (hc H0 fun _ _ _ h=>h)) .nil),J4 l (by omega) hok hg,rfl⟩ ?_;simp only[go_sem];refine aA (fun hb=>?_) (fun hb=>?_)
   · have hm:∀y∈l,p y=false:=DQ (Int.le_refl 0) (by simpa using hb)
     simp only[go_sem];refine .inl (hK jd H0 (fun _ _ _ h=>h) (.inr rfl) ?_);rw[List.filter_eq_self.2 (fun v hv=>by rw[hm v hv];rfl)];exact hj
   obtain⟨i,y,hi,hy,hpy,hmin⟩:=E0 (p:=p) (l:=l) (by simpa using hb);have hil:=(List.getElem?_eq_some_iff.1 hy).1;rw[Int.zero_add]at hi;rw[hi];simp only[go_sem,bG (show i≤4611686018427387904 by omega)];refine⟨fun ρ H=>∃(k m:Nat) (E:List Clk),k≤l.length∧m<k∧ρ 0=.os jd∧ρ 1=.fn g cap∧ρ 5=int m∧ρ 6=int k∧H jd=some ⟨157,2,E.map cH⟩∧E.length=l.length∧E.take m=(l.take k).filter (fun v=> !p v)∧E.drop k=l.drop k∧∀q row,q≠jd→H0 q=some row→H q=some row,fun ρ _=>l.length-bQ (ρ 6),⟨i+1,i,l,hil,Nat.lt_succ_self _,by simp only[go_sem],by simp only[go_sem],(by simp only[go_sem]),(by simp only[go_sem]),hj,rfl,?_,rfl,fun _ _ _ h=>h⟩,?_⟩
   · rw[cN hy,List.filter_append,List.filter_eq_self.2 (fun v hv=>by rw[hmin v hv];rfl)]
     simp[hpy]
   rintro ρ H ⟨k,m,E,hk,hmk,h0,h1,h5,h6,R,hE,ht,hd,hs⟩;simp only[go_sem,h0,h1,h5,h6,R,List.length_map];refine aA (fun hlt=>?_) (fun hge=>?_)
   · have hlt:k<l.length:=by simp at hlt;omega
     obtain⟨v,hv⟩:=bC hlt;have hEv:E[k]?=some v:=by
       have h2:=congrArg (fun L=>L[0]?) hd;simp only[List.getElem?_drop,Nat.add_zero]at h2;rw[h2,hv]
     have b1:((0:Int)≤(k:Nat)∧((k:Nat):Int)<((E.length:Nat):Int)):=by omega
     have b2:((0:Int)≤(m:Nat)∧((m:Nat):Int)<((E.length:Nat):Int)):=by omega
     simp only[go_sem,h0,h1,h5,h6,R,List.length_map,aH hEv,b1,hok];refine⟨by omega,aN fun i7 h7=>?_⟩;have ne7:jd≠i7:=aO R h7;simp only[go_sem,h0,h1,h5,h6];refine aU (aB _ _ _) (by simp[kD]) ?_;generalize hG:aJ (aJ H i7 _) i7 _=HG;have R':HG jd=some ⟨157,2,E.map cH⟩:=by rw[←hG,aD _ _ _ _ ne7,aD _ _ _ _ ne7];exact R
     have R7:HG i7=some ⟨157,2,[cH v]⟩:=by rw[←hG,aB];rfl
     have hs':∀q row,q≠jd→H0 q=some row→HG q=some row:=fun q row hq h=>by
       have h2:=hs q row hq h;have:q≠i7:=fun e=>by rw[e,h7]at h2;cases h2
       rw[←hG,aD _ _ _ _ this,aD _ _ _ _ this];exact h2
     clear hG h7 R hs;simp only[go_sem,h0,h1,h5,h6,R7,hok];refine dB.use ⟨(.agg (cH v))::cap',.cons _ _ _ _ (.refl _) (hc HG hs'),hg v (List.mem_of_getElem? hv),rfl⟩ ?_;simp only[go_sem,h0,h1,h5,h6];refine fU (fun ρ' H'=>ρ' 0=.os jd∧ρ' 1=.fn g cap∧ρ' 6=int k∧∃(m':Nat) (E':List Clk),m'<k+1∧ρ' 5=int m'∧H' jd=some ⟨157,2,E'.map cH⟩∧E'.length=l.length∧E'.take m'=(l.take (k+1)).filter (fun v=> !p v)∧E'.drop (k+1)=l.drop (k+1)∧∀q row,q≠jd→H0 q=some row→H' q=some row) ?_ fun K' hK' _ _=>aA (fun hb=>?_) (fun hb=>?_)
     rotate_left
     · have hp:p v=false:=by simpa using hb
       simp only[go_sem,h0,h5,R7,R',List.length_map,b2];refine aU R' (by simp[kD];omega) ?_;simp only[go_sem,h5,bG (show m≤4611686018427387904 by omega)];refine hK' _ _ ⟨by simp only[go_sem,h0],by simp only[go_sem,h1],by simp only[go_sem,h6],m+1,E.set m v,by omega,rfl,?_,by rw[List.length_set,hE],?_,?_,fun q row hq h=>by rw[aD _ _ _ _ hq];exact hs' q row hq h⟩
       · rw[aB,List.map_set]
         obtain⟨u,hu⟩:=bC (l:=E) (k:=m) (by omega);rw[aH hu];exact congrArg (fun x=>some (⟨157,2,(E.map cH).set m x⟩:Row)) (Gu u v)
       · rw[Dc E (by omega),ht,cN hv,List.filter_append]
         simp[hp]
       · rw[List.drop_set_of_lt (by omega),←List.drop_drop,hd,List.drop_drop]
     · have hp:p v=true:=by simpa using hb
       simp only[go_sem];refine hK' _ _ ⟨by simp only[go_sem,h0],by simp only[go_sem,h1],by simp only[go_sem,h6],m,E,by omega,by simp only[go_sem,h5],R',hE,?_,?_,hs'⟩
       · rw[ht,cN hv,List.filter_append]
         simp[hp]
       · rw[←List.drop_drop,hd,List.drop_drop]
     rintro ρ H ⟨h0,h1,h6,m',E',hmk',h5,R,hE',ht',hd',hs2⟩;simp only[go_sem,h6,bG (show k≤4611686018427387904 by omega)];exact⟨⟨k+1,m',E',hlt,hmk',h0,h1,h5,rfl,R,hE',ht',hd',hs2⟩,by simp only[aI];omega⟩
   · have hge:k=l.length:=by simp at hge;omega
     subst hge;rw[List.take_length]at ht;have hml:m≤E.length:=by omega
     simp only[go_sem,h0,h5,R,List.length_map];refine⟨by omega,RW acX V3 R (.inr ⟨_,rfl,rfl⟩) rfl ?_⟩;simp only[go_sem,h0,h5,aB];refine⟨⟨by omega,by simp;omega⟩,.inr ⟨jd,m,_,rfl,aB _ _ _,?_,fun j' hj'=>?_⟩⟩
     · simp;omega
     have hj0:j'≠jd:=fun e=>by rw[e,aB]at hj';cases hj'
     rw[aD _ _ _ _ hj0]at hj';have hjn:H0 j'=none:=by
       cases e:H0 j' with
       | none=>rfl
       | some row=>rw[hs j' row hj0 e]at hj';cases hj'
     refine hK j' _ (fun q row hq h=>?_) (.inl hjn) ?_
     · have hqj:q≠j':=fun e=>by rw[e,hjn]at h;cases h
       rw[aD _ _ _ _ hqj,aD _ _ _ _ hq,aD _ _ _ _ hq];exact hs q row hq h
     · rw[aB]
       refine congrArg (fun L=>some (⟨157,2,L⟩:Row)) ?_;rw[List.take_append_of_le_length (by simp;omega),List.take_append_of_le_length (by simp;omega),List.take_of_length_le (by simp;omega),←List.map_take,ht]
 exact bN.cutO hstep
theorem Te(s:Stop)(a:Int):PC Tryz.prog 152 [.agg (iA s),int a] (.tup [int (iG s a).1,int (iG s a).2]):=by
 refine PC.body (c:=Tryz.f152.body.getD .skip) (fun _=>false) mixed Tryz.func152 rfl (by kernel_rfl) ?_;unfold Tryz.f152;simp only[Option.getD_some];simp only[go_sem];refine PC.use (Sq.T1 s a) ?_;unfold iG;by_cases h:kC a s.start>s.close
 · simp only[if_pos h]
   simp only[go_sem];refine aA (fun hb=>?_) (fun hb=>?_)
   · simp only[go_sem]
     exact .refl _
   · simp at hb
 · simp only[if_neg h]
   simp only[go_sem];refine aA (fun hb=>?_) (fun hb=>?_)
   · simp at hb
   · simp only[go_sem]
     exact .refl _
theorem NU(d n:Clk):PC Tryz.prog 153 [.agg (cH d),.rp (cH n) 0] (boo (gF d n)):=by
 refine PC.body (c:=Tryz.f153.body.getD .skip) (fun _=>false) mixed Tryz.func153 rfl (by kernel_rfl) ?_;unfold Tryz.f153;simp only[Option.getD_some];simp only[go_sem];refine PC.use (Cl d n) ?_;simp only[go_sem];exact .refl _
theorem O1(d n:Clk):PC Tryz.prog 155 [.agg (cH d),.rp (cH n) 0] (boo (gF n d)):=by
 refine PC.body (c:=Tryz.f155.body.getD .skip) (fun _=>false) mixed Tryz.func155 rfl (by kernel_rfl) ?_;unfold Tryz.f155;simp only[Option.getD_some];simp only[go_sem];refine PC.use (Cl n d) ?_;simp only[go_sem];exact .refl _
theorem Rh(c d:Clk):PC Tryz.prog 99 [.agg (cH c),.rp (cH d) 0] (boo (gF c d)):=by
 refine PC.body (c:=Tryz.f99.body.getD .skip) (fun _=>false) mixed Tryz.func99 rfl (by kernel_rfl) ?_;unfold Tryz.f99;simp only[Option.getD_some];simp only[go_sem];refine PC.use (Cl c d) ?_;simp only[go_sem];exact .refl _
theorem VA(s:Stop)(out:List Clk)(c:Clk):wV s out c=if((iG s c.ready).2 != 0)=true then out
 else if(out.any fun d=>gF d ⟨(iG s c.ready).1,c.since⟩)=true then out
 else(out.filter fun d=> !gF ⟨(iG s c.ready).1,c.since⟩ d)++[⟨(iG s c.ready).1,c.since⟩]:=rfl
theorem VI(s:Stop)(out:List Clk)(c:Clk):(wV s out c).length≤out.length+1:=by
 unfold wV;split
 · omega
 · split
   · omega
   · have:=List.length_filter_le (fun d=> !gF ⟨(iG s c.ready).1,c.since⟩ d) out
     rw[List.length_append,List.length_singleton];omega
theorem CG(s:Stop)(l:List Clk):∀k,((l.take k).foldl (wV s) []).length≤k
 | 0=>by simp
 | k+1=>by
   have h:=CG s l k;by_cases hk:k<l.length
   · obtain⟨c,hc⟩:=bC hk
     rw[Sq.iQ hc];exact Nat.le_trans (VI _ _ _) (by omega)
   · rw[List.take_of_length_le (by omega)]
     rw[List.take_of_length_le (by omega)]at h;omega
theorem Q1(s:Stop)(l:List Clk)(hl:l.length≤4194304):PC Tryz.prog 93 [.sl (l.map cH),.agg (iA s)] (.sl ((dP s l).map cH)):=by
 refine PC.body (c:=Tryz.f93.body.getD .skip) (fun t=>t == 5) mixed Tryz.func93 rfl (by kernel_rfl) ?_;unfold Tryz.f93;simp only[Option.getD_some];simp only[go_sem];refine aN fun j hj0=>?_
 generalize hGj:aJ _ j _=HGj;have R:HGj j=some (qK []):=by rw[←hGj,aB];try rfl
 clear hGj hj0;simp only[go_sem,R];refine⟨fun ρ H=>∃(k:Nat) (j:Nat),k≤l.length∧ρ 3=.rp (iA s) 0∧ρ 11=.sl (l.map cH)∧ρ 12=int (l.length:Nat)∧ρ 13=int k∧ρ 5=.os j∧H j=some (qK ((l.take k).foldl (wV s) [])),fun ρ _=>l.length-bQ (ρ 13),⟨0,j,Nat.zero_le _,by simp only[go_sem],by simp only[go_sem],by simp only[go_sem,List.length_map],(by simp only[go_sem];rfl),by simp only[go_sem],R⟩,?_⟩;rintro ρ H ⟨k,j,hk,e3,e11,e12,e13,e5,R⟩;simp only[go_sem,e3,e11,e12,e13,e5];refine aA (fun hlt=>?_) (fun hge=>?_)
 · have hlt:=ltB (by simpa using hlt)
   obtain⟨c,hc⟩:=bC hlt;have b1:=inB hlt;have hs:=Sq.iQ (f:=wV s) (b:=([]:List Clk)) hc;have hlen:=CG s l k;generalize (l.take k).foldl (wV s) []=out at *;rw[VA]at hs;simp only[go_sem,e3,e11,e12,e13,e5,aH hc,b1];refine aN fun i7 hi70=>?_
   have ne_j_i7:j≠i7:=aO R hi70;simp only[go_sem,e3,e11,e12,e13,e5,R];refine aU (aB _ _ _) (by simp[kD]) ?_;generalize hGi7:aJ (aJ _ i7 _) i7 _=HGi7;replace R:=(congrFun hGi7.symm j).trans ((aD _ _ _ _ ne_j_i7).trans ((aD _ _ _ _ ne_j_i7).trans R));have R7:HGi7 i7=some (vG c):=by rw[←hGi7,aB];try rfl
   clear hGi7 hi70;simp only[go_sem,e3,e11,e12,e13,e5,R7,R];refine PC.use (Te s c.ready) ?_;generalize iG s c.ready=dp at *;simp only[go_sem,e3,e11,e12,e13,e5];refine aA (fun hb=>?_) (fun hb=>?_)
   · rw[if_pos hb]at hs
     simp only[go_sem,e3,e11,e12,e13,e5,bG (show k≤4611686018427387904 by omega)];exact⟨⟨k+1,j,hlt,rfl,rfl,by rw[hs];exact R⟩,by simp only[aI];omega⟩
   rw[if_neg (fun h=>Bool.noConfusion (hb.symm.trans h))]at hs;simp only[go_sem,e3,e11,e12,e13,e5,R7];refine aN fun i10 hi100=>?_
   have ne_j_i10:j≠i10:=aO R hi100;have ne_i7_i10:i7≠i10:=aO R7 hi100;simp only[go_sem,e3,e11,e12,e13,e5,R,R7];refine aU (aB _ _ _) (by simp[kD]) ?_;generalize hGi10:aJ (aJ _ i10 _) i10 _=HGi10;replace R:=(congrFun hGi10.symm j).trans ((aD _ _ _ _ ne_j_i10).trans ((aD _ _ _ _ ne_j_i10).trans R));replace R7:=(congrFun hGi10.symm i7).trans ((aD _ _ _ _ ne_i7_i10).trans ((aD _ _ _ _ ne_i7_i10).trans R7));have R10:HGi10 i10=some (vG ⟨dp.1,c.since⟩):=by rw[←hGi10,aB];try rfl
   clear hGi10 hi100;simp only[go_sem,e3,e11,e12,e13,e5,R10,R,R7];refine dB.use ⟨[.sl (out.map cH),.fn 153 [.rp (cH ⟨dp.1,c.since⟩) 0]],.cons _ _ _ _ (.row _ _ _ R (ConvE.refl _)) (.cons _ _ _ _ (.fn _ _ _ (.cons _ _ _ _ (.ptr _ _ _ _ _ R10 (by simp) (ConvL.refl _)) .nil)) .nil),HV out (by omega) (by kernel_rfl) (fun v _=>NU v _),rfl⟩ ?_;simp only[go_sem,e3,e11,e12,e13,e5];refine aA (fun hb=>?_) (fun hb=>?_)
   · rw[if_pos hb]at hs
     simp only[go_sem,e3,e11,e12,e13,e5,bG (show k≤4611686018427387904 by omega)];exact⟨⟨k+1,j,hlt,rfl,rfl,by rw[hs];exact R⟩,by simp only[aI];omega⟩
   rw[if_neg (fun h=>Bool.noConfusion (hb.symm.trans h))]at hs;simp only[go_sem,e3,e11,e12,e13,e5];refine RH (p:=fun d=>gF ⟨dp.1,c.since⟩ d) (cap':=[.rp (cH ⟨dp.1,c.since⟩) 0]) out _ j R (by omega) (by kernel_rfl) (fun v _=>O1 v _) (fun H' h'=>.cons _ _ _ _ (.ptr _ _ _ _ _ (h' i10 _ ne_j_i10.symm R10) (by simp) (ConvL.refl _)) .nil) fun j1 H1 hk1 hj1 R1=>?_
   have R10b:=hk1 i10 _ ne_j_i10.symm R10;have hfl:=List.length_filter_le (fun d=> !gF ⟨dp.1,c.since⟩ d) out;simp only[go_sem,e3,e11,e12,e13,e5,R10b];refine bA R1 ⟨rfl,rfl⟩ (by simp only[go_sem]) (by simp only[List.length_map,List.length_cons,List.length_nil];omega) (fun j2 hj2=>?_);simp only[go_sem,e3,e11,e12,e13,e5,bG (show k≤4611686018427387904 by omega)];refine⟨⟨k+1,j2,hlt,rfl,rfl,?_⟩,by simp only[aI];omega⟩;rw[aB,hs];exact congrArg some (Jt _ _ _)
 have hge:=geB hk (by simpa using hge);subst hge;rw[List.take_length]at R;simp only[go_sem,e3,e11,e12,e13,e5];exact .row _ _ _ R (ConvE.refl _)
end Go.Proofs.YtdlijlecpopadaaGreatDoor.Rx
end
section
namespace Go.Proofs.YtdlijlecpopadaaGreatDoor.Rx
open Go.Aw Go.Aw.D Go.Proofs Ty Go.Nu
open Sq (W dX mR pU qV gK iP dN iV NetOk)
open Nu (qN uH wL ltB geB)
abbrev eF(p:Part):Row:=⟨94,7,[bS p]⟩
abbrev Er:Row:=⟨94,7,[[int 0,int 0,int 0,int 0,.sl [],.sl [],str ByteArray.empty]]⟩
structure WkOk(w:Wk):Prop where
 net:NetOk w.x.net
 near:NearB w.near
 len:w.near.length=w.x.orders.length
 kind:w.kind<4611686018427387904
 dual:∀l,w.dual=some l→l.length=w.x.orders.length∧∀a∈l,a.size≤1048576
structure PartOk(p:Part):Prop where
 mem:p.memory<2^62
 board:p.board<2^62
 value:p.value.size≤1048576
theorem mU{x:Instance}{o:Nat}(h:o<x.orders.length):x.orders[o]?=some (aG x o):=by
 unfold aG;rw[List.getD,List.getElem?_eq_getElem h,Option.getD_some]
theorem JQ(a:Int)(k:Nat):0≤eM a k∧eM a k≤1:=by unfold eM;split <;> omega
theorem Yy(n:Int):shV .shl .i64 n 16=W (n*65536):=(rfl)
theorem V8(n:Int):shV .shl .i64 n 24=W (n*16777216):=(rfl)
theorem MN(x y:Rat):(Au x y).1.size≤8194:=by
 by_cases h:(Au x y).2=0
 · obtain⟨e,hs⟩:=Md h
   rw[e];exact Dv hs
 · have h2 : Au x y = (emp, 4) := by
     unfold Au at h ⊢;split
     · rfl
     · next hn=>rw[if_neg hn]at h;exact absurd rfl h
   rw[h2];exact Nat.zero_le _
theorem TL(a b:ByteArray):(oF a b).1.size≤8194:=by
 unfold oF;split
 · exact MN _ _
 · exact Nat.zero_le _
theorem UI(a b:ByteArray):(wB a b).1.size≤8194:=by
 unfold wB;split
 · exact MN _ _
 · exact Nat.zero_le _
theorem vP(a:ByteArray)(n:Int):(addV a n).size≤8194:=by
 unfold addV;exact TL _ _
theorem T6(H0:aF)(jw:Nat)(w:Wk)(hw:H0 jw=some (kX w))(p:Part)(o:Nat)(ho:o<w.x.orders.length)(h:WkOk w)(hpo:PartOk p):
   LC Tryz.prog 89 [.op jw 0 0,.agg (bS p),int (o:Nat)] H0 (.tup [.agg (bS (fH w p o).1),boo (fH w p o).2]):=by
 have e:fH w p o=if(iV (p.memory:Nat) (o:Nat)||iV (p.board:Nat) (o:Nat))=true then(p,false)
   else({ p with memory:=pM w.near p.memory o,value:=wF (addV p.value ((eM (aG w.x o).now w.kind*16+eM (aG w.x o).last w.kind)*65536)) o w.dual },true):=rfl
 generalize fH w p o=S at e;refine LC.body (c:=Tryz.f89.body.getD .skip) (fun t=>t == 4) mixed Tryz.func89 rfl (by kernel_rfl) ?_;unfold Tryz.f89;simp only[Option.getD_some];simp only[go_sem];have U:=Sup.refl H0;refine aN fun j4 hj40=>?_
 have n_j4:=U.none hj40;generalize hGj4:aJ _ j4 _=HGj4;replace U:=Sup.eq (U.upd n_j4 _) hGj4;have R4:HGj4 j4=some (eF p):=by rw[←hGj4,aB];try rfl
 clear hGj4 hj40;simp only[go_sem,R4];refine aN fun j6 hj60=>?_
 have ne_j4_j6:j4≠j6:=aO R4 hj60;have n_j6:=U.none hj60;generalize hGj6:aJ _ j6 _=HGj6;replace U:=Sup.eq (U.upd n_j6 _) hGj6;replace R4:=(congrFun hGj6.symm j4).trans ((aD _ _ _ _ ne_j4_j6).trans R4);have R6:HGj6 j6=some (Er):=by rw[←hGj6,aB];try rfl
 clear hGj6 hj60;simp only[go_sem,R6,R4];refine PC.use (Sq.CK _ _) ?_;simp only[go_sem,R4,R6];refine⟨_,fun _=>PC.q (Sq.CK _ _) rfl,?_⟩;simp only[go_sem,R4,R6];refine aA (fun hb=>?_) (fun hb=>?_)
 · rw[if_pos hb]at e
   subst e;simp only[go_sem,R4,R6];refine aU R6 (by simp[bO]) ?_;simp only[go_sem];exact rM.flat ((U.upd n_j6 _)) _
 rw[if_neg (fun h=>Bool.noConfusion (hb.symm.trans h))]at e;subst e;simp only[go_sem,R4,R6];have hjw:=U.at hw;have njw4:jw≠j4:=Sup.ne (Sup.refl H0) hw n_j4;have njw6:jw≠j6:=Sup.ne (Sup.refl H0) hw n_j6;refine gE [jw] [(0,true),(1,true),(2,true),(3,true),(4,true),(6,true),(5,false),(7,false),(8,false),(9,false)] (by simp[hjw]) (by kernel_rfl) fun Hp Hr hp hr _ hr0=>?_
 have P_hjw:=(hp jw (by simp)).trans hjw;have Q_R4:=(hr j4 (by simp[njw4.symm])).trans R4;simp only[go_sem,P_hjw,Q_R4];refine PC.use (Cc w.near p.memory o (by rw[h.len];exact ho) h.near hpo.mem) ?_;simp only[go_sem,Q_R4];refine dU so3 Q_R4 (by simp[bO]) ?_;refine lG hr (by simp[njw4.symm]) ?_;generalize hP:aJ _ j4 _=HP;replace U:=Sup.eq (U.upd n_j4 _) hP;replace R6:=(congrFun hP.symm j6).trans ((aD _ _ _ _ (by first|exact ne_j6_j4|exact ne_j4_j6.symm)).trans R6);replace R4b:HP j4=some (eF { p with memory:=pM w.near p.memory o }):=by rw[←hP,aB];rfl
 clear hP;simp only[go_sem,R4b,R6];have hjw:=U.at hw;have b1:=inB ho;have g1:=aH (f:=aX) (mU ho);refine gE [jw] [(0,true),(1,true),(2,true),(3,true),(4,true),(5,true),(6,true),(7,true),(8,true),(9,true),(10,true),(11,true),(12,true),(13,true),(14,true),(15,true),(16,true),(17,true),(18,true),(19,true),(20,true),(21,true),(22,true),(23,true),(24,true),(25,true),(26,true),(27,true),(28,true),(29,true),(30,true)] (by simp[hjw]) (by kernel_rfl) fun Hp Hr hp hr _ hr0=>?_
 have P_hjw:=(hp jw (by simp)).trans hjw;simp only[go_sem,g1,b1,P_hjw];refine⟨_,PC.q (D5 _ _) rfl,?_⟩;simp only[go_sem,P_hjw,g1,b1];refine⟨_,PC.q (D5 _ _) rfl,?_⟩;have d1:=JQ (aG w.x o).now w.kind;have d2:=JQ (aG w.x o).last w.kind;generalize eM (aG w.x o).now w.kind=D1 at *;generalize eM (aG w.x o).last w.kind=D2 at *;have w1:IntKind.i64.wrap (D1*16)=D1*16:=aT (by omega);have w2:IntKind.i64.wrap (D1*16+D2)=D1*16+D2:=aT (by omega);simp only[go_sem,P_hjw,w1,w2];refine nY hr ?_;simp only[go_sem,R4b];have w3:shV .shl .i64 (D1*16+D2) 16=(D1*16+D2)*65536:=(Yy _).trans (aT (by omega));rw[w3];have hD:0≤(D1*16+D2)*65536∧(D1*16+D2)*65536≤1114112:=by omega
 generalize (D1*16+D2)*65536=D at *;refine⟨by omega,LC.use (Kr _ _ _ _ hpo.value (by omega) (by omega)) ?_⟩;simp only[go_sem,R4b];refine dU PZ R4b (by simp[bO]) ?_;generalize hP:aJ _ j4 _=HP;replace U:=Sup.eq (U.upd n_j4 _) hP;replace R6:=(congrFun hP.symm j6).trans ((aD _ _ _ _ (by first|exact ne_j6_j4|exact ne_j4_j6.symm)).trans R6);replace R4c:HP j4=some (eF { p with memory:=pM w.near p.memory o,value:=addV p.value D }):=by rw[←hP,aB];rfl
 clear hP;simp only[go_sem,R4c,R6];have hjw:=U.at hw;have hvs:=vP p.value D;simp only[go_sem,hjw];cases hd:w.dual with
 | none=>
   rw[show MI none=.v (.slice none 0 0)from rfl];simp only[go_sem];refine aA (fun hb=>nomatch hb) (fun _=>?_);simp only[go_sem,R4c,R6];refine aU R6 (by simp[bO]) ?_;simp only[go_sem];exact rM.flat (U.upd n_j6 _) _
 | some l=>
   obtain⟨hdl,hds⟩:=h.dual l hd;obtain⟨q,hq⟩:=bC (l:=l) (k:=o) (by omega);have hne:l.map Go.Aw.D.cV≠[]:=fun e=>by rw[List.map_eq_nil_iff]at e;rw[e]at hq;simp at hq
   have hD:iI w=iI w:=rfl;rw[show MI (some l)=.sl (l.map Go.Aw.D.cV)from rfl];simp only[go_sem];refine⟨fun e=>absurd e hne,?_⟩;refine aA (fun _=>?_) (fun hb=>nomatch hb);have b3:=inB (show o<l.length by omega);have g3:=aH (f:=Go.Aw.D.cV) hq;have e22:(iI w).getD 22 .any=.sl (l.map Go.Aw.D.cV):=by rw[Jk,hd];rfl
   refine gE [jw] [(0,true),(2,true),(3,true),(4,true),(5,true),(6,true),(7,true),(8,true),(1,false),(9,false),(10,true),(11,true),(12,true),(13,true),(14,false)] (by simp[hjw]) (by kernel_rfl) fun Hp Hr hp hr _ hr0=>?_
   have P_hjw:=(hp jw (by simp)).trans hjw;have Q_R4c:=(hr j4 (by simp[njw4.symm])).trans R4c;simp only[go_sem,e22,b3,g3,P_hjw,Q_R4c];refine PC.use (uH _ _ (by omega) (hds q (List.mem_of_getElem? hq))) ?_;simp only[go_sem,Q_R4c];refine dU PZ Q_R4c (by simp[bO]) ?_;refine lG hr (by simp[njw4.symm]) ?_;generalize hP:aJ _ j4 _=HP;replace U:=Sup.eq (U.upd n_j4 _) hP;replace R6:=(congrFun hP.symm j6).trans ((aD _ _ _ _ (by first|exact ne_j6_j4|exact ne_j4_j6.symm)).trans R6);replace R4d:HP j4=some (eF { p with memory:=pM w.near p.memory o,value:=(wB (addV p.value D) q).1 }):=by rw[←hP,aB];rfl
   clear hP;simp only[go_sem,R4d,R6];refine aU R6 (by simp[bO]) ?_;simp only[go_sem];have e3:wF (addV p.value D) o (some l)=(wB (addV p.value D) q).1:=by
     show(wB (addV p.value D) (l.getD o ByteArray.empty)).1=_;rw[List.getD,hq];rfl
   rw[e3];exact rM.flat (U.upd n_j6 _) _
theorem WK(a b:List Int)(hl:a.length≤1048576)(hab:a.length=b.length):PC Tryz.prog 149 [.sl (a.map aM),.sl (b.map aM)] (.tup [.sl ((pU a b).map aM),int 0]):=
 RC.conv (RC.mono (Sq.aeV a b hl hab) fun x H' ⟨k,hx,hk⟩=>hx▸.tup _ _ (.cons _ _ _ _ (.row k _ _ hk (ConvE.refl _)) (.cons _ _ _ _ (.refl _) .nil)))
theorem Xf(a b:List Int)(hl:a.length≤1048576)(hab:a.length=b.length):PC Tryz.prog 150 [.sl (a.map aM),.sl (b.map aM)] (.tup [.sl ((qV a b).map aM),int 0]):=
 RC.conv (RC.mono (Sq.ZE a b hl hab) fun x H' ⟨k,hx,hk⟩=>hx▸.tup _ _ (.cons _ _ _ _ (.row k _ _ hk (ConvE.refl _)) (.cons _ _ _ _ (.refl _) .nil)))
abbrev Lr(o:Order):Row:=⟨143,16,[aX o]⟩
theorem LG{a b:Nat}(ha:a<2^63)(hb:b<2^63):pV .andNot .i64 (a:Int) (b:Int)=((a ^^^ (a &&& b):Nat):Int):=by
 have hx:∀x y:BitVec 64,x &&& ~~~y=x ^^^ (x &&& y):=fun x y=>by
   ext i hi
   simp only[BitVec.getElem_and,BitVec.getElem_not,BitVec.getElem_xor];cases x[i] <;> cases y[i] <;> rfl
 have h:((BitVec.ofInt 64 (a:Int) &&& ~~~BitVec.ofInt 64 (b:Int)).toNat:Int)=((a ^^^ (a &&& b):Nat):Int):=by
   rw[hx,BitVec.toNat_xor,BitVec.toNat_and,BitVec.toNat_ofInt,BitVec.toNat_ofInt];have h1:((a:Int)%((2^64:Nat):Int)).toNat=a:=by omega
   have h2:((b:Int)%((2^64:Nat):Int)).toNat=b:=by omega
   rw[h1,h2]
 refine Eq.trans (congrArg IntKind.i64.wrap h) ?_;have h3:a &&& b<2^63:=Nat.lt_of_le_of_lt Nat.and_le_left ha;have:=Nat.xor_lt_two_pow ha h3;exact aT (by omega)
theorem Mg(a b:List Int)(h:a.length=b.length):(pU a b).length=a.length∧(qV a b).length=a.length:=by
 constructor
 · show(List.zipWith _ a b).length=_
   rw[List.length_zipWith];omega
 · show(List.zipWith _ a b).length=_
   rw[List.length_zipWith];omega
theorem PW(H0:aF)(jw:Nat)(w:Wk)(hw:H0 jw=some (kX w))(p:Part)(o:Nat)(d:Bool)(ho:o<w.x.orders.length)(h:WkOk w)(hpo:PartOk p)(hol:o≤61)
   (hl:p.load.length=(aG w.x o).load.length) (hll:p.load.length≤1048576):
   LC Tryz.prog 90 [.op jw 0 0,.agg (bS p),.agg (cK ⟨(o:Nat),d⟩)] H0 (.tup [.agg (bS (eO w p o d).1),boo (eO w p o d).2]):=by
 refine LC.body (c:=Tryz.f90.body.getD .skip) (fun t=>t == 4) mixed Tryz.func90 rfl (by kernel_rfl) ?_;unfold Tryz.f90;simp only[Option.getD_some];simp only[go_sem];have U:=Sup.refl H0;refine aN fun j4 hj40=>?_
 have n_j4:=U.none hj40;generalize hGj4:aJ _ j4 _=HGj4;replace U:=Sup.eq (U.upd n_j4 _) hGj4;have R4:HGj4 j4=some (eF p):=by rw[←hGj4,aB];try rfl
 clear hGj4 hj40;simp only[go_sem,R4];refine aN fun j6 hj60=>?_
 have ne_j4_j6:j4≠j6:=aO R4 hj60;have n_j6:=U.none hj60;generalize hGj6:aJ _ j6 _=HGj6;replace U:=Sup.eq (U.upd n_j6 _) hGj6;replace R4:=(congrFun hGj6.symm j4).trans ((aD _ _ _ _ ne_j4_j6).trans R4);have R6:HGj6 j6=some (Er):=by rw[←hGj6,aB];try rfl
 clear hGj6 hj60;simp only[go_sem,R6,R4];have b1:=inB ho;have g1:=aH (f:=aX) (mU ho);have njw4:jw≠j4:=Sup.ne (Sup.refl H0) hw n_j4;have njw6:jw≠j6:=Sup.ne (Sup.refl H0) hw n_j6;have hjw:=U.at hw;refine gE [jw] [(0,true),(1,true),(2,true),(3,true),(4,true),(5,true),(6,true),(7,true),(8,true),(9,false),(10,false)] (by simp[hjw]) (by kernel_rfl) fun Hp Hr hp hr _ hr0=>?_
 have P_hjw:=(hp jw (by simp)).trans hjw;simp only[go_sem,g1,b1,P_hjw];refine aN fun j8 hq8=>?_
 simp only[go_sem];refine aU (aB _ _ _) (by simp[mE]) ?_;refine wX hr hq8 fun hj80=>?_
 have ne_j4_j8:j4≠j8:=aO R4 hj80;have ne_j6_j8:j6≠j8:=aO R6 hj80;have n_j8:=U.none hj80;generalize hGj8:aJ (aJ _ j8 _) j8 _=HGj8;replace U:=Sup.eq ((U.upd n_j8 _).upd n_j8 _) hGj8;replace R4:=(congrFun hGj8.symm j4).trans ((aD _ _ _ _ ne_j4_j8).trans ((aD _ _ _ _ ne_j4_j8).trans R4));replace R6:=(congrFun hGj8.symm j6).trans ((aD _ _ _ _ ne_j6_j8).trans ((aD _ _ _ _ ne_j6_j8).trans R6));have R8:HGj8 j8=some (Lr (aG w.x o)):=by rw[←hGj8,aB];try rfl
 clear hGj8 hj80;simp only[go_sem,R8,R4,R6];have hjw:=U.at hw;have njw8:jw≠j8:=Sup.ne (Sup.refl H0) hw n_j8;generalize hO:aG w.x o=O at *;have eL:eO w p o d=if d=false then({ p with load:=pU p.load O.load,board:=if kO O=true then p.board ||| 2^o else p.board },gK (pU p.load O.load) w.t.cap)
   else if kO O=true then
     if iV (p.board:Nat) (o:Nat)=true then({ p with load:=qV p.load O.load,board:=zK p.board o },gK (qV p.load O.load) w.t.cap)else(p,false)
   else(p,gK p.load w.t.cap):=by rw[←hO];rfl
 generalize eO w p o d=S at eL;have hzl:(pU p.load O.load).length≤1048576∧(qV p.load O.load).length≤1048576:=by have:=Mg _ _ hl;omega
 have hp63:2^o<2^63:=Nat.pow_lt_pow_right (by decide) (by omega);have hsh:=Sq.LD (show o≤62 by omega);refine fU (fun ρ' H'=>∃(P':Part),ρ' 0=.op jw 0 0∧ρ' 4=.op j4 0 0∧ρ' 6=.op j6 0 0∧S=(P',gK P'.load w.t.cap)∧P'.load.length≤1048576∧H' j4=some (eF P')∧H' j6=some Er∧Sup H0 H') ?_ fun K hK hKe hKr=>aA (fun hb=>?_) (fun hb=>?_)
 rotate_left
 · have hd:d=false:=by simpa using hb
   rw[if_pos hd]at eL;simp only[go_sem,R4,R6,R8];refine PC.use (WK p.load O.load hll hl) ?_;simp only[go_sem,R4];refine dU Xp R4 (by simp[bO]) ?_;generalize hP:aJ _ j4 _=HP;replace U:=Sup.eq (U.upd n_j4 _) hP;replace R6:=(congrFun hP.symm j6).trans ((aD _ _ _ _ (by first|exact ne_j6_j4|exact ne_j4_j6.symm)).trans R6);replace R4:HP j4=some (eF { p with load:=pU p.load O.load }):=by rw[←hP,aB];rfl
   clear hP;simp only[go_sem,R4,R6];refine aA (fun hb=>?_) (fun hb=>?_)
   · have hB:kO O=true:=hb
     rw[if_pos hB]at eL;simp only[go_sem];refine kK [(0,true),(2,true),(3,true),(4,true),(1,false),(5,true),(6,true),(7,false)] (by kernel_rfl) ?_;simp only[go_sem,R4,hsh,Sq.RG (show p.board<2^63 from Nat.lt_trans hpo.board (by decide)) hp63];refine⟨by omega,?_⟩;refine dU so3 R4 (by simp[bO]) ?_;generalize hP:aJ _ j4 _=HP;replace U:=Sup.eq (U.upd n_j4 _) hP;replace R6:=(congrFun hP.symm j6).trans ((aD _ _ _ _ (by first|exact ne_j6_j4|exact ne_j4_j6.symm)).trans R6);replace R4:HP j4=some (eF { p with load:=pU p.load O.load,board:=p.board ||| 2^o }):=by rw[←hP,aB];rfl
     clear hP;simp only[go_sem,R4,R6];refine hK _ _ ⟨_,by simp only[go_sem],by simp only[go_sem],by simp only[go_sem],eL,hzl.1,R4,R6,U⟩
   · have hB:¬kO O=true:=fun h=>Bool.noConfusion (hb.symm.trans h)
     rw[if_neg hB]at eL;simp only[go_sem];refine hK _ _ ⟨_,by simp only[go_sem],by simp only[go_sem],by simp only[go_sem],eL,hzl.1,R4,R6,U⟩
 · have hd:¬d=false:=by simpa using hb
   rw[if_neg hd]at eL;simp only[go_sem];refine aA (fun hb=>?_) (fun hb=>?_)
   · have hB:kO O=true:=hb
     rw[if_pos hB]at eL;simp only[go_sem,R4];refine PC.use (Sq.CK _ _) ?_;simp only[go_sem,R4,R6];refine aA (fun hb=>?_) (fun hb=>?_)
     · have hh:¬iV (p.board:Nat) (o:Nat)=true:=by simpa using hb
       rw[if_neg hh]at eL;subst eL;simp only[go_sem,R4,R6];refine aU R6 (by simp[bO]) ?_;simp only[go_sem];refine hKr _ _ ?_;simp only[go_sem];exact rM.flat (U.upd n_j6 _) _
     · have hh:iV (p.board:Nat) (o:Nat)=true:=by simpa using hb
       rw[if_pos hh]at eL;simp only[go_sem,R4,R8];refine PC.use (Xf p.load O.load hll hl) ?_;simp only[go_sem,R4];refine dU Xp R4 (by simp[bO]) ?_;generalize hP:aJ _ j4 _=HP;replace U:=Sup.eq (U.upd n_j4 _) hP;replace R6:=(congrFun hP.symm j6).trans ((aD _ _ _ _ (by first|exact ne_j6_j4|exact ne_j4_j6.symm)).trans R6);replace R4:HP j4=some (eF { p with load:=qV p.load O.load }):=by rw[←hP,aB];rfl
       clear hP;simp only[go_sem,R4,R6];refine kK [(0,true),(2,true),(3,true),(4,true),(1,false),(5,true),(6,true),(7,false)] (by kernel_rfl) ?_;simp only[go_sem,R4,hsh,LG (show p.board<2^63 from Nat.lt_trans hpo.board (by decide)) hp63];refine⟨by omega,?_⟩;refine dU so3 R4 (by simp[bO]) ?_;generalize hP:aJ _ j4 _=HP;replace U:=Sup.eq (U.upd n_j4 _) hP;replace R6:=(congrFun hP.symm j6).trans ((aD _ _ _ _ (by first|exact ne_j6_j4|exact ne_j4_j6.symm)).trans R6);replace R4:HP j4=some (eF { p with load:=qV p.load O.load,board:=zK p.board o }):=by rw[←hP,aB];rfl
       clear hP;simp only[go_sem,R4,R6];refine hK _ _ ⟨_,by simp only[go_sem],by simp only[go_sem],by simp only[go_sem],eL,hzl.2,R4,R6,U⟩
   · have hB:¬kO O=true:=fun h=>Bool.noConfusion (hb.symm.trans h)
     rw[if_neg hB]at eL;simp only[go_sem];refine hK _ _ ⟨_,by simp only[go_sem],by simp only[go_sem],by simp only[go_sem],eL,hll,R4,R6,U⟩
 rintro ρ H ⟨P',e0,e4,e6,hP,hPl,R4,R6,U⟩;have hjw:=U.at hw;simp only[go_sem,e0,e4,e6];refine gE [jw,j4] [(0,true),(1,true),(2,true),(3,true),(4,true),(5,true),(6,true),(7,true),(8,false),(9,false),(10,true)] (by simp[hjw,R4]) (by kernel_rfl) fun Hp Hr hp hr _ hr0=>?_
 have P_hjw:=(hp jw (by simp)).trans hjw;have P_R4:=(hp j4 (by simp)).trans R4;have Q_R6:=(hr j6 (by simp[njw6.symm,ne_j4_j6.symm])).trans R6;simp only[go_sem,e0,e4,e6,P_hjw,P_R4,Q_R6];refine PC.use (Sq.Mj P'.load w.t.cap hPl) ?_;simp only[go_sem,e0,e4,e6,Q_R6];refine aU Q_R6 (by simp[bO]) ?_;simp only[go_sem,e0,e4,e6];refine lG hr (by simp[njw6.symm,ne_j4_j6.symm]) ?_;simp only[go_sem,e0,e4,e6];rw[hP];exact rM.flat (U.upd n_j6 _) _
end Go.Proofs.YtdlijlecpopadaaGreatDoor.Rx
end
