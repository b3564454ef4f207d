/- Texts joined by a program: RxC, RxD. -/
import Derived.Test.YtdlijlecpopadaaGreatDoorZw25
set_option linter.unusedSimpArgs false
set_option linter.unusedVariables false
set_option maxRecDepth 100000
section
namespace Go.Proofs.YtdlijlecpopadaaGreatDoor.Rx
open Go.Aw Go.Aw.D Go.Proofs Ty Go.Nu
open Sq (W dW mU pX qV gL iM dK iV NetOk pY rU oV pS)
open Mv (fB eH NC.pc bN)
open Nu (uF tY Ay ltB geB)
theorem bO.cutO{P:Program}{f:FuncId}{args:List AV}{H:aF}{K:AV→aF→Prop}
   (h:bO P f args H fun a H'=>K a H'∨∃j i row,a=.oz j 0 i∧H' j=some row∧i≤row.es.length∧∀j',H' j'=none→K (.os j') (aJ (aJ H' j none) j' (some ⟨row.e,row.sz,row.es.take i⟩))):bO P f args H K:=by
 intro S w vals hS ha;refine(h S w vals hS ha).mono fun e w' ⟨v,x,H',S',he,hx,hS',hv,hg,hn⟩=>?_
 rcases hx with hx|hx
 · exact⟨v,x,H',S',he,hx,hS',hv,hg,hn⟩
 have h2:∀K2:AV→aF→Prop,(∃j i row,x=.oz j 0 i∧H' j=some row∧i≤row.es.length∧∀j',H' j'=none→K2 (.os j') (aJ (aJ H' j none) j' (some ⟨row.e,row.sz,row.es.take i⟩)))→∃v x H' S',e=.returned v∧K2 x H'∧St S' w' H'∧rep S' w' x v∧Grow S w S' w'∧∀k,k<S.N→H k=none→H' k=none:=by
   rintro K2 ⟨j,i,row,rfl,hj,hi,hk⟩;simp only[rep]at hv;obtain⟨hjN,ad,n,c,ad',cc,hloc,hvv,_,hin,_,h0⟩:=hv;obtain⟨rfl,rfl⟩:=h0 trivial;obtain⟨c1,c2⟩:=hS'.cut hj hloc hi;have hnone:H' S'.N=none:=by
     cases e:H' S'.N with
     | none=>rfl
     | some row2=>exact absurd (hS'.rows _ _ e).lt (Nat.lt_irrefl _)
   refine⟨v,.os S'.N,_,_,he,hk S'.N hnone,c1,?_,hg.trans c2,fun q hq h0=>?_⟩
   · simp only[rep]
     refine⟨Nat.lt_succ_self _,?_,ad',i-0,cc,hvv⟩;rw[hvv];simp[Sg.addRow]
   · have hqN:q≠S'.N:=Nat.ne_of_lt (Nat.lt_of_lt_of_le hq hg.le.N)
     rw[aD _ _ _ _ hqN];by_cases e:q=j
     · subst e;rw[aB]
     · rw[aD _ _ _ _ e];exact hn q hq h0
 exact h2 K hx
theorem DL{α:Type}{p:α→Bool}:∀{l:List α} {n:Int},0≤n→pY p l n= -1→∀y∈l,p y=false
 | [],_,_,_,y,hy=>by simp at hy
 | a::r,n,hn,h,y,hy=>by
   simp only[pY]at h;split at h
   · omega
   · next hp=>
     rcases List.mem_cons.1 hy with rfl|hy
     · simpa using hp
     · exact DL (by omega) h y hy
theorem Ey{α:Type}{p:α→Bool}:∀{l:List α} {n:Int},pY p l n≠ -1→∃(i:Nat) (y:α),pY p l n=n+i∧l[i]?=some y∧p y=true∧∀u∈l.take i,p u=false
 | [],_,h=>absurd rfl h
 | a::r,n,h=>by
   simp only[pY]at h ⊢;by_cases hp:p a=true
   · exact⟨0,a,by rw[if_pos hp];omega,rfl,hp,by simp⟩
   · rw[if_neg hp]at h ⊢
     obtain⟨i,y,h1,h2,h3,h4⟩:=Ey h;refine⟨i+1,y,by omega,h2,h3,fun u hu=>?_⟩;rw[List.take_succ_cons]at hu;rcases List.mem_cons.1 hu with rfl|hu
     · simpa using hp
     · exact h4 u hu
theorem Dw{α:Type}(l:List α){m:Nat}{v:α}(h:m<l.length):(l.set m v).take (m+1)=l.take m++[v]:=by
 have h2:(l.set m v)[m]?=some v:=by simp[h]
 rw[List.take_add_one,h2,List.take_set_of_le (Nat.le_refl m)];rfl
theorem ID{g:Nat}{cap:List AV}{p:Clk→Bool}(l:List Clk)(hl:l.length≤4000000000000000000)(hok:aC Tryz.prog g=true)(hg:∀v∈l,PC Tryz.prog g ((.agg (cG v))::cap) (boo (p v))):
   PC Tryz.prog 156 [.sl (l.map cG),.fn g cap] (int (pY p l 0)):=by
 refine PC.body (c:=Tryz.f156.body.getD .skip) (fun _=>false) mixed Tryz.func156 rfl (by kernel_rfl) ?_;unfold Tryz.f156;simp only[Option.getD_some];simp only[go_sem];refine⟨fun ρ _=>∃k:Nat,k≤l.length∧ρ 0=.sl (l.map cG)∧ρ 1=.fn g cap∧ρ 7=int l.length∧ρ 8=int k∧∀u∈l.take k,p u=false,fun ρ _=>l.length-bR (ρ 8),⟨0,Nat.zero_le _,rfl,rfl,rfl,rfl,by simp⟩,?_⟩;rintro ρ H ⟨k,hk,h0,h1,h7,h8,hz⟩;simp only[go_sem,h0,h1,h7,h8];refine aA (fun hlt=>?_) (fun hge=>?_)
 · have hlt:=cA hlt
   obtain⟨u,hu⟩:=bA hlt;have b1:=inB hlt;simp only[go_sem,h0,h1,h7,h8,aH hu,b1,hok];refine PC.use (hg u (List.mem_of_getElem? hu)) ?_;simp only[go_sem,h0,h1,h7,h8];refine aA (fun hb=>?_) (fun hb=>?_)
   · simp only[go_sem,h8]
     exact fB (by rw[rU hz hu hb];omega)
   · simp only[go_sem,h0,h1,h7,h8,bG (show k≤4611686018427387904 by omega)]
     exact⟨⟨k+1,hlt,rfl,bN (p:=fun u=>p u=false) hu hb hz⟩,by simp only[aI];omega⟩
 · have hge:=cE hk hge
   subst hge;rw[List.take_length]at hz;simp only[go_sem];exact fB (by rw[oV hz])
theorem Km{g:Nat}{cap:List AV}{p:Clk→Bool}(l:List Clk)(hl:l.length≤4000000000000000000)(hok:aC Tryz.prog g=true)(hg:∀v∈l,PC Tryz.prog g ((.agg (cG v))::cap) (boo (p v))):
   PC Tryz.prog 98 [.sl (l.map cG),.fn g cap] (boo (l.any p)):=by
 refine PC.body (c:=Tryz.f98.body.getD .skip) (fun _=>false) mixed Tryz.func98 rfl (by kernel_rfl) ?_;unfold Tryz.f98;simp only[Option.getD_some];simp only[go_sem];refine PC.use (ID l hl hok hg) ?_;simp only[go_sem];exact eH (pS l 0 (Int.le_refl _))
theorem Fu(u v:Clk):mS (cG u) 0 (cG v)=cG v:=(rfl)
theorem Rq{g:Nat}{cap cap':List AV}{p:Clk→Bool}(l:List Clk)(H0:aF)(jd:Nat)(hj:H0 jd=some ⟨157,2,l.map cG⟩)(hl:l.length≤1000000000)(hok:aC Tryz.prog g=true)(hg:∀v∈l,PC Tryz.prog g ((.agg (cG v))::cap') (boo (p v)))
   (hc:∀H:aF,(∀k row,k≠jd→H0 k=some row→H k=some row)→ConvL H cap cap') {K:AV→aF→Prop}
   (hK:∀(j':Nat) (H':aF),(∀k row,k≠jd→H0 k=some row→H' k=some row)→(H0 j'=none∨j'=jd)→H' j'=some ⟨157,2,(l.filter fun v=> !p v).map cG⟩→K (.os j') H'):
   bO Tryz.prog 154 [.os jd,.fn g cap] H0 K:=by
 have hstep:bO Tryz.prog 154 [.os jd,.fn g cap] H0 fun a H'=>K a H'∨∃j i row,a=.oz j 0 i∧H' j=some row∧i≤row.es.length∧∀j',H' j'=none→K (.os j') (aJ (aJ H' j none) j' (some ⟨row.e,row.sz,row.es.take i⟩)):=by
   refine bO.body (c:=Tryz.f154.body.getD .skip) (fun _=>false) mixed Tryz.func154 rfl (by kernel_rfl) ?_;unfold Tryz.f154;simp only[Option.getD_some];simp only[go_sem];refine cZ.use ⟨[.sl (l.map cG),.fn g cap'],.cons _ _ _ _ (.row _ _ _ hj (ConvE.refl _)) (.cons _ _ _ _ (.fn _ _ _ (hc H0 fun _ _ _ h=>h)) .nil),ID l (by omega) hok hg,rfl⟩ ?_;simp only[go_sem];refine aA (fun hb=>?_) (fun hb=>?_)
   · have hm:∀y∈l,p y=false:=DL (Int.le_refl 0) (by simpa using hb)
     simp only[go_sem];refine .inl (hK jd H0 (fun _ _ _ h=>h) (.inr rfl) ?_);rw[List.filter_eq_self.2 (fun v hv=>by rw[hm v hv];rfl)];exact hj
   obtain⟨i,y,hi,hy,hpy,hmin⟩:=Ey (p:=p) (l:=l) (by simpa using hb);have hil:=(List.getElem?_eq_some_iff.1 hy).1;rw[Int.zero_add]at hi;rw[hi];simp only[go_sem,bG (show i≤4611686018427387904 by omega)];refine⟨fun ρ H=>∃(k m:Nat) (E:List Clk),k≤l.length∧m<k∧ρ 0=.os jd∧ρ 1=.fn g cap∧ρ 5=int m∧ρ 6=int k∧H jd=some ⟨157,2,E.map cG⟩∧E.length=l.length∧E.take m=(l.take k).filter (fun v=> !p v)∧E.drop k=l.drop k∧∀q row,q≠jd→H0 q=some row→H q=some row,fun ρ _=>l.length-bR (ρ 6),⟨i+1,i,l,hil,Nat.lt_succ_self _,by simp only[go_sem],by simp only[go_sem],(by simp only[go_sem]),(by simp only[go_sem]),hj,rfl,?_,rfl,fun _ _ _ h=>h⟩,?_⟩
   · rw[cH hy,List.filter_append,List.filter_eq_self.2 (fun v hv=>by rw[hmin v hv];rfl)]
     simp[hpy]
   rintro ρ H ⟨k,m,E,hk,hmk,h0,h1,h5,h6,R,hE,ht,hd,hs⟩;simp only[go_sem,h0,h1,h5,h6,R,List.length_map];refine aA (fun hlt=>?_) (fun hge=>?_)
   · have hlt:k<l.length:=by simp at hlt;omega
     obtain⟨v,hv⟩:=bA hlt;have hEv:E[k]?=some v:=by
       have h2:=congrArg (fun L=>L[0]?) hd;simp only[List.getElem?_drop,Nat.add_zero]at h2;rw[h2,hv]
     have b1:((0:Int)≤(k:Nat)∧((k:Nat):Int)<((E.length:Nat):Int)):=by omega
     have b2:((0:Int)≤(m:Nat)∧((m:Nat):Int)<((E.length:Nat):Int)):=by omega
     simp only[go_sem,h0,h1,h5,h6,R,List.length_map,aH hEv,b1,hok];refine⟨by omega,aN fun i7 h7=>?_⟩;have ne7:jd≠i7:=aO R h7;simp only[go_sem,h0,h1,h5,h6];refine aT (aB _ _ _) (by simp[kD]) ?_;generalize hG:aJ (aJ H i7 _) i7 _=HG;have R':HG jd=some ⟨157,2,E.map cG⟩:=by rw[←hG,aD _ _ _ _ ne7,aD _ _ _ _ ne7];exact R
     have R7:HG i7=some ⟨157,2,[cG v]⟩:=by rw[←hG,aB];rfl
     have hs':∀q row,q≠jd→H0 q=some row→HG q=some row:=fun q row hq h=>by
       have h2:=hs q row hq h;have:q≠i7:=fun e=>by rw[e,h7]at h2;cases h2
       rw[←hG,aD _ _ _ _ this,aD _ _ _ _ this];exact h2
     clear hG h7 R hs;simp only[go_sem,h0,h1,h5,h6,R7,hok];refine cZ.use ⟨(.agg (cG v))::cap',.cons _ _ _ _ (.refl _) (hc HG hs'),hg v (List.mem_of_getElem? hv),rfl⟩ ?_;simp only[go_sem,h0,h1,h5,h6];refine fW (fun ρ' H'=>ρ' 0=.os jd∧ρ' 1=.fn g cap∧ρ' 6=int k∧∃(m':Nat) (E':List Clk),m'<k+1∧ρ' 5=int m'∧H' jd=some ⟨157,2,E'.map cG⟩∧E'.length=l.length∧E'.take m'=(l.take (k+1)).filter (fun v=> !p v)∧E'.drop (k+1)=l.drop (k+1)∧∀q row,q≠jd→H0 q=some row→H' q=some row) ?_ fun K' hK' _ _=>aA (fun hb=>?_) (fun hb=>?_)
     rotate_left
     · have hp:p v=false:=by simpa using hb
       simp only[go_sem,h0,h5,R7,R',List.length_map,b2];refine aT R' (by simp[kD];omega) ?_;simp only[go_sem,h5,bG (show m≤4611686018427387904 by omega)];refine hK' _ _ ⟨by simp only[go_sem,h0],by simp only[go_sem,h1],by simp only[go_sem,h6],m+1,E.set m v,by omega,rfl,?_,by rw[List.length_set,hE],?_,?_,fun q row hq h=>by rw[aD _ _ _ _ hq];exact hs' q row hq h⟩
       · rw[aB,List.map_set]
         obtain⟨u,hu⟩:=bA (l:=E) (k:=m) (by omega);rw[aH hu];exact congrArg (fun x=>some (⟨157,2,(E.map cG).set m x⟩:Row)) (Fu u v)
       · rw[Dw E (by omega),ht,cH hv,List.filter_append]
         simp[hp]
       · rw[List.drop_set_of_lt (by omega),←List.drop_drop,hd,List.drop_drop]
     · have hp:p v=true:=by simpa using hb
       simp only[go_sem];refine hK' _ _ ⟨by simp only[go_sem,h0],by simp only[go_sem,h1],by simp only[go_sem,h6],m,E,by omega,by simp only[go_sem,h5],R',hE,?_,?_,hs'⟩
       · rw[ht,cH hv,List.filter_append]
         simp[hp]
       · rw[←List.drop_drop,hd,List.drop_drop]
     rintro ρ H ⟨h0,h1,h6,m',E',hmk',h5,R,hE',ht',hd',hs2⟩;simp only[go_sem,h6,bG (show k≤4611686018427387904 by omega)];exact⟨⟨k+1,m',E',hlt,hmk',h0,h1,h5,rfl,R,hE',ht',hd',hs2⟩,by simp only[aI];omega⟩
   · have hge:k=l.length:=by simp at hge;omega
     subst hge;rw[List.take_length]at ht;have hml:m≤E.length:=by omega
     simp only[go_sem,h0,h5,R,List.length_map];refine⟨by omega,Qe abO VS R (.inr ⟨_,rfl,rfl⟩) rfl ?_⟩;simp only[go_sem,h0,h5,aB];refine⟨⟨by omega,by simp;omega⟩,.inr ⟨jd,m,_,rfl,aB _ _ _,?_,fun j' hj'=>?_⟩⟩
     · simp;omega
     have hj0:j'≠jd:=fun e=>by rw[e,aB]at hj';cases hj'
     rw[aD _ _ _ _ hj0]at hj';have hjn:H0 j'=none:=by
       cases e:H0 j' with
       | none=>rfl
       | some row=>rw[hs j' row hj0 e]at hj';cases hj'
     refine hK j' _ (fun q row hq h=>?_) (.inl hjn) ?_
     · have hqj:q≠j':=fun e=>by rw[e,hjn]at h;cases h
       rw[aD _ _ _ _ hqj,aD _ _ _ _ hq,aD _ _ _ _ hq];exact hs q row hq h
     · rw[aB]
       refine congrArg (fun L=>some (⟨157,2,L⟩:Row)) ?_;rw[List.take_append_of_le_length (by simp;omega),List.take_append_of_le_length (by simp;omega),List.take_of_length_le (by simp;omega),←List.map_take,ht]
 exact bO.cutO hstep
theorem PR(s:Stop)(a:Int):PC Tryz.prog 152 [.agg (hY s),int a] (.tup [int (iK s a).1,int (iK s a).2]):=by
 refine PC.body (c:=Tryz.f152.body.getD .skip) (fun _=>false) mixed Tryz.func152 rfl (by kernel_rfl) ?_;unfold Tryz.f152;simp only[Option.getD_some];simp only[go_sem];refine PC.use (Sq.U4 s a) ?_;unfold iK;by_cases h:kE a s.start>s.close
 · simp only[if_pos h]
   simp only[go_sem];refine aA (fun hb=>?_) (fun hb=>?_)
   · simp only[go_sem]
     exact .refl _
   · simp at hb
 · simp only[if_neg h]
   simp only[go_sem];refine aA (fun hb=>?_) (fun hb=>?_)
   · simp at hb
   · simp only[go_sem]
     exact .refl _
theorem NZ(d n:Clk):PC Tryz.prog 153 [.agg (cG d),.rp (cG n) 0] (boo (gE d n)):=by
 refine PC.body (c:=Tryz.f153.body.getD .skip) (fun _=>false) mixed Tryz.func153 rfl (by kernel_rfl) ?_;unfold Tryz.f153;simp only[Option.getD_some];simp only[go_sem];refine PC.use (Bx d n) ?_;simp only[go_sem];exact .refl _
theorem Ot(d n:Clk):PC Tryz.prog 155 [.agg (cG d),.rp (cG n) 0] (boo (gE n d)):=by
 refine PC.body (c:=Tryz.f155.body.getD .skip) (fun _=>false) mixed Tryz.func155 rfl (by kernel_rfl) ?_;unfold Tryz.f155;simp only[Option.getD_some];simp only[go_sem];refine PC.use (Bx n d) ?_;simp only[go_sem];exact .refl _
theorem Te(c d:Clk):PC Tryz.prog 99 [.agg (cG c),.rp (cG d) 0] (boo (gE c d)):=by
 refine PC.body (c:=Tryz.f99.body.getD .skip) (fun _=>false) mixed Tryz.func99 rfl (by kernel_rfl) ?_;unfold Tryz.f99;simp only[Option.getD_some];simp only[go_sem];refine PC.use (Bx c d) ?_;simp only[go_sem];exact .refl _
theorem Vo(s:Stop)(out:List Clk)(c:Clk):wS s out c=if((iK s c.ready).2 != 0)=true then out
 else if(out.any fun d=>gE d ⟨(iK s c.ready).1,c.since⟩)=true then out
 else(out.filter fun d=> !gE ⟨(iK s c.ready).1,c.since⟩ d)++[⟨(iK s c.ready).1,c.since⟩]:=rfl
theorem Vz(s:Stop)(out:List Clk)(c:Clk):(wS s out c).length≤out.length+1:=by
 unfold wS;split
 · omega
 · split
   · omega
   · have:=List.length_filter_le (fun d=> !gE ⟨(iK s c.ready).1,c.since⟩ d) out
     rw[List.length_append,List.length_singleton];omega
theorem B7(s:Stop)(l:List Clk):∀k,((l.take k).foldl (wS s) []).length≤k
 | 0=>by simp
 | k+1=>by
   have h:=B7 s l k;by_cases hk:k<l.length
   · obtain⟨c,hc⟩:=bA hk
     rw[Sq.iN hc];exact Nat.le_trans (Vz _ _ _) (by omega)
   · rw[List.take_of_length_le (by omega)]
     rw[List.take_of_length_le (by omega)]at h;omega
theorem QT(s:Stop)(l:List Clk)(hl:l.length≤4194304):PC Tryz.prog 93 [.sl (l.map cG),.agg (hY s)] (.sl ((dN s l).map cG)):=by
 refine PC.body (c:=Tryz.f93.body.getD .skip) (fun t=>t == 5) mixed Tryz.func93 rfl (by kernel_rfl) ?_;unfold Tryz.f93;simp only[Option.getD_some];simp only[go_sem];refine aN fun j hj0=>?_
 generalize hGj:aJ _ j _=HGj;have R:HGj j=some (qC []):=by rw[←hGj,aB];try rfl
 clear hGj hj0;simp only[go_sem,R];refine⟨fun ρ H=>∃(k:Nat) (j:Nat),k≤l.length∧ρ 3=.rp (hY s) 0∧ρ 11=.sl (l.map cG)∧ρ 12=int (l.length:Nat)∧ρ 13=int k∧ρ 5=.os j∧H j=some (qC ((l.take k).foldl (wS s) [])),fun ρ _=>l.length-bR (ρ 13),⟨0,j,Nat.zero_le _,by simp only[go_sem],by simp only[go_sem],by simp only[go_sem,List.length_map],(by simp only[go_sem];rfl),by simp only[go_sem],R⟩,?_⟩;rintro ρ H ⟨k,j,hk,e3,e11,e12,e13,e5,R⟩;simp only[go_sem,e3,e11,e12,e13,e5];refine aA (fun hlt=>?_) (fun hge=>?_)
 · have hlt:=ltB (by simpa using hlt)
   obtain⟨c,hc⟩:=bA hlt;have b1:=inB hlt;have hs:=Sq.iN (f:=wS s) (b:=([]:List Clk)) hc;have hlen:=B7 s l k;generalize (l.take k).foldl (wS s) []=out at *;rw[Vo]at hs;simp only[go_sem,e3,e11,e12,e13,e5,aH hc,b1];refine aN fun i7 hi70=>?_
   have ne_j_i7:j≠i7:=aO R hi70;simp only[go_sem,e3,e11,e12,e13,e5,R];refine aT (aB _ _ _) (by simp[kD]) ?_;generalize hGi7:aJ (aJ _ i7 _) i7 _=HGi7;replace R:=(congrFun hGi7.symm j).trans ((aD _ _ _ _ ne_j_i7).trans ((aD _ _ _ _ ne_j_i7).trans R));have R7:HGi7 i7=some (vG c):=by rw[←hGi7,aB];try rfl
   clear hGi7 hi70;simp only[go_sem,e3,e11,e12,e13,e5,R7,R];refine PC.use (PR s c.ready) ?_;generalize iK s c.ready=dp at *;simp only[go_sem,e3,e11,e12,e13,e5];refine aA (fun hb=>?_) (fun hb=>?_)
   · rw[if_pos hb]at hs
     simp only[go_sem,e3,e11,e12,e13,e5,bG (show k≤4611686018427387904 by omega)];exact⟨⟨k+1,j,hlt,rfl,rfl,by rw[hs];exact R⟩,by simp only[aI];omega⟩
   rw[if_neg (fun h=>Bool.noConfusion (hb.symm.trans h))]at hs;simp only[go_sem,e3,e11,e12,e13,e5,R7];refine aN fun i10 hi100=>?_
   have ne_j_i10:j≠i10:=aO R hi100;have ne_i7_i10:i7≠i10:=aO R7 hi100;simp only[go_sem,e3,e11,e12,e13,e5,R,R7];refine aT (aB _ _ _) (by simp[kD]) ?_;generalize hGi10:aJ (aJ _ i10 _) i10 _=HGi10;replace R:=(congrFun hGi10.symm j).trans ((aD _ _ _ _ ne_j_i10).trans ((aD _ _ _ _ ne_j_i10).trans R));replace R7:=(congrFun hGi10.symm i7).trans ((aD _ _ _ _ ne_i7_i10).trans ((aD _ _ _ _ ne_i7_i10).trans R7));have R10:HGi10 i10=some (vG ⟨dp.1,c.since⟩):=by rw[←hGi10,aB];try rfl
   clear hGi10 hi100;simp only[go_sem,e3,e11,e12,e13,e5,R10,R,R7];refine cZ.use ⟨[.sl (out.map cG),.fn 153 [.rp (cG ⟨dp.1,c.since⟩) 0]],.cons _ _ _ _ (.row _ _ _ R (ConvE.refl _)) (.cons _ _ _ _ (.fn _ _ _ (.cons _ _ _ _ (.ptr _ _ _ _ _ R10 (by simp) (ConvL.refl _)) .nil)) .nil),Km out (by omega) (by kernel_rfl) (fun v _=>NZ v _),rfl⟩ ?_;simp only[go_sem,e3,e11,e12,e13,e5];refine aA (fun hb=>?_) (fun hb=>?_)
   · rw[if_pos hb]at hs
     simp only[go_sem,e3,e11,e12,e13,e5,bG (show k≤4611686018427387904 by omega)];exact⟨⟨k+1,j,hlt,rfl,rfl,by rw[hs];exact R⟩,by simp only[aI];omega⟩
   rw[if_neg (fun h=>Bool.noConfusion (hb.symm.trans h))]at hs;simp only[go_sem,e3,e11,e12,e13,e5];refine Rq (p:=fun d=>gE ⟨dp.1,c.since⟩ d) (cap':=[.rp (cG ⟨dp.1,c.since⟩) 0]) out _ j R (by omega) (by kernel_rfl) (fun v _=>Ot v _) (fun H' h'=>.cons _ _ _ _ (.ptr _ _ _ _ _ (h' i10 _ ne_j_i10.symm R10) (by simp) (ConvL.refl _)) .nil) fun j1 H1 hk1 hj1 R1=>?_
   have R10b:=hk1 i10 _ ne_j_i10.symm R10;have hfl:=List.length_filter_le (fun d=> !gE ⟨dp.1,c.since⟩ d) out;simp only[go_sem,e3,e11,e12,e13,e5,R10b];refine bC R1 ⟨rfl,rfl⟩ (by simp only[go_sem]) (by simp only[List.length_map,List.length_cons,List.length_nil];omega) (fun j2 hj2=>?_);simp only[go_sem,e3,e11,e12,e13,e5,bG (show k≤4611686018427387904 by omega)];refine⟨⟨k+1,j2,hlt,rfl,rfl,?_⟩,by simp only[aI];omega⟩;rw[aB,hs];exact congrArg some (JO _ _ _)
 have hge:=geB hk (by simpa using hge);subst hge;rw[List.take_length]at R;simp only[go_sem,e3,e11,e12,e13,e5];exact .row _ _ _ R (ConvE.refl _)
end Go.Proofs.YtdlijlecpopadaaGreatDoor.Rx
end
section
namespace Go.Proofs.YtdlijlecpopadaaGreatDoor.Rx
open Go.Aw Go.Aw.D Go.Proofs Ty Go.Nu
open Sq (W dW mU pX qV gL iM dK iV NetOk)
open Nu (uF tY Ay ltB geB)
abbrev eF(p:Part):Row:=⟨94,7,[bT p]⟩
abbrev EV:Row:=⟨94,7,[[int 0,int 0,int 0,int 0,.sl [],.sl [],str ByteArray.empty]]⟩
structure WkOk(w:Wk):Prop where
 net:NetOk w.x.net
 near:NearB w.near
 len:w.near.length=w.x.orders.length
 kind:w.kind<4611686018427387904
 dual:∀l,w.dual=some l→l.length=w.x.orders.length∧∀a∈l,a.size≤1048576
structure PartOk(p:Part):Prop where
 mem:p.memory<2^62
 board:p.board<2^62
 value:p.value.size≤1048576
theorem nE{x:Instance}{o:Nat}(h:o<x.orders.length):x.orders[o]?=some (aG x o):=by
 unfold aG;rw[List.getD,List.getElem?_eq_getElem h,Option.getD_some]
theorem Jh(a:Int)(k:Nat):0≤eK a k∧eK a k≤1:=by unfold eK;split <;> omega
theorem afP(n:Int):shV .shl .i64 n 16=W (n*65536):=(rfl)
theorem V5(n:Int):shV .shl .i64 n 24=W (n*16777216):=(rfl)
theorem MS(x y:Rat):(zT x y).1.size≤8194:=by
 by_cases h:(zT x y).2=0
 · obtain⟨e,hs⟩:=L2 h
   rw[e];exact E7 hs
 · have h2 : zT x y = (emp, 4) := by
     unfold zT at h ⊢;split
     · rfl
     · next hn=>rw[if_neg hn]at h;exact absurd rfl h
   rw[h2];exact Nat.zero_le _
theorem TY(a b:ByteArray):(xC a b).1.size≤8194:=by
 unfold xC;split
 · exact MS _ _
 · exact Nat.zero_le _
theorem Uy(a b:ByteArray):(wC a b).1.size≤8194:=by
 unfold wC;split
 · exact MS _ _
 · exact Nat.zero_le _
theorem vV(a:ByteArray)(n:Int):(addV a n).size≤8194:=by
 unfold addV;exact TY _ _
theorem U8(H0:aF)(jw:Nat)(w:Wk)(hw:H0 jw=some (lC w))(p:Part)(o:Nat)(ho:o<w.x.orders.length)(h:WkOk w)(hpo:PartOk p):
   LC Tryz.prog 89 [.op jw 0 0,.agg (bT p),int (o:Nat)] H0 (.tup [.agg (bT (fF w p o).1),boo (fF w p o).2]):=by
 have e:fF w p o=if(iV (p.memory:Nat) (o:Nat)||iV (p.board:Nat) (o:Nat))=true then(p,false)
   else({ p with memory:=pN w.near p.memory o,value:=wL (addV p.value ((eK (aG w.x o).now w.kind*16+eK (aG w.x o).last w.kind)*65536)) o w.dual },true):=rfl
 generalize fF w p o=S at e;refine LC.body (c:=Tryz.f89.body.getD .skip) (fun t=>t == 4) mixed Tryz.func89 rfl (by kernel_rfl) ?_;unfold Tryz.f89;simp only[Option.getD_some];simp only[go_sem];have U:=Sup.refl H0;refine aN fun j4 hj40=>?_
 have n_j4:=U.none hj40;generalize hGj4:aJ _ j4 _=HGj4;replace U:=Sup.eq (U.upd n_j4 _) hGj4;have R4:HGj4 j4=some (eF p):=by rw[←hGj4,aB];try rfl
 clear hGj4 hj40;simp only[go_sem,R4];refine aN fun j6 hj60=>?_
 have ne_j4_j6:j4≠j6:=aO R4 hj60;have n_j6:=U.none hj60;generalize hGj6:aJ _ j6 _=HGj6;replace U:=Sup.eq (U.upd n_j6 _) hGj6;replace R4:=(congrFun hGj6.symm j4).trans ((aD _ _ _ _ ne_j4_j6).trans R4);have R6:HGj6 j6=some (EV):=by rw[←hGj6,aB];try rfl
 clear hGj6 hj60;simp only[go_sem,R6,R4];refine PC.use (Sq.Cw _ _) ?_;simp only[go_sem,R4,R6];refine⟨_,fun _=>PC.q (Sq.Cw _ _) rfl,?_⟩;simp only[go_sem,R4,R6];refine aA (fun hb=>?_) (fun hb=>?_)
 · rw[if_pos hb]at e
   subst e;simp only[go_sem,R4,R6];refine aT R6 (by simp[bP]) ?_;simp only[go_sem];exact rN.flat ((U.upd n_j6 _)) _
 rw[if_neg (fun h=>Bool.noConfusion (hb.symm.trans h))]at e;subst e;simp only[go_sem,R4,R6];have hjw:=U.at hw;have njw4:jw≠j4:=Sup.ne (Sup.refl H0) hw n_j4;have njw6:jw≠j6:=Sup.ne (Sup.refl H0) hw n_j6;refine gB [jw] [(0,true),(1,true),(2,true),(3,true),(4,true),(6,true),(5,false),(7,false),(8,false),(9,false)] (by simp[hjw]) (by kernel_rfl) fun Hp Hr hp hr _ hr0=>?_
 have P_hjw:=(hp jw (by simp)).trans hjw;have Q_R4:=(hr j4 (by simp[njw4.symm])).trans R4;simp only[go_sem,P_hjw,Q_R4];refine PC.use (Cc w.near p.memory o (by rw[h.len];exact ho) h.near hpo.mem) ?_;simp only[go_sem,Q_R4];refine eA so3 Q_R4 (by simp[bP]) ?_;refine lI hr (by simp[njw4.symm]) ?_;generalize hP:aJ _ j4 _=HP;replace U:=Sup.eq (U.upd n_j4 _) hP;replace R6:=(congrFun hP.symm j6).trans ((aD _ _ _ _ (by first|exact ne_j6_j4|exact ne_j4_j6.symm)).trans R6);replace R4b:HP j4=some (eF { p with memory:=pN w.near p.memory o }):=by rw[←hP,aB];rfl
 clear hP;simp only[go_sem,R4b,R6];have hjw:=U.at hw;have b1:=inB ho;have g1:=aH (f:=aX) (nE ho);refine gB [jw] [(0,true),(1,true),(2,true),(3,true),(4,true),(5,true),(6,true),(7,true),(8,true),(9,true),(10,true),(11,true),(12,true),(13,true),(14,true),(15,true),(16,true),(17,true),(18,true),(19,true),(20,true),(21,true),(22,true),(23,true),(24,true),(25,true),(26,true),(27,true),(28,true),(29,true),(30,true)] (by simp[hjw]) (by kernel_rfl) fun Hp Hr hp hr _ hr0=>?_
 have P_hjw:=(hp jw (by simp)).trans hjw;simp only[go_sem,g1,b1,P_hjw];refine⟨_,PC.q (DP _ _) rfl,?_⟩;simp only[go_sem,P_hjw,g1,b1];refine⟨_,PC.q (DP _ _) rfl,?_⟩;have d1:=Jh (aG w.x o).now w.kind;have d2:=Jh (aG w.x o).last w.kind;generalize eK (aG w.x o).now w.kind=D1 at *;generalize eK (aG w.x o).last w.kind=D2 at *;have w1:IntKind.i64.wrap (D1*16)=D1*16:=aU (by omega);have w2:IntKind.i64.wrap (D1*16+D2)=D1*16+D2:=aU (by omega);simp only[go_sem,P_hjw,w1,w2];refine oC hr ?_;simp only[go_sem,R4b];have w3:shV .shl .i64 (D1*16+D2) 16=(D1*16+D2)*65536:=(afP _).trans (aU (by omega));rw[w3];have hD:0≤(D1*16+D2)*65536∧(D1*16+D2)*65536≤1114112:=by omega
 generalize (D1*16+D2)*65536=D at *;refine⟨by omega,LC.use (Lf _ _ _ _ hpo.value (by omega) (by omega)) ?_⟩;simp only[go_sem,R4b];refine eA Vj R4b (by simp[bP]) ?_;generalize hP:aJ _ j4 _=HP;replace U:=Sup.eq (U.upd n_j4 _) hP;replace R6:=(congrFun hP.symm j6).trans ((aD _ _ _ _ (by first|exact ne_j6_j4|exact ne_j4_j6.symm)).trans R6);replace R4c:HP j4=some (eF { p with memory:=pN w.near p.memory o,value:=addV p.value D }):=by rw[←hP,aB];rfl
 clear hP;simp only[go_sem,R4c,R6];have hjw:=U.at hw;have hvs:=vV p.value D;simp only[go_sem,hjw];cases hd:w.dual with
 | none=>
   rw[show NO none=.v (.slice none 0 0)from rfl];simp only[go_sem];refine aA (fun hb=>nomatch hb) (fun _=>?_);simp only[go_sem,R4c,R6];refine aT R6 (by simp[bP]) ?_;simp only[go_sem];exact rN.flat (U.upd n_j6 _) _
 | some l=>
   obtain⟨hdl,hds⟩:=h.dual l hd;obtain⟨q,hq⟩:=bA (l:=l) (k:=o) (by omega);have hne:l.map Go.Aw.D.dZ≠[]:=fun e=>by rw[List.map_eq_nil_iff]at e;rw[e]at hq;simp at hq
   have hD:iG w=iG w:=rfl;rw[show NO (some l)=.sl (l.map Go.Aw.D.dZ)from rfl];simp only[go_sem];refine⟨fun e=>absurd e hne,?_⟩;refine aA (fun _=>?_) (fun hb=>nomatch hb);have b3:=inB (show o<l.length by omega);have g3:=aH (f:=Go.Aw.D.dZ) hq;have e22:(iG w).getD 22 .any=.sl (l.map Go.Aw.D.dZ):=by rw[II,hd];rfl
   refine gB [jw] [(0,true),(2,true),(3,true),(4,true),(5,true),(6,true),(7,true),(8,true),(1,false),(9,false),(10,true),(11,true),(12,true),(13,true),(14,false)] (by simp[hjw]) (by kernel_rfl) fun Hp Hr hp hr _ hr0=>?_
   have P_hjw:=(hp jw (by simp)).trans hjw;have Q_R4c:=(hr j4 (by simp[njw4.symm])).trans R4c;simp only[go_sem,e22,b3,g3,P_hjw,Q_R4c];refine PC.use (tY _ _ (by omega) (hds q (List.mem_of_getElem? hq))) ?_;simp only[go_sem,Q_R4c];refine eA Vj Q_R4c (by simp[bP]) ?_;refine lI hr (by simp[njw4.symm]) ?_;generalize hP:aJ _ j4 _=HP;replace U:=Sup.eq (U.upd n_j4 _) hP;replace R6:=(congrFun hP.symm j6).trans ((aD _ _ _ _ (by first|exact ne_j6_j4|exact ne_j4_j6.symm)).trans R6);replace R4d:HP j4=some (eF { p with memory:=pN w.near p.memory o,value:=(wC (addV p.value D) q).1 }):=by rw[←hP,aB];rfl
   clear hP;simp only[go_sem,R4d,R6];refine aT R6 (by simp[bP]) ?_;simp only[go_sem];have e3:wL (addV p.value D) o (some l)=(wC (addV p.value D) q).1:=by
     show(wC (addV p.value D) (l.getD o ByteArray.empty)).1=_;rw[List.getD,hq];rfl
   rw[e3];exact rN.flat (U.upd n_j6 _) _
theorem WR(a b:List Int)(hl:a.length≤1048576)(hab:a.length=b.length):PC Tryz.prog 149 [.sl (a.map aM),.sl (b.map aM)] (.tup [.sl ((pX a b).map aM),int 0]):=
 RC.conv (RC.mono (Sq.aaN a b hl hab) fun x H' ⟨k,hx,hk⟩=>hx▸.tup _ _ (.cons _ _ _ _ (.row k _ _ hk (ConvE.refl _)) (.cons _ _ _ _ (.refl _) .nil)))
theorem Xr(a b:List Int)(hl:a.length≤1048576)(hab:a.length=b.length):PC Tryz.prog 150 [.sl (a.map aM),.sl (b.map aM)] (.tup [.sl ((qV a b).map aM),int 0]):=
 RC.conv (RC.mono (Sq.acH a b hl hab) fun x H' ⟨k,hx,hk⟩=>hx▸.tup _ _ (.cons _ _ _ _ (.row k _ _ hk (ConvE.refl _)) (.cons _ _ _ _ (.refl _) .nil)))
abbrev Me(o:Order):Row:=⟨143,16,[aX o]⟩
theorem Ma{a b:Nat}(ha:a<2^63)(hb:b<2^63):mP .andNot .i64 (a:Int) (b:Int)=((a ^^^ (a &&& b):Nat):Int):=by
 have hx:∀x y:BitVec 64,x &&& ~~~y=x ^^^ (x &&& y):=fun x y=>by
   ext i hi
   simp only[BitVec.getElem_and,BitVec.getElem_not,BitVec.getElem_xor];cases x[i] <;> cases y[i] <;> rfl
 have h:((BitVec.ofInt 64 (a:Int) &&& ~~~BitVec.ofInt 64 (b:Int)).toNat:Int)=((a ^^^ (a &&& b):Nat):Int):=by
   rw[hx,BitVec.toNat_xor,BitVec.toNat_and,BitVec.toNat_ofInt,BitVec.toNat_ofInt];have h1:((a:Int)%((2^64:Nat):Int)).toNat=a:=by omega
   have h2:((b:Int)%((2^64:Nat):Int)).toNat=b:=by omega
   rw[h1,h2]
 refine Eq.trans (congrArg IntKind.i64.wrap h) ?_;have h3:a &&& b<2^63:=Nat.lt_of_le_of_lt Nat.and_le_left ha;have:=Nat.xor_lt_two_pow ha h3;exact aU (by omega)
theorem MU(a b:List Int)(h:a.length=b.length):(pX a b).length=a.length∧(qV a b).length=a.length:=by
 constructor
 · show(List.zipWith _ a b).length=_
   rw[List.length_zipWith];omega
 · show(List.zipWith _ a b).length=_
   rw[List.length_zipWith];omega
theorem Ql(H0:aF)(jw:Nat)(w:Wk)(hw:H0 jw=some (lC w))(p:Part)(o:Nat)(d:Bool)(ho:o<w.x.orders.length)(h:WkOk w)(hpo:PartOk p)(hol:o≤61)
   (hl:p.load.length=(aG w.x o).load.length) (hll:p.load.length≤1048576):
   LC Tryz.prog 90 [.op jw 0 0,.agg (bT p),.agg (cK ⟨(o:Nat),d⟩)] H0 (.tup [.agg (bT (eS w p o d).1),boo (eS w p o d).2]):=by
 refine LC.body (c:=Tryz.f90.body.getD .skip) (fun t=>t == 4) mixed Tryz.func90 rfl (by kernel_rfl) ?_;unfold Tryz.f90;simp only[Option.getD_some];simp only[go_sem];have U:=Sup.refl H0;refine aN fun j4 hj40=>?_
 have n_j4:=U.none hj40;generalize hGj4:aJ _ j4 _=HGj4;replace U:=Sup.eq (U.upd n_j4 _) hGj4;have R4:HGj4 j4=some (eF p):=by rw[←hGj4,aB];try rfl
 clear hGj4 hj40;simp only[go_sem,R4];refine aN fun j6 hj60=>?_
 have ne_j4_j6:j4≠j6:=aO R4 hj60;have n_j6:=U.none hj60;generalize hGj6:aJ _ j6 _=HGj6;replace U:=Sup.eq (U.upd n_j6 _) hGj6;replace R4:=(congrFun hGj6.symm j4).trans ((aD _ _ _ _ ne_j4_j6).trans R4);have R6:HGj6 j6=some (EV):=by rw[←hGj6,aB];try rfl
 clear hGj6 hj60;simp only[go_sem,R6,R4];have b1:=inB ho;have g1:=aH (f:=aX) (nE ho);have njw4:jw≠j4:=Sup.ne (Sup.refl H0) hw n_j4;have njw6:jw≠j6:=Sup.ne (Sup.refl H0) hw n_j6;have hjw:=U.at hw;refine gB [jw] [(0,true),(1,true),(2,true),(3,true),(4,true),(5,true),(6,true),(7,true),(8,true),(9,false),(10,false)] (by simp[hjw]) (by kernel_rfl) fun Hp Hr hp hr _ hr0=>?_
 have P_hjw:=(hp jw (by simp)).trans hjw;simp only[go_sem,g1,b1,P_hjw];refine aN fun j8 hq8=>?_
 simp only[go_sem];refine aT (aB _ _ _) (by simp[mH]) ?_;refine wR hr hq8 fun hj80=>?_
 have ne_j4_j8:j4≠j8:=aO R4 hj80;have ne_j6_j8:j6≠j8:=aO R6 hj80;have n_j8:=U.none hj80;generalize hGj8:aJ (aJ _ j8 _) j8 _=HGj8;replace U:=Sup.eq ((U.upd n_j8 _).upd n_j8 _) hGj8;replace R4:=(congrFun hGj8.symm j4).trans ((aD _ _ _ _ ne_j4_j8).trans ((aD _ _ _ _ ne_j4_j8).trans R4));replace R6:=(congrFun hGj8.symm j6).trans ((aD _ _ _ _ ne_j6_j8).trans ((aD _ _ _ _ ne_j6_j8).trans R6));have R8:HGj8 j8=some (Me (aG w.x o)):=by rw[←hGj8,aB];try rfl
 clear hGj8 hj80;simp only[go_sem,R8,R4,R6];have hjw:=U.at hw;have njw8:jw≠j8:=Sup.ne (Sup.refl H0) hw n_j8;generalize hO:aG w.x o=O at *;have eL:eS w p o d=if d=false then({ p with load:=pX p.load O.load,board:=if kV O=true then p.board ||| 2^o else p.board },gL (pX p.load O.load) w.t.cap)
   else if kV O=true then
     if iV (p.board:Nat) (o:Nat)=true then({ p with load:=qV p.load O.load,board:=Av p.board o },gL (qV p.load O.load) w.t.cap)else(p,false)
   else(p,gL p.load w.t.cap):=by rw[←hO];rfl
 generalize eS w p o d=S at eL;have hzl:(pX p.load O.load).length≤1048576∧(qV p.load O.load).length≤1048576:=by have:=MU _ _ hl;omega
 have hp63:2^o<2^63:=Nat.pow_lt_pow_right (by decide) (by omega);have hsh:=Sq.K7 (show o≤62 by omega);refine fW (fun ρ' H'=>∃(P':Part),ρ' 0=.op jw 0 0∧ρ' 4=.op j4 0 0∧ρ' 6=.op j6 0 0∧S=(P',gL P'.load w.t.cap)∧P'.load.length≤1048576∧H' j4=some (eF P')∧H' j6=some EV∧Sup H0 H') ?_ fun K hK hKe hKr=>aA (fun hb=>?_) (fun hb=>?_)
 rotate_left
 · have hd:d=false:=by simpa using hb
   rw[if_pos hd]at eL;simp only[go_sem,R4,R6,R8];refine PC.use (WR p.load O.load hll hl) ?_;simp only[go_sem,R4];refine eA WD R4 (by simp[bP]) ?_;generalize hP:aJ _ j4 _=HP;replace U:=Sup.eq (U.upd n_j4 _) hP;replace R6:=(congrFun hP.symm j6).trans ((aD _ _ _ _ (by first|exact ne_j6_j4|exact ne_j4_j6.symm)).trans R6);replace R4:HP j4=some (eF { p with load:=pX p.load O.load }):=by rw[←hP,aB];rfl
   clear hP;simp only[go_sem,R4,R6];refine aA (fun hb=>?_) (fun hb=>?_)
   · have hB:kV O=true:=hb
     rw[if_pos hB]at eL;simp only[go_sem];refine kR [(0,true),(2,true),(3,true),(4,true),(1,false),(5,true),(6,true),(7,false)] (by kernel_rfl) ?_;simp only[go_sem,R4,hsh,Sq.LZ (show p.board<2^63 from Nat.lt_trans hpo.board (by decide)) hp63];refine⟨by omega,?_⟩;refine eA so3 R4 (by simp[bP]) ?_;generalize hP:aJ _ j4 _=HP;replace U:=Sup.eq (U.upd n_j4 _) hP;replace R6:=(congrFun hP.symm j6).trans ((aD _ _ _ _ (by first|exact ne_j6_j4|exact ne_j4_j6.symm)).trans R6);replace R4:HP j4=some (eF { p with load:=pX p.load O.load,board:=p.board ||| 2^o }):=by rw[←hP,aB];rfl
     clear hP;simp only[go_sem,R4,R6];refine hK _ _ ⟨_,by simp only[go_sem],by simp only[go_sem],by simp only[go_sem],eL,hzl.1,R4,R6,U⟩
   · have hB:¬kV O=true:=fun h=>Bool.noConfusion (hb.symm.trans h)
     rw[if_neg hB]at eL;simp only[go_sem];refine hK _ _ ⟨_,by simp only[go_sem],by simp only[go_sem],by simp only[go_sem],eL,hzl.1,R4,R6,U⟩
 · have hd:¬d=false:=by simpa using hb
   rw[if_neg hd]at eL;simp only[go_sem];refine aA (fun hb=>?_) (fun hb=>?_)
   · have hB:kV O=true:=hb
     rw[if_pos hB]at eL;simp only[go_sem,R4];refine PC.use (Sq.Cw _ _) ?_;simp only[go_sem,R4,R6];refine aA (fun hb=>?_) (fun hb=>?_)
     · have hh:¬iV (p.board:Nat) (o:Nat)=true:=by simpa using hb
       rw[if_neg hh]at eL;subst eL;simp only[go_sem,R4,R6];refine aT R6 (by simp[bP]) ?_;simp only[go_sem];refine hKr _ _ ?_;simp only[go_sem];exact rN.flat (U.upd n_j6 _) _
     · have hh:iV (p.board:Nat) (o:Nat)=true:=by simpa using hb
       rw[if_pos hh]at eL;simp only[go_sem,R4,R8];refine PC.use (Xr p.load O.load hll hl) ?_;simp only[go_sem,R4];refine eA WD R4 (by simp[bP]) ?_;generalize hP:aJ _ j4 _=HP;replace U:=Sup.eq (U.upd n_j4 _) hP;replace R6:=(congrFun hP.symm j6).trans ((aD _ _ _ _ (by first|exact ne_j6_j4|exact ne_j4_j6.symm)).trans R6);replace R4:HP j4=some (eF { p with load:=qV p.load O.load }):=by rw[←hP,aB];rfl
       clear hP;simp only[go_sem,R4,R6];refine kR [(0,true),(2,true),(3,true),(4,true),(1,false),(5,true),(6,true),(7,false)] (by kernel_rfl) ?_;simp only[go_sem,R4,hsh,Ma (show p.board<2^63 from Nat.lt_trans hpo.board (by decide)) hp63];refine⟨by omega,?_⟩;refine eA so3 R4 (by simp[bP]) ?_;generalize hP:aJ _ j4 _=HP;replace U:=Sup.eq (U.upd n_j4 _) hP;replace R6:=(congrFun hP.symm j6).trans ((aD _ _ _ _ (by first|exact ne_j6_j4|exact ne_j4_j6.symm)).trans R6);replace R4:HP j4=some (eF { p with load:=qV p.load O.load,board:=Av p.board o }):=by rw[←hP,aB];rfl
       clear hP;simp only[go_sem,R4,R6];refine hK _ _ ⟨_,by simp only[go_sem],by simp only[go_sem],by simp only[go_sem],eL,hzl.2,R4,R6,U⟩
   · have hB:¬kV O=true:=fun h=>Bool.noConfusion (hb.symm.trans h)
     rw[if_neg hB]at eL;simp only[go_sem];refine hK _ _ ⟨_,by simp only[go_sem],by simp only[go_sem],by simp only[go_sem],eL,hll,R4,R6,U⟩
 rintro ρ H ⟨P',e0,e4,e6,hP,hPl,R4,R6,U⟩;have hjw:=U.at hw;simp only[go_sem,e0,e4,e6];refine gB [jw,j4] [(0,true),(1,true),(2,true),(3,true),(4,true),(5,true),(6,true),(7,true),(8,false),(9,false),(10,true)] (by simp[hjw,R4]) (by kernel_rfl) fun Hp Hr hp hr _ hr0=>?_
 have P_hjw:=(hp jw (by simp)).trans hjw;have P_R4:=(hp j4 (by simp)).trans R4;have Q_R6:=(hr j6 (by simp[njw6.symm,ne_j4_j6.symm])).trans R6;simp only[go_sem,e0,e4,e6,P_hjw,P_R4,Q_R6];refine PC.use (Sq.My P'.load w.t.cap hPl) ?_;simp only[go_sem,e0,e4,e6,Q_R6];refine aT Q_R6 (by simp[bP]) ?_;simp only[go_sem,e0,e4,e6];refine lI hr (by simp[njw6.symm,ne_j4_j6.symm]) ?_;simp only[go_sem,e0,e4,e6];rw[hP];exact rN.flat (U.upd n_j6 _) _
end Go.Proofs.YtdlijlecpopadaaGreatDoor.Rx
end
