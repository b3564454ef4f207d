/- Texts joined by a program: RxC, RxD. -/
import Derived.Test.YtdlijlecpopadaaGreatDoorZz26

section
set_option linter.unusedSimpArgs false
set_option linter.unusedVariables false
namespace Go.Proofs.YtdlijlecpopadaaGreatDoor.Rx
open Go.Aw Go.Aw.D Go.Proofs Ty Go.Nu
open Sq (W dM nN rI sP iJ jX eK kE NetOk rK tR qK rG)
open Mv (gC fF kJ NC.pc bQ)
open Nu (wA wU BW ltB geB)
set_option maxRecDepth 100000
theorem bI.cutO{P : Program}{f : FuncId}{args : List AV}{H : aG}{K : AV → aG → Prop}
   (h:bI P f args H fun a H'=>K a H'∨∃j i row,a=.oz j 0 i∧H' j=some row∧i≤row.es.length∧∀j',H' j'=none→K (.os j') (aI (aI H' j none) j' (some ⟨row.e,row.sz,row.es.take i⟩))):bI P f args H K:=by
 intro S w vals hS ha;refine(h S w vals hS ha).mono fun e w' ⟨v,x,H',S',he,hx,hS',hv,hg,hn⟩=>?_
 rcases hx with hx|hx
 · exact⟨v,x,H',S',he,hx,hS',hv,hg,hn⟩
 have h2:∀K2:AV→aG→Prop,(∃j i row,x=.oz j 0 i∧H' j=some row∧i≤row.es.length∧∀j',H' j'=none→K2 (.os j') (aI (aI H' j none) j' (some ⟨row.e,row.sz,row.es.take i⟩)))→∃v x H' S',e=.returned v∧K2 x H'∧St S' w' H'∧rep S' w' x v∧Grow S w S' w'∧∀k,k<S.N→H k=none→H' k=none:=by
   rintro K2 ⟨j,i,row,rfl,hj,hi,hk⟩;simp only[rep]at hv;obtain⟨hjN,ad,n,c,ad',cc,hloc,hvv,_,hin,_,h0⟩:=hv;obtain⟨rfl,rfl⟩:=h0 trivial;obtain⟨c1,c2⟩:=hS'.cut hj hloc hi;have hnone:H' S'.N=none:=by
     cases e:H' S'.N with
     | none=>rfl
     | some row2=>exact absurd (hS'.rows _ _ e).lt (Nat.lt_irrefl _)
   refine⟨v,.os S'.N,_,_,he,hk S'.N hnone,c1,?_,hg.trans c2,fun q hq h0=>?_⟩
   · simp only[rep]
     refine⟨Nat.lt_succ_self _,?_,ad',i-0,cc,hvv⟩;rw[hvv];simp[Sg.addRow]
   · have hqN:q≠S'.N:=Nat.ne_of_lt (Nat.lt_of_lt_of_le hq hg.le.N)
     rw[aC _ _ _ _ hqN];by_cases e:q=j
     · subst e;rw[aA]
     · rw[aC _ _ _ _ e];exact hn q hq h0
 exact h2 K hx
theorem GA{α:Type}{p:α→Bool}:∀{l:List α} {n:Int},0≤n→rK p l n= -1→∀y∈l,p y=false
 | [],_,_,_,y,hy=>by simp at hy
 | a::r,n,hn,h,y,hy=>by
   simp only[rK]at h;split at h
   · omega
   · next hp=>
     rcases List.mem_cons.1 hy with rfl|hy
     · simpa using hp
     · exact GA (by omega) h y hy
theorem Ga{α:Type}{p:α→Bool}:∀{l:List α} {n:Int},rK p l n≠ -1→∃(i:Nat) (y:α),rK p l n=n+i∧l[i]?=some y∧p y=true∧∀u∈l.take i,p u=false
 | [],_,h=>absurd rfl h
 | a::r,n,h=>by
   simp only[rK]at h ⊢;by_cases hp:p a=true
   · exact⟨0,a,by rw[if_pos hp];omega,rfl,hp,by simp⟩
   · rw[if_neg hp]at h ⊢
     obtain⟨i,y,h1,h2,h3,h4⟩:=Ga h;refine⟨i+1,y,by omega,h2,h3,fun u hu=>?_⟩;rw[List.take_succ_cons]at hu;rcases List.mem_cons.1 hu with rfl|hu
     · simpa using hp
     · exact h4 u hu
theorem E2{α:Type}(l:List α){m:Nat}{v:α}(h:m<l.length):(l.set m v).take (m+1)=l.take m++[v]:=by
 have h2:(l.set m v)[m]?=some v:=by simp[h]
 rw[List.take_add_one,h2,List.take_set_of_le (Nat.le_refl m)];rfl
theorem JY{g : Nat}{cap : List AV}{p : Clk → Bool}(l : List Clk)(hl : l.length ≤ 4000000000000000000)(hok : aE Tryz.prog g = true)(hg : ∀ v ∈ l, PC Tryz.prog g ((.agg (cV v)) :: cap) (boo (p v))):
   PC Tryz.prog 156 [.sl (l.map cV),.fn g cap] (int (rK p l 0)):=by
 refine PC.body (c:=Tryz.f156.body.getD .skip) (fun _=>false) mixed Tryz.func156 rfl (by kernel_rfl) ?_;unfold Tryz.f156;simp only[Option.getD_some];simp only[go_sem];refine⟨fun ρ _=>∃k:Nat,k≤l.length∧ρ 0=.sl (l.map cV)∧ρ 1=.fn g cap∧ρ 7=int l.length∧ρ 8=int k∧∀u∈l.take k,p u=false,fun ρ _=>l.length-bE (ρ 8),⟨0,Nat.zero_le _,rfl,rfl,rfl,rfl,by simp⟩,?_⟩;rintro ρ H ⟨k,hk,h0,h1,h7,h8,hz⟩;simp only[go_sem,h0,h1,h7,h8];refine aB (fun hlt=>?_) (fun hge=>?_)
 · have hlt:=cJ hlt
   obtain⟨u,hu⟩:=aU hlt;have b1:=inB hlt;simp only[go_sem,h0,h1,h7,h8,aH hu,b1,hok];refine PC.use (hg u (List.mem_of_getElem? hu)) ?_;simp only[go_sem,h0,h1,h7,h8];refine aB (fun hb=>?_) (fun hb=>?_)
   · simp only[go_sem,h8]
     exact gC (by rw[tR hz hu hb];omega)
   · simp only[go_sem,h0,h1,h7,h8,bA (show k≤4611686018427387904 by omega)]
     exact⟨⟨k+1,hlt,rfl,bQ (p:=fun u=>p u=false) hu hb hz⟩,by simp only[aJ];omega⟩
 · have hge:=cM hk hge
   subst hge;rw[List.take_length]at hz;simp only[go_sem];exact gC (by rw[qK hz])
theorem Kh{g : Nat}{cap : List AV}{p : Clk → Bool}(l : List Clk)(hl : l.length ≤ 4000000000000000000)(hok : aE Tryz.prog g = true)(hg : ∀ v ∈ l, PC Tryz.prog g ((.agg (cV v)) :: cap) (boo (p v))):
   PC Tryz.prog 98 [.sl (l.map cV),.fn g cap] (boo (l.any p)):=by
 refine PC.body (c:=Tryz.f98.body.getD .skip) (fun _=>false) mixed Tryz.func98 rfl (by kernel_rfl) ?_;unfold Tryz.f98;simp only[Option.getD_some];simp only[go_sem];refine PC.use (JY l hl hok hg) ?_;simp only[go_sem];exact fF (rG l 0 (Int.le_refl _))
theorem Hi(u v:Clk):nZ (cV u) 0 (cV v)=cV v:=(rfl)
theorem V4{g : Nat}{cap cap' : List AV}{p : Clk → Bool}(l : List Clk)(H0 : aG)(jd : Nat)(hj : H0 jd = some ⟨157, 2, l.map cV⟩)(hl : l.length ≤ 1000000000)(hok : aE Tryz.prog g = true)(hg : ∀ v ∈ l, PC Tryz.prog g ((.agg (cV v)) :: cap') (boo (p v)))
   (hc:∀H:aG,(∀k row,k≠jd→H0 k=some row→H k=some row)→ConvL H cap cap') {K:AV→aG→Prop}
   (hK:∀(j':Nat) (H':aG),(∀k row,k≠jd→H0 k=some row→H' k=some row)→(H0 j'=none∨j'=jd)→H' j'=some ⟨157,2,(l.filter fun v=> !p v).map cV⟩→K (.os j') H'):
   bI Tryz.prog 154 [.os jd,.fn g cap] H0 K:=by
 have hstep:bI Tryz.prog 154 [.os jd,.fn g cap] H0 fun a H'=>K a H'∨∃j i row,a=.oz j 0 i∧H' j=some row∧i≤row.es.length∧∀j',H' j'=none→K (.os j') (aI (aI H' j none) j' (some ⟨row.e,row.sz,row.es.take i⟩)):=by
   refine bI.body (c:=Tryz.f154.body.getD .skip) (fun _=>false) mixed Tryz.func154 rfl (by kernel_rfl) ?_;unfold Tryz.f154;simp only[Option.getD_some];simp only[go_sem];refine dO.use ⟨[.sl (l.map cV),.fn g cap'],.cons _ _ _ _ (.row _ _ _ hj (ConvE.refl _)) (.cons _ _ _ _ (.fn _ _ _ (hc H0 fun _ _ _ h=>h)) .nil),JY l (by omega) hok hg,rfl⟩ ?_;simp only[go_sem];refine aB (fun hb=>?_) (fun hb=>?_)
   · have hm:∀y∈l,p y=false:=GA (Int.le_refl 0) (by simpa using hb)
     simp only[go_sem];refine .inl (hK jd H0 (fun _ _ _ h=>h) (.inr rfl) ?_);rw[List.filter_eq_self.2 (fun v hv=>by rw[hm v hv];rfl)];exact hj
   obtain⟨i,y,hi,hy,hpy,hmin⟩:=Ga (p:=p) (l:=l) (by simpa using hb);have hil:=(List.getElem?_eq_some_iff.1 hy).1;rw[Int.zero_add]at hi;rw[hi];simp only[go_sem,bA (show i≤4611686018427387904 by omega)];refine⟨fun ρ H=>∃(k m:Nat) (E:List Clk),k≤l.length∧m<k∧ρ 0=.os jd∧ρ 1=.fn g cap∧ρ 5=int m∧ρ 6=int k∧H jd=some ⟨157,2,E.map cV⟩∧E.length=l.length∧E.take m=(l.take k).filter (fun v=> !p v)∧E.drop k=l.drop k∧∀q row,q≠jd→H0 q=some row→H q=some row,fun ρ _=>l.length-bE (ρ 6),⟨i+1,i,l,hil,Nat.lt_succ_self _,by simp only[go_sem],by simp only[go_sem],(by simp only[go_sem]),(by simp only[go_sem]),hj,rfl,?_,rfl,fun _ _ _ h=>h⟩,?_⟩
   · rw[cL hy,List.filter_append,List.filter_eq_self.2 (fun v hv=>by rw[hmin v hv];rfl)]
     simp[hpy]
   rintro ρ H ⟨k,m,E,hk,hmk,h0,h1,h5,h6,R,hE,ht,hd,hs⟩;simp only[go_sem,h0,h1,h5,h6,R,List.length_map];refine aB (fun hlt=>?_) (fun hge=>?_)
   · have hlt:k<l.length:=by simp at hlt;omega
     obtain⟨v,hv⟩:=aU hlt;have hEv:E[k]?=some v:=by
       have h2:=congrArg (fun L=>L[0]?) hd;simp only[List.getElem?_drop,Nat.add_zero]at h2;rw[h2,hv]
     have b1:((0:Int)≤(k:Nat)∧((k:Nat):Int)<((E.length:Nat):Int)):=by omega
     have b2:((0:Int)≤(m:Nat)∧((m:Nat):Int)<((E.length:Nat):Int)):=by omega
     simp only[go_sem,h0,h1,h5,h6,R,List.length_map,aH hEv,b1,hok];refine⟨by omega,aL fun i7 h7=>?_⟩;have ne7:jd≠i7:=aN R h7;simp only[go_sem,h0,h1,h5,h6];refine aP (aA _ _ _) (by simp[lH]) ?_;generalize hG:aI (aI H i7 _) i7 _=HG;have R':HG jd=some ⟨157,2,E.map cV⟩:=by rw[←hG,aC _ _ _ _ ne7,aC _ _ _ _ ne7];exact R
     have R7:HG i7=some ⟨157,2,[cV v]⟩:=by rw[←hG,aA];rfl
     have hs':∀q row,q≠jd→H0 q=some row→HG q=some row:=fun q row hq h=>by
       have h2:=hs q row hq h;have:q≠i7:=fun e=>by rw[e,h7]at h2;cases h2
       rw[←hG,aC _ _ _ _ this,aC _ _ _ _ this];exact h2
     clear hG h7 R hs;simp only[go_sem,h0,h1,h5,h6,R7,hok];refine dO.use ⟨(.agg (cV v))::cap',.cons _ _ _ _ (.refl _) (hc HG hs'),hg v (List.mem_of_getElem? hv),rfl⟩ ?_;simp only[go_sem,h0,h1,h5,h6];refine dW (fun ρ' H'=>ρ' 0=.os jd∧ρ' 1=.fn g cap∧ρ' 6=int k∧∃(m':Nat) (E':List Clk),m'<k+1∧ρ' 5=int m'∧H' jd=some ⟨157,2,E'.map cV⟩∧E'.length=l.length∧E'.take m'=(l.take (k+1)).filter (fun v=> !p v)∧E'.drop (k+1)=l.drop (k+1)∧∀q row,q≠jd→H0 q=some row→H' q=some row) ?_ fun K' hK' _ _=>aB (fun hb=>?_) (fun hb=>?_)
     rotate_left
     · have hp:p v=false:=by simpa using hb
       simp only[go_sem,h0,h5,R7,R',List.length_map,b2];refine aP R' (by simp[lH];omega) ?_;simp only[go_sem,h5,bA (show m≤4611686018427387904 by omega)];refine hK' _ _ ⟨by simp only[go_sem,h0],by simp only[go_sem,h1],by simp only[go_sem,h6],m+1,E.set m v,by omega,rfl,?_,by rw[List.length_set,hE],?_,?_,fun q row hq h=>by rw[aC _ _ _ _ hq];exact hs' q row hq h⟩
       · rw[aA,List.map_set]
         obtain⟨u,hu⟩:=aU (l:=E) (k:=m) (by omega);rw[aH hu];exact congrArg (fun x=>some (⟨157,2,(E.map cV).set m x⟩:Row)) (Hi u v)
       · rw[E2 E (by omega),ht,cL hv,List.filter_append]
         simp[hp]
       · rw[List.drop_set_of_lt (by omega),←List.drop_drop,hd,List.drop_drop]
     · have hp:p v=true:=by simpa using hb
       simp only[go_sem];refine hK' _ _ ⟨by simp only[go_sem,h0],by simp only[go_sem,h1],by simp only[go_sem,h6],m,E,by omega,by simp only[go_sem,h5],R',hE,?_,?_,hs'⟩
       · rw[ht,cL hv,List.filter_append]
         simp[hp]
       · rw[←List.drop_drop,hd,List.drop_drop]
     rintro ρ H ⟨h0,h1,h6,m',E',hmk',h5,R,hE',ht',hd',hs2⟩;simp only[go_sem,h6,bA (show k≤4611686018427387904 by omega)];exact⟨⟨k+1,m',E',hlt,hmk',h0,h1,h5,rfl,R,hE',ht',hd',hs2⟩,by simp only[aJ];omega⟩
   · have hge:k=l.length:=by simp at hge;omega
     subst hge;rw[List.take_length]at ht;have hml:m≤E.length:=by omega
     simp only[go_sem,h0,h5,R,List.length_map];refine⟨by omega,Uh aiX Zk R (.inr ⟨_,rfl,rfl⟩) rfl ?_⟩;simp only[go_sem,h0,h5,aA];refine⟨⟨by omega,by simp;omega⟩,.inr ⟨jd,m,_,rfl,aA _ _ _,?_,fun j' hj'=>?_⟩⟩
     · simp;omega
     have hj0:j'≠jd:=fun e=>by rw[e,aA]at hj';cases hj'
     rw[aC _ _ _ _ hj0]at hj';have hjn:H0 j'=none:=by
       cases e:H0 j' with
       | none=>rfl
       | some row=>rw[hs j' row hj0 e]at hj';cases hj'
     refine hK j' _ (fun q row hq h=>?_) (.inl hjn) ?_
     · have hqj:q≠j':=fun e=>by rw[e,hjn]at h;cases h
       rw[aC _ _ _ _ hqj,aC _ _ _ _ hq,aC _ _ _ _ hq];exact hs q row hq h
     · rw[aA]
       refine congrArg (fun L=>some (⟨157,2,L⟩:Row)) ?_;rw[List.take_append_of_le_length (by simp;omega),List.take_append_of_le_length (by simp;omega),List.take_of_length_le (by simp;omega),←List.map_take,ht]
 exact bI.cutO hstep
theorem Sl(s:Stop)(a:Int):PC Tryz.prog 152 [.agg (iH s),int a] (.tup [int (jE s a).1,int (jE s a).2]):=by
 refine PC.body (c:=Tryz.f152.body.getD .skip) (fun _=>false) mixed Tryz.func152 rfl (by kernel_rfl) ?_;unfold Tryz.f152;simp only[Option.getD_some];simp only[go_sem];refine PC.use (Sq.W6 s a) ?_;unfold jE;by_cases h:kF a s.start>s.close
 · simp only[if_pos h]
   simp only[go_sem];refine aB (fun hb=>?_) (fun hb=>?_)
   · simp only[go_sem]
     exact .refl _
   · simp at hb
 · simp only[if_neg h]
   simp only[go_sem];refine aB (fun hb=>?_) (fun hb=>?_)
   · simp at hb
   · simp only[go_sem]
     exact .refl _
theorem QJ(d n:Clk):PC Tryz.prog 153 [.agg (cV d),.rp (cV n) 0] (boo (iF d n)):=by
 refine PC.body (c:=Tryz.f153.body.getD .skip) (fun _=>false) mixed Tryz.func153 rfl (by kernel_rfl) ?_;unfold Tryz.f153;simp only[Option.getD_some];simp only[go_sem];refine PC.use (Ds d n) ?_;simp only[go_sem];exact .refl _
theorem QP(d n:Clk):PC Tryz.prog 155 [.agg (cV d),.rp (cV n) 0] (boo (iF n d)):=by
 refine PC.body (c:=Tryz.f155.body.getD .skip) (fun _=>false) mixed Tryz.func155 rfl (by kernel_rfl) ?_;unfold Tryz.f155;simp only[Option.getD_some];simp only[go_sem];refine PC.use (Ds n d) ?_;simp only[go_sem];exact .refl _
theorem VJ(c d:Clk):PC Tryz.prog 99 [.agg (cV c),.rp (cV d) 0] (boo (iF c d)):=by
 refine PC.body (c:=Tryz.f99.body.getD .skip) (fun _=>false) mixed Tryz.func99 rfl (by kernel_rfl) ?_;unfold Tryz.f99;simp only[Option.getD_some];simp only[go_sem];refine PC.use (Ds c d) ?_;simp only[go_sem];exact .refl _
theorem Wv(s:Stop)(out:List Clk)(c:Clk):yY s out c=if((jE s c.ready).2 != 0)=true then out
 else if(out.any fun d=>iF d ⟨(jE s c.ready).1,c.since⟩)=true then out
 else(out.filter fun d=> !iF ⟨(jE s c.ready).1,c.since⟩ d)++[⟨(jE s c.ready).1,c.since⟩]:=rfl
theorem XQ(s:Stop)(out:List Clk)(c:Clk):(yY s out c).length≤out.length+1:=by
 unfold yY;split
 · omega
 · split
   · omega
   · have:=List.length_filter_le (fun d=> !iF ⟨(jE s c.ready).1,c.since⟩ d) out
     rw[List.length_append,List.length_singleton];omega
theorem CZ(s:Stop)(l:List Clk):∀k,((l.take k).foldl (yY s) []).length≤k
 | 0=>by simp
 | k+1=>by
   have h:=CZ s l k;by_cases hk:k<l.length
   · obtain⟨c,hc⟩:=aU hk
     rw[Sq.fY hc];exact Nat.le_trans (XQ _ _ _) (by omega)
   · rw[List.take_of_length_le (by omega)]
     rw[List.take_of_length_le (by omega)]at h;omega
theorem TX(s:Stop)(l:List Clk)(hl:l.length≤4194304):PC Tryz.prog 93 [.sl (l.map cV),.agg (iH s)] (.sl ((eA s l).map cV)):=by
 refine PC.body (c:=Tryz.f93.body.getD .skip) (fun t=>t == 5) mixed Tryz.func93 rfl (by kernel_rfl) ?_;unfold Tryz.f93;simp only[Option.getD_some];simp only[go_sem];refine aL fun j hj0=>?_
 generalize hGj:aI _ j _=HGj;have R:HGj j=some (rW []):=by rw[←hGj,aA];try rfl
 clear hGj hj0;simp only[go_sem,R];refine⟨fun ρ H=>∃(k:Nat) (j:Nat),k≤l.length∧ρ 3=.rp (iH s) 0∧ρ 11=.sl (l.map cV)∧ρ 12=int (l.length:Nat)∧ρ 13=int k∧ρ 5=.os j∧H j=some (rW ((l.take k).foldl (yY s) [])),fun ρ _=>l.length-bE (ρ 13),⟨0,j,Nat.zero_le _,by simp only[go_sem],by simp only[go_sem],by simp only[go_sem,List.length_map],(by simp only[go_sem];rfl),by simp only[go_sem],R⟩,?_⟩;rintro ρ H ⟨k,j,hk,e3,e11,e12,e13,e5,R⟩;simp only[go_sem,e3,e11,e12,e13,e5];refine aB (fun hlt=>?_) (fun hge=>?_)
 · have hlt:=ltB (by simpa using hlt)
   obtain⟨c,hc⟩:=aU hlt;have b1:=inB hlt;have hs:=Sq.fY (f:=yY s) (b:=([]:List Clk)) hc;have hlen:=CZ s l k;generalize (l.take k).foldl (yY s) []=out at *;rw[Wv]at hs;simp only[go_sem,e3,e11,e12,e13,e5,aH hc,b1];refine aL fun i7 hi70=>?_
   have ne_j_i7:j≠i7:=aN R hi70;simp only[go_sem,e3,e11,e12,e13,e5,R];refine aP (aA _ _ _) (by simp[lH]) ?_;generalize hGi7:aI (aI _ i7 _) i7 _=HGi7;replace R:=(congrFun hGi7.symm j).trans ((aC _ _ _ _ ne_j_i7).trans ((aC _ _ _ _ ne_j_i7).trans R));have R7:HGi7 i7=some (vS c):=by rw[←hGi7,aA];try rfl
   clear hGi7 hi70;simp only[go_sem,e3,e11,e12,e13,e5,R7,R];refine PC.use (Sl s c.ready) ?_;generalize jE s c.ready=dp at *;simp only[go_sem,e3,e11,e12,e13,e5];refine aB (fun hb=>?_) (fun hb=>?_)
   · rw[if_pos hb]at hs
     simp only[go_sem,e3,e11,e12,e13,e5,bA (show k≤4611686018427387904 by omega)];exact⟨⟨k+1,j,hlt,rfl,rfl,by rw[hs];exact R⟩,by simp only[aJ];omega⟩
   rw[if_neg (fun h=>Bool.noConfusion (hb.symm.trans h))]at hs;simp only[go_sem,e3,e11,e12,e13,e5,R7];refine aL fun i10 hi100=>?_
   have ne_j_i10:j≠i10:=aN R hi100;have ne_i7_i10:i7≠i10:=aN R7 hi100;simp only[go_sem,e3,e11,e12,e13,e5,R,R7];refine aP (aA _ _ _) (by simp[lH]) ?_;generalize hGi10:aI (aI _ i10 _) i10 _=HGi10;replace R:=(congrFun hGi10.symm j).trans ((aC _ _ _ _ ne_j_i10).trans ((aC _ _ _ _ ne_j_i10).trans R));replace R7:=(congrFun hGi10.symm i7).trans ((aC _ _ _ _ ne_i7_i10).trans ((aC _ _ _ _ ne_i7_i10).trans R7));have R10:HGi10 i10=some (vS ⟨dp.1,c.since⟩):=by rw[←hGi10,aA];try rfl
   clear hGi10 hi100;simp only[go_sem,e3,e11,e12,e13,e5,R10,R,R7];refine dO.use ⟨[.sl (out.map cV),.fn 153 [.rp (cV ⟨dp.1,c.since⟩) 0]],.cons _ _ _ _ (.row _ _ _ R (ConvE.refl _)) (.cons _ _ _ _ (.fn _ _ _ (.cons _ _ _ _ (.ptr _ _ _ _ _ R10 (by simp) (ConvL.refl _)) .nil)) .nil),Kh out (by omega) (by kernel_rfl) (fun v _=>QJ v _),rfl⟩ ?_;simp only[go_sem,e3,e11,e12,e13,e5];refine aB (fun hb=>?_) (fun hb=>?_)
   · rw[if_pos hb]at hs
     simp only[go_sem,e3,e11,e12,e13,e5,bA (show k≤4611686018427387904 by omega)];exact⟨⟨k+1,j,hlt,rfl,rfl,by rw[hs];exact R⟩,by simp only[aJ];omega⟩
   rw[if_neg (fun h=>Bool.noConfusion (hb.symm.trans h))]at hs;simp only[go_sem,e3,e11,e12,e13,e5];refine V4 (p:=fun d=>iF ⟨dp.1,c.since⟩ d) (cap':=[.rp (cV ⟨dp.1,c.since⟩) 0]) out _ j R (by omega) (by kernel_rfl) (fun v _=>QP v _) (fun H' h'=>.cons _ _ _ _ (.ptr _ _ _ _ _ (h' i10 _ ne_j_i10.symm R10) (by simp) (ConvL.refl _)) .nil) fun j1 H1 hk1 hj1 R1=>?_
   have R10b:=hk1 i10 _ ne_j_i10.symm R10;have hfl:=List.length_filter_le (fun d=> !iF ⟨dp.1,c.since⟩ d) out;simp only[go_sem,e3,e11,e12,e13,e5,R10b];refine aX R1 ⟨rfl,rfl⟩ (by simp only[go_sem]) (by simp only[List.length_map,List.length_cons,List.length_nil];omega) (fun j2 hj2=>?_);simp only[go_sem,e3,e11,e12,e13,e5,bA (show k≤4611686018427387904 by omega)];refine⟨⟨k+1,j2,hlt,rfl,rfl,?_⟩,by simp only[aJ];omega⟩;rw[aA,hs];exact congrArg some (KD _ _ _)
 have hge:=geB hk (by simpa using hge);subst hge;rw[List.take_length]at R;simp only[go_sem,e3,e11,e12,e13,e5];exact .row _ _ _ R (ConvE.refl _)
end Go.Proofs.YtdlijlecpopadaaGreatDoor.Rx
end

section
set_option linter.unusedSimpArgs false
set_option linter.unusedVariables false
namespace Go.Proofs.YtdlijlecpopadaaGreatDoor.Rx
open Go.Aw Go.Aw.D Go.Proofs Ty Go.Nu
open Sq (W dM nN rI sP iJ jX eK kE NetOk)
open Nu (wA wU BW ltB geB)
set_option maxRecDepth 100000
abbrev fG(p:Part):Row:=⟨94,7,[cC p]⟩
abbrev Gr:Row:=⟨94,7,[[int 0,int 0,int 0,int 0,.sl [],.sl [],str ByteArray.empty]]⟩
structure WkOk(w:Wk):Prop where
 net:NetOk w.x.net
 near:NearB w.near
 len:w.near.length=w.x.orders.length
 kind:w.kind<4611686018427387904
 dual:∀l,w.dual=some l→l.length=w.x.orders.length∧∀a∈l,a.size≤1048576
structure PartOk(p:Part):Prop where
 mem:p.memory<2^62
 board:p.board<2^62
 value:p.value.size≤1048576
theorem jC{x:Instance}{o:Nat}(h:o<x.orders.length):x.orders[o]?=some (aF x o):=by
 unfold aF;rw[List.getD,List.getElem?_eq_getElem h,Option.getD_some]
theorem Jx(a:Int)(k:Nat):0≤fM a k∧fM a k≤1:=by unfold fM;split <;> omega
theorem afL(n:Int):shV .shl .i64 n 16=W (n*65536):=(rfl)
theorem Zh(n:Int):shV .shl .i64 n 24=W (n*16777216):=(rfl)
theorem Px(x y:Rat):(zF x y).1.size≤8194:=by
 by_cases h:(zF x y).2=0
 · obtain⟨e,hs⟩:=Od h
   rw[e];exact Bu hs
 · have h2 : zF x y = (emp, 4) := by
     unfold zF at h ⊢;split
     · rfl
     · next hn=>rw[if_neg hn]at h;exact absurd rfl h
   rw[h2];exact Nat.zero_le _
theorem Ot(a b:ByteArray):(qR a b).1.size≤8194:=by
 unfold qR;split
 · exact Px _ _
 · exact Nat.zero_le _
theorem I6(a b:ByteArray):(pZ a b).1.size≤8194:=by
 unfold pZ;split
 · exact Px _ _
 · exact Nat.zero_le _
theorem yA(a:ByteArray)(n:Int):(addV a n).size≤8194:=by
 unfold addV;exact Ot _ _
theorem XX(H0 : aG)(jw : Nat)(w : Wk)(hw : H0 jw = some (mL w))(p : Part)(o : Nat)(ho : o < w.x.orders.length)(h : WkOk w)(hpo : PartOk p):
   LC Tryz.prog 89 [.op jw 0 0,.agg (cC p),int (o:Nat)] H0 (.tup [.agg (cC (gE w p o).1),boo (gE w p o).2]):=by
 have e:gE w p o=if(kE (p.memory:Nat) (o:Nat)||kE (p.board:Nat) (o:Nat))=true then(p,false)
   else({ p with memory:=qZ w.near p.memory o,value:=yH (addV p.value ((fM (aF w.x o).now w.kind*16+fM (aF w.x o).last w.kind)*65536)) o w.dual },true):=rfl
 generalize gE w p o=S at e;refine LC.body (c:=Tryz.f89.body.getD .skip) (fun t=>t == 4) mixed Tryz.func89 rfl (by kernel_rfl) ?_;unfold Tryz.f89;simp only[Option.getD_some];simp only[go_sem];have U:=Sup.refl H0;refine aL fun j4 hj40=>?_
 have n_j4:=U.none hj40;generalize hGj4:aI _ j4 _=HGj4;replace U:=Sup.eq (U.upd n_j4 _) hGj4;have R4:HGj4 j4=some (fG p):=by rw[←hGj4,aA];try rfl
 clear hGj4 hj40;simp only[go_sem,R4];refine aL fun j6 hj60=>?_
 have ne_j4_j6:j4≠j6:=aN R4 hj60;have n_j6:=U.none hj60;generalize hGj6:aI _ j6 _=HGj6;replace U:=Sup.eq (U.upd n_j6 _) hGj6;replace R4:=(congrFun hGj6.symm j4).trans ((aC _ _ _ _ ne_j4_j6).trans R4);have R6:HGj6 j6=some (Gr):=by rw[←hGj6,aA];try rfl
 clear hGj6 hj60;simp only[go_sem,R6,R4];refine PC.use (Sq.DC _ _) ?_;simp only[go_sem,R4,R6];refine⟨_,fun _=>PC.q (Sq.DC _ _) rfl,?_⟩;simp only[go_sem,R4,R6];refine aB (fun hb=>?_) (fun hb=>?_)
 · rw[if_pos hb]at e
   subst e;simp only[go_sem,R4,R6];refine aP R6 (by simp[bV]) ?_;simp only[go_sem];exact mD.flat ((U.upd n_j6 _)) _
 rw[if_neg (fun h=>Bool.noConfusion (hb.symm.trans h))]at e;subst e;simp only[go_sem,R4,R6];have hjw:=U.at hw;have njw4:jw≠j4:=Sup.ne (Sup.refl H0) hw n_j4;have njw6:jw≠j6:=Sup.ne (Sup.refl H0) hw n_j6;refine dH [jw] [(0,true),(1,true),(2,true),(3,true),(4,true),(6,true),(5,false),(7,false),(8,false),(9,false)] (by simp[hjw]) (by kernel_rfl) fun Hp Hr hp hr _ hr0=>?_
 have P_hjw:=(hp jw (by simp)).trans hjw;have Q_R4:=(hr j4 (by simp[njw4.symm])).trans R4;simp only[go_sem,P_hjw,Q_R4];refine PC.use (Eg w.near p.memory o (by rw[h.len];exact ho) h.near hpo.mem) ?_;simp only[go_sem,Q_R4];refine cD so3 Q_R4 (by simp[bV]) ?_;refine fJ hr (by simp[njw4.symm]) ?_;generalize hP:aI _ j4 _=HP;replace U:=Sup.eq (U.upd n_j4 _) hP;replace R6:=(congrFun hP.symm j6).trans ((aC _ _ _ _ (by first|exact ne_j6_j4|exact ne_j4_j6.symm)).trans R6);replace R4b:HP j4=some (fG { p with memory:=qZ w.near p.memory o }):=by rw[←hP,aA];rfl
 clear hP;simp only[go_sem,R4b,R6];have hjw:=U.at hw;have b1:=inB ho;have g1:=aH (f:=aV) (jC ho);refine dH [jw] [(0,true),(1,true),(2,true),(3,true),(4,true),(5,true),(6,true),(7,true),(8,true),(9,true),(10,true),(11,true),(12,true),(13,true),(14,true),(15,true),(16,true),(17,true),(18,true),(19,true),(20,true),(21,true),(22,true),(23,true),(24,true),(25,true),(26,true),(27,true),(28,true),(29,true),(30,true)] (by simp[hjw]) (by kernel_rfl) fun Hp Hr hp hr _ hr0=>?_
 have P_hjw:=(hp jw (by simp)).trans hjw;simp only[go_sem,g1,b1,P_hjw];refine⟨_,PC.q (GN _ _) rfl,?_⟩;simp only[go_sem,P_hjw,g1,b1];refine⟨_,PC.q (GN _ _) rfl,?_⟩;have d1:=Jx (aF w.x o).now w.kind;have d2:=Jx (aF w.x o).last w.kind;generalize fM (aF w.x o).now w.kind=D1 at *;generalize fM (aF w.x o).last w.kind=D2 at *;have w1:IntKind.i64.wrap (D1*16)=D1*16:=aQ (by omega);have w2:IntKind.i64.wrap (D1*16+D2)=D1*16+D2:=aQ (by omega);simp only[go_sem,P_hjw,w1,w2];refine dV hr ?_;simp only[go_sem,R4b];have w3:shV .shl .i64 (D1*16+D2) 16=(D1*16+D2)*65536:=(afL _).trans (aQ (by omega));rw[w3];have hD:0≤(D1*16+D2)*65536∧(D1*16+D2)*65536≤1114112:=by omega
 generalize (D1*16+D2)*65536=D at *;refine⟨by omega,LC.use (NM _ _ _ _ hpo.value (by omega) (by omega)) ?_⟩;simp only[go_sem,R4b];refine cD QF R4b (by simp[bV]) ?_;generalize hP:aI _ j4 _=HP;replace U:=Sup.eq (U.upd n_j4 _) hP;replace R6:=(congrFun hP.symm j6).trans ((aC _ _ _ _ (by first|exact ne_j6_j4|exact ne_j4_j6.symm)).trans R6);replace R4c:HP j4=some (fG { p with memory:=qZ w.near p.memory o,value:=addV p.value D }):=by rw[←hP,aA];rfl
 clear hP;simp only[go_sem,R4c,R6];have hjw:=U.at hw;have hvs:=yA p.value D;simp only[go_sem,hjw];cases hd:w.dual with
 | none=>
   rw[show O1 none=.v (.slice none 0 0)from rfl];simp only[go_sem];refine aB (fun hb=>nomatch hb) (fun _=>?_);simp only[go_sem,R4c,R6];refine aP R6 (by simp[bV]) ?_;simp only[go_sem];exact mD.flat (U.upd n_j6 _) _
 | some l=>
   obtain⟨hdl,hds⟩:=h.dual l hd;obtain⟨q,hq⟩:=aU (l:=l) (k:=o) (by omega);have hne:l.map Go.Aw.D.eH≠[]:=fun e=>by rw[List.map_eq_nil_iff]at e;rw[e]at hq;simp at hq
   have hD:jJ w=jJ w:=rfl;rw[show O1 (some l)=.sl (l.map Go.Aw.D.eH)from rfl];simp only[go_sem];refine⟨fun e=>absurd e hne,?_⟩;refine aB (fun _=>?_) (fun hb=>nomatch hb);have b3:=inB (show o<l.length by omega);have g3:=aH (f:=Go.Aw.D.eH) hq;have e22:(jJ w).getD 22 .any=.sl (l.map Go.Aw.D.eH):=by rw[Lm,hd];rfl
   refine dH [jw] [(0,true),(2,true),(3,true),(4,true),(5,true),(6,true),(7,true),(8,true),(1,false),(9,false),(10,true),(11,true),(12,true),(13,true),(14,false)] (by simp[hjw]) (by kernel_rfl) fun Hp Hr hp hr _ hr0=>?_
   have P_hjw:=(hp jw (by simp)).trans hjw;have Q_R4c:=(hr j4 (by simp[njw4.symm])).trans R4c;simp only[go_sem,e22,b3,g3,P_hjw,Q_R4c];refine PC.use (wU _ _ (by omega) (hds q (List.mem_of_getElem? hq))) ?_;simp only[go_sem,Q_R4c];refine cD QF Q_R4c (by simp[bV]) ?_;refine fJ hr (by simp[njw4.symm]) ?_;generalize hP:aI _ j4 _=HP;replace U:=Sup.eq (U.upd n_j4 _) hP;replace R6:=(congrFun hP.symm j6).trans ((aC _ _ _ _ (by first|exact ne_j6_j4|exact ne_j4_j6.symm)).trans R6);replace R4d:HP j4=some (fG { p with memory:=qZ w.near p.memory o,value:=(pZ (addV p.value D) q).1 }):=by rw[←hP,aA];rfl
   clear hP;simp only[go_sem,R4d,R6];refine aP R6 (by simp[bV]) ?_;simp only[go_sem];have e3:yH (addV p.value D) o (some l)=(pZ (addV p.value D) q).1:=by
     show(pZ (addV p.value D) (l.getD o ByteArray.empty)).1=_;rw[List.getD,hq];rfl
   rw[e3];exact mD.flat (U.upd n_j6 _) _
theorem abD(a b:List Int)(hl:a.length≤1048576)(hab:a.length=b.length):PC Tryz.prog 149 [.sl (a.map aO),.sl (b.map aO)] (.tup [.sl ((rI a b).map aO),int 0]):=
 RC.conv (RC.mono (Sq.aeZ a b hl hab) fun x H' ⟨k,hx,hk⟩=>hx▸.tup _ _ (.cons _ _ _ _ (.row k _ _ hk (ConvE.refl _)) (.cons _ _ _ _ (.refl _) .nil)))
theorem abI(a b:List Int)(hl:a.length≤1048576)(hab:a.length=b.length):PC Tryz.prog 150 [.sl (a.map aO),.sl (b.map aO)] (.tup [.sl ((sP a b).map aO),int 0]):=
 RC.conv (RC.mono (Sq.ajC a b hl hab) fun x H' ⟨k,hx,hk⟩=>hx▸.tup _ _ (.cons _ _ _ _ (.row k _ _ hk (ConvE.refl _)) (.cons _ _ _ _ (.refl _) .nil)))
abbrev uM(o:Order):Row:=⟨143,16,[aV o]⟩
theorem NE{a b:Nat}(ha:a<2^63)(hb:b<2^63):rH .andNot .i64 (a:Int) (b:Int)=((a ^^^ (a &&& b):Nat):Int):=by
 have hx:∀x y:BitVec 64,x &&& ~~~y=x ^^^ (x &&& y):=fun x y=>by
   ext i hi
   simp only[BitVec.getElem_and,BitVec.getElem_not,BitVec.getElem_xor];cases x[i] <;> cases y[i] <;> rfl
 have h:((BitVec.ofInt 64 (a:Int) &&& ~~~BitVec.ofInt 64 (b:Int)).toNat:Int)=((a ^^^ (a &&& b):Nat):Int):=by
   rw[hx,BitVec.toNat_xor,BitVec.toNat_and,BitVec.toNat_ofInt,BitVec.toNat_ofInt];have h1:((a:Int)%((2^64:Nat):Int)).toNat=a:=by omega
   have h2:((b:Int)%((2^64:Nat):Int)).toNat=b:=by omega
   rw[h1,h2]
 refine Eq.trans (congrArg IntKind.i64.wrap h) ?_;have h3:a &&& b<2^63:=Nat.lt_of_le_of_lt Nat.and_le_left ha;have:=Nat.xor_lt_two_pow ha h3;exact aQ (by omega)
theorem OR(a b:List Int)(h:a.length=b.length):(rI a b).length=a.length∧(sP a b).length=a.length:=by
 constructor
 · show(List.zipWith _ a b).length=_
   rw[List.length_zipWith];omega
 · show(List.zipWith _ a b).length=_
   rw[List.length_zipWith];omega
theorem Ss(H0 : aG)(jw : Nat)(w : Wk)(hw : H0 jw = some (mL w))(p : Part)(o : Nat)(d : Bool)(ho : o < w.x.orders.length)(h : WkOk w)(hpo : PartOk p)(hol : o ≤ 61)
   (hl:p.load.length=(aF w.x o).load.length) (hll:p.load.length≤1048576):
   LC Tryz.prog 90 [.op jw 0 0,.agg (cC p),.agg (bW ⟨(o:Nat),d⟩)] H0 (.tup [.agg (cC (fQ w p o d).1),boo (fQ w p o d).2]):=by
 refine LC.body (c:=Tryz.f90.body.getD .skip) (fun t=>t == 4) mixed Tryz.func90 rfl (by kernel_rfl) ?_;unfold Tryz.f90;simp only[Option.getD_some];simp only[go_sem];have U:=Sup.refl H0;refine aL fun j4 hj40=>?_
 have n_j4:=U.none hj40;generalize hGj4:aI _ j4 _=HGj4;replace U:=Sup.eq (U.upd n_j4 _) hGj4;have R4:HGj4 j4=some (fG p):=by rw[←hGj4,aA];try rfl
 clear hGj4 hj40;simp only[go_sem,R4];refine aL fun j6 hj60=>?_
 have ne_j4_j6:j4≠j6:=aN R4 hj60;have n_j6:=U.none hj60;generalize hGj6:aI _ j6 _=HGj6;replace U:=Sup.eq (U.upd n_j6 _) hGj6;replace R4:=(congrFun hGj6.symm j4).trans ((aC _ _ _ _ ne_j4_j6).trans R4);have R6:HGj6 j6=some (Gr):=by rw[←hGj6,aA];try rfl
 clear hGj6 hj60;simp only[go_sem,R6,R4];have b1:=inB ho;have g1:=aH (f:=aV) (jC ho);have njw4:jw≠j4:=Sup.ne (Sup.refl H0) hw n_j4;have njw6:jw≠j6:=Sup.ne (Sup.refl H0) hw n_j6;have hjw:=U.at hw;refine dH [jw] [(0,true),(1,true),(2,true),(3,true),(4,true),(5,true),(6,true),(7,true),(8,true),(9,false),(10,false)] (by simp[hjw]) (by kernel_rfl) fun Hp Hr hp hr _ hr0=>?_
 have P_hjw:=(hp jw (by simp)).trans hjw;simp only[go_sem,g1,b1,P_hjw];refine aL fun j8 hq8=>?_
 simp only[go_sem];refine aP (aA _ _ _) (by simp[jH]) ?_;refine oO hr hq8 fun hj80=>?_
 have ne_j4_j8:j4≠j8:=aN R4 hj80;have ne_j6_j8:j6≠j8:=aN R6 hj80;have n_j8:=U.none hj80;generalize hGj8:aI (aI _ j8 _) j8 _=HGj8;replace U:=Sup.eq ((U.upd n_j8 _).upd n_j8 _) hGj8;replace R4:=(congrFun hGj8.symm j4).trans ((aC _ _ _ _ ne_j4_j8).trans ((aC _ _ _ _ ne_j4_j8).trans R4));replace R6:=(congrFun hGj8.symm j6).trans ((aC _ _ _ _ ne_j6_j8).trans ((aC _ _ _ _ ne_j6_j8).trans R6));have R8:HGj8 j8=some (uM (aF w.x o)):=by rw[←hGj8,aA];try rfl
 clear hGj8 hj80;simp only[go_sem,R8,R4,R6];have hjw:=U.at hw;have njw8:jw≠j8:=Sup.ne (Sup.refl H0) hw n_j8;generalize hO:aF w.x o=O at *;have eL:fQ w p o d=if d=false then({ p with load:=rI p.load O.load,board:=if iQ O=true then p.board ||| 2^o else p.board },iJ (rI p.load O.load) w.t.cap)
   else if iQ O=true then
     if kE (p.board:Nat) (o:Nat)=true then({ p with load:=sP p.load O.load,board:=A6 p.board o },iJ (sP p.load O.load) w.t.cap)else(p,false)
   else(p,iJ p.load w.t.cap):=by rw[←hO];rfl
 generalize fQ w p o d=S at eL;have hzl:(rI p.load O.load).length≤1048576∧(sP p.load O.load).length≤1048576:=by have:=OR _ _ hl;omega
 have hp63:2^o<2^63:=Nat.pow_lt_pow_right (by decide) (by omega);have hsh:=Sq.Np (show o≤62 by omega);refine dW (fun ρ' H'=>∃(P':Part),ρ' 0=.op jw 0 0∧ρ' 4=.op j4 0 0∧ρ' 6=.op j6 0 0∧S=(P',iJ P'.load w.t.cap)∧P'.load.length≤1048576∧H' j4=some (fG P')∧H' j6=some Gr∧Sup H0 H') ?_ fun K hK hKe hKr=>aB (fun hb=>?_) (fun hb=>?_)
 rotate_left
 · have hd:d=false:=by simpa using hb
   rw[if_pos hd]at eL;simp only[go_sem,R4,R6,R8];refine PC.use (abD p.load O.load hll hl) ?_;simp only[go_sem,R4];refine cD RB R4 (by simp[bV]) ?_;generalize hP:aI _ j4 _=HP;replace U:=Sup.eq (U.upd n_j4 _) hP;replace R6:=(congrFun hP.symm j6).trans ((aC _ _ _ _ (by first|exact ne_j6_j4|exact ne_j4_j6.symm)).trans R6);replace R4:HP j4=some (fG { p with load:=rI p.load O.load }):=by rw[←hP,aA];rfl
   clear hP;simp only[go_sem,R4,R6];refine aB (fun hb=>?_) (fun hb=>?_)
   · have hB:iQ O=true:=hb
     rw[if_pos hB]at eL;simp only[go_sem];refine jF [(0,true),(2,true),(3,true),(4,true),(1,false),(5,true),(6,true),(7,false)] (by kernel_rfl) ?_;simp only[go_sem,R4,hsh,Sq.U8 (show p.board<2^63 from Nat.lt_trans hpo.board (by decide)) hp63];refine⟨by omega,?_⟩;refine cD so3 R4 (by simp[bV]) ?_;generalize hP:aI _ j4 _=HP;replace U:=Sup.eq (U.upd n_j4 _) hP;replace R6:=(congrFun hP.symm j6).trans ((aC _ _ _ _ (by first|exact ne_j6_j4|exact ne_j4_j6.symm)).trans R6);replace R4:HP j4=some (fG { p with load:=rI p.load O.load,board:=p.board ||| 2^o }):=by rw[←hP,aA];rfl
     clear hP;simp only[go_sem,R4,R6];refine hK _ _ ⟨_,by simp only[go_sem],by simp only[go_sem],by simp only[go_sem],eL,hzl.1,R4,R6,U⟩
   · have hB:¬iQ O=true:=fun h=>Bool.noConfusion (hb.symm.trans h)
     rw[if_neg hB]at eL;simp only[go_sem];refine hK _ _ ⟨_,by simp only[go_sem],by simp only[go_sem],by simp only[go_sem],eL,hzl.1,R4,R6,U⟩
 · have hd:¬d=false:=by simpa using hb
   rw[if_neg hd]at eL;simp only[go_sem];refine aB (fun hb=>?_) (fun hb=>?_)
   · have hB:iQ O=true:=hb
     rw[if_pos hB]at eL;simp only[go_sem,R4];refine PC.use (Sq.DC _ _) ?_;simp only[go_sem,R4,R6];refine aB (fun hb=>?_) (fun hb=>?_)
     · have hh:¬kE (p.board:Nat) (o:Nat)=true:=by simpa using hb
       rw[if_neg hh]at eL;subst eL;simp only[go_sem,R4,R6];refine aP R6 (by simp[bV]) ?_;simp only[go_sem];refine hKr _ _ ?_;simp only[go_sem];exact mD.flat (U.upd n_j6 _) _
     · have hh:kE (p.board:Nat) (o:Nat)=true:=by simpa using hb
       rw[if_pos hh]at eL;simp only[go_sem,R4,R8];refine PC.use (abI p.load O.load hll hl) ?_;simp only[go_sem,R4];refine cD RB R4 (by simp[bV]) ?_;generalize hP:aI _ j4 _=HP;replace U:=Sup.eq (U.upd n_j4 _) hP;replace R6:=(congrFun hP.symm j6).trans ((aC _ _ _ _ (by first|exact ne_j6_j4|exact ne_j4_j6.symm)).trans R6);replace R4:HP j4=some (fG { p with load:=sP p.load O.load }):=by rw[←hP,aA];rfl
       clear hP;simp only[go_sem,R4,R6];refine jF [(0,true),(2,true),(3,true),(4,true),(1,false),(5,true),(6,true),(7,false)] (by kernel_rfl) ?_;simp only[go_sem,R4,hsh,NE (show p.board<2^63 from Nat.lt_trans hpo.board (by decide)) hp63];refine⟨by omega,?_⟩;refine cD so3 R4 (by simp[bV]) ?_;generalize hP:aI _ j4 _=HP;replace U:=Sup.eq (U.upd n_j4 _) hP;replace R6:=(congrFun hP.symm j6).trans ((aC _ _ _ _ (by first|exact ne_j6_j4|exact ne_j4_j6.symm)).trans R6);replace R4:HP j4=some (fG { p with load:=sP p.load O.load,board:=A6 p.board o }):=by rw[←hP,aA];rfl
       clear hP;simp only[go_sem,R4,R6];refine hK _ _ ⟨_,by simp only[go_sem],by simp only[go_sem],by simp only[go_sem],eL,hzl.2,R4,R6,U⟩
   · have hB:¬iQ O=true:=fun h=>Bool.noConfusion (hb.symm.trans h)
     rw[if_neg hB]at eL;simp only[go_sem];refine hK _ _ ⟨_,by simp only[go_sem],by simp only[go_sem],by simp only[go_sem],eL,hll,R4,R6,U⟩
 rintro ρ H ⟨P',e0,e4,e6,hP,hPl,R4,R6,U⟩;have hjw:=U.at hw;simp only[go_sem,e0,e4,e6];refine dH [jw,j4] [(0,true),(1,true),(2,true),(3,true),(4,true),(5,true),(6,true),(7,true),(8,false),(9,false),(10,true)] (by simp[hjw,R4]) (by kernel_rfl) fun Hp Hr hp hr _ hr0=>?_
 have P_hjw:=(hp jw (by simp)).trans hjw;have P_R4:=(hp j4 (by simp)).trans R4;have Q_R6:=(hr j6 (by simp[njw6.symm,ne_j4_j6.symm])).trans R6;simp only[go_sem,e0,e4,e6,P_hjw,P_R4,Q_R6];refine PC.use (Sq.OV P'.load w.t.cap hPl) ?_;simp only[go_sem,e0,e4,e6,Q_R6];refine aP Q_R6 (by simp[bV]) ?_;simp only[go_sem,e0,e4,e6];refine fJ hr (by simp[njw6.symm,ne_j4_j6.symm]) ?_;simp only[go_sem,e0,e4,e6];rw[hP];exact mD.flat (U.upd n_j6 _) _
end Go.Proofs.YtdlijlecpopadaaGreatDoor.Rx
end
