/- Texts joined by a program: RxC, RxD. -/
import Derived.Test.YtdlijlecpopadaaGreatDoorZy26

section
set_option linter.unusedSimpArgs false
set_option linter.unusedVariables false
namespace Go.Proofs.YtdlijlecpopadaaGreatDoor.Rx
open Go.Aw Go.Aw.D Go.Proofs Ty Go.Nu
open Sq (W dP pG qT sA iM jW eM kE NetOk qS sY pV qA)
open Mv (fZ fA kI NC.pc bR)
open Nu (wL vQ Bu ltB geB)
set_option maxRecDepth 100000
theorem bH.cutO{P : Program}{f : FuncId}{args : List AV}{H : aE}{K : AV → aE → Prop}
   (h:bH P f args H fun a H'=>K a H'∨∃j i row,a=.oz j 0 i∧H' j=some row∧i≤row.es.length∧∀j',H' j'=none→K (.os j') (aG (aG H' j none) j' (some ⟨row.e,row.sz,row.es.take i⟩))):bH P f args H K:=by
 intro S w vals hS ha;refine(h S w vals hS ha).mono fun e w' ⟨v,x,H',S',he,hx,hS',hv,hg,hn⟩=>?_
 rcases hx with hx|hx
 · exact⟨v,x,H',S',he,hx,hS',hv,hg,hn⟩
 have h2:∀K2:AV→aE→Prop,(∃j i row,x=.oz j 0 i∧H' j=some row∧i≤row.es.length∧∀j',H' j'=none→K2 (.os j') (aG (aG H' j none) j' (some ⟨row.e,row.sz,row.es.take i⟩)))→∃v x H' S',e=.returned v∧K2 x H'∧St S' w' H'∧rep S' w' x v∧Grow S w S' w'∧∀k,k<S.N→H k=none→H' k=none:=by
   rintro K2 ⟨j,i,row,rfl,hj,hi,hk⟩;simp only[rep]at hv;obtain⟨hjN,ad,n,c,ad',cc,hloc,hvv,_,hin,_,h0⟩:=hv;obtain⟨rfl,rfl⟩:=h0 trivial;obtain⟨c1,c2⟩:=hS'.cut hj hloc hi;have hnone:H' S'.N=none:=by
     cases e:H' S'.N with
     | none=>rfl
     | some row2=>exact absurd (hS'.rows _ _ e).lt (Nat.lt_irrefl _)
   refine⟨v,.os S'.N,_,_,he,hk S'.N hnone,c1,?_,hg.trans c2,fun q hq h0=>?_⟩
   · simp only[rep]
     refine⟨Nat.lt_succ_self _,?_,ad',i-0,cc,hvv⟩;rw[hvv];simp[Sg.addRow]
   · have hqN:q≠S'.N:=Nat.ne_of_lt (Nat.lt_of_lt_of_le hq hg.le.N)
     rw[aC _ _ _ _ hqN];by_cases e:q=j
     · subst e;rw[aA]
     · rw[aC _ _ _ _ e];exact hn q hq h0
 exact h2 K hx
theorem E7{α:Type}{p:α→Bool}:∀{l:List α} {n:Int},0≤n→qS p l n= -1→∀y∈l,p y=false
 | [],_,_,_,y,hy=>by simp at hy
 | a::r,n,hn,h,y,hy=>by
   simp only[qS]at h;split at h
   · omega
   · next hp=>
     rcases List.mem_cons.1 hy with rfl|hy
     · simpa using hp
     · exact E7 (by omega) h y hy
theorem FF{α:Type}{p:α→Bool}:∀{l:List α} {n:Int},qS p l n≠ -1→∃(i:Nat) (y:α),qS p l n=n+i∧l[i]?=some y∧p y=true∧∀u∈l.take i,p u=false
 | [],_,h=>absurd rfl h
 | a::r,n,h=>by
   simp only[qS]at h ⊢;by_cases hp:p a=true
   · exact⟨0,a,by rw[if_pos hp];omega,rfl,hp,by simp⟩
   · rw[if_neg hp]at h ⊢
     obtain⟨i,y,h1,h2,h3,h4⟩:=FF h;refine⟨i+1,y,by omega,h2,h3,fun u hu=>?_⟩;rw[List.take_succ_cons]at hu;rcases List.mem_cons.1 hu with rfl|hu
     · simpa using hp
     · exact h4 u hu
theorem Ep{α:Type}(l:List α){m:Nat}{v:α}(h:m<l.length):(l.set m v).take (m+1)=l.take m++[v]:=by
 have h2:(l.set m v)[m]?=some v:=by simp[h]
 rw[List.take_add_one,h2,List.take_set_of_le (Nat.le_refl m)];rfl
theorem I2{g : Nat}{cap : List AV}{p : Clk → Bool}(l : List Clk)(hl : l.length ≤ 4000000000000000000)(hok : aD Tryz.prog g = true)(hg : ∀ v ∈ l, PC Tryz.prog g ((.agg (cO v)) :: cap) (boo (p v))):
   PC Tryz.prog 156 [.sl (l.map cO),.fn g cap] (int (qS p l 0)):=by
 refine PC.body (c:=Tryz.f156.body.getD .skip) (fun _=>false) mixed Tryz.func156 rfl (by kernel_rfl) ?_;unfold Tryz.f156;simp only[Option.getD_some];simp only[go_sem];refine⟨fun ρ _=>∃k:Nat,k≤l.length∧ρ 0=.sl (l.map cO)∧ρ 1=.fn g cap∧ρ 7=int l.length∧ρ 8=int k∧∀u∈l.take k,p u=false,fun ρ _=>l.length-bE (ρ 8),⟨0,Nat.zero_le _,rfl,rfl,rfl,rfl,by simp⟩,?_⟩;rintro ρ H ⟨k,hk,h0,h1,h7,h8,hz⟩;simp only[go_sem,h0,h1,h7,h8];refine aB (fun hlt=>?_) (fun hge=>?_)
 · have hlt:=cF hlt
   obtain⟨u,hu⟩:=aW hlt;have b1:=inB hlt;simp only[go_sem,h0,h1,h7,h8,aF hu,b1,hok];refine PC.use (hg u (List.mem_of_getElem? hu)) ?_;simp only[go_sem,h0,h1,h7,h8];refine aB (fun hb=>?_) (fun hb=>?_)
   · simp only[go_sem,h8]
     exact fZ (by rw[sY hz hu hb];omega)
   · simp only[go_sem,h0,h1,h7,h8,bA (show k≤4611686018427387904 by omega)]
     exact⟨⟨k+1,hlt,rfl,bR (p:=fun u=>p u=false) hu hb hz⟩,by simp only[aH];omega⟩
 · have hge:=cH hk hge
   subst hge;rw[List.take_length]at hz;simp only[go_sem];exact fZ (by rw[pV hz])
theorem IU{g : Nat}{cap : List AV}{p : Clk → Bool}(l : List Clk)(hl : l.length ≤ 4000000000000000000)(hok : aD Tryz.prog g = true)(hg : ∀ v ∈ l, PC Tryz.prog g ((.agg (cO v)) :: cap) (boo (p v))):
   PC Tryz.prog 98 [.sl (l.map cO),.fn g cap] (boo (l.any p)):=by
 refine PC.body (c:=Tryz.f98.body.getD .skip) (fun _=>false) mixed Tryz.func98 rfl (by kernel_rfl) ?_;unfold Tryz.f98;simp only[Option.getD_some];simp only[go_sem];refine PC.use (I2 l hl hok hg) ?_;simp only[go_sem];exact fA (qA l 0 (Int.le_refl _))
theorem Ip(u v:Clk):nC (cO u) 0 (cO v)=cO v:=(rfl)
theorem Q4{g : Nat}{cap cap' : List AV}{p : Clk → Bool}(l : List Clk)(H0 : aE)(jd : Nat)(hj : H0 jd = some ⟨157, 2, l.map cO⟩)(hl : l.length ≤ 1000000000)(hok : aD Tryz.prog g = true)(hg : ∀ v ∈ l, PC Tryz.prog g ((.agg (cO v)) :: cap') (boo (p v)))
   (hc:∀H:aE,(∀k row,k≠jd→H0 k=some row→H k=some row)→ConvL H cap cap') {K:AV→aE→Prop}
   (hK:∀(j':Nat) (H':aE),(∀k row,k≠jd→H0 k=some row→H' k=some row)→(H0 j'=none∨j'=jd)→H' j'=some ⟨157,2,(l.filter fun v=> !p v).map cO⟩→K (.os j') H'):
   bH Tryz.prog 154 [.os jd,.fn g cap] H0 K:=by
 have hstep:bH Tryz.prog 154 [.os jd,.fn g cap] H0 fun a H'=>K a H'∨∃j i row,a=.oz j 0 i∧H' j=some row∧i≤row.es.length∧∀j',H' j'=none→K (.os j') (aG (aG H' j none) j' (some ⟨row.e,row.sz,row.es.take i⟩)):=by
   refine bH.body (c:=Tryz.f154.body.getD .skip) (fun _=>false) mixed Tryz.func154 rfl (by kernel_rfl) ?_;unfold Tryz.f154;simp only[Option.getD_some];simp only[go_sem];refine dK.use ⟨[.sl (l.map cO),.fn g cap'],.cons _ _ _ _ (.row _ _ _ hj (ConvE.refl _)) (.cons _ _ _ _ (.fn _ _ _ (hc H0 fun _ _ _ h=>h)) .nil),I2 l (by omega) hok hg,rfl⟩ ?_;simp only[go_sem];refine aB (fun hb=>?_) (fun hb=>?_)
   · have hm:∀y∈l,p y=false:=E7 (Int.le_refl 0) (by simpa using hb)
     simp only[go_sem];refine .inl (hK jd H0 (fun _ _ _ h=>h) (.inr rfl) ?_);rw[List.filter_eq_self.2 (fun v hv=>by rw[hm v hv];rfl)];exact hj
   obtain⟨i,y,hi,hy,hpy,hmin⟩:=FF (p:=p) (l:=l) (by simpa using hb);have hil:=(List.getElem?_eq_some_iff.1 hy).1;rw[Int.zero_add]at hi;rw[hi];simp only[go_sem,bA (show i≤4611686018427387904 by omega)];refine⟨fun ρ H=>∃(k m:Nat) (E:List Clk),k≤l.length∧m<k∧ρ 0=.os jd∧ρ 1=.fn g cap∧ρ 5=int m∧ρ 6=int k∧H jd=some ⟨157,2,E.map cO⟩∧E.length=l.length∧E.take m=(l.take k).filter (fun v=> !p v)∧E.drop k=l.drop k∧∀q row,q≠jd→H0 q=some row→H q=some row,fun ρ _=>l.length-bE (ρ 6),⟨i+1,i,l,hil,Nat.lt_succ_self _,by simp only[go_sem],by simp only[go_sem],(by simp only[go_sem]),(by simp only[go_sem]),hj,rfl,?_,rfl,fun _ _ _ h=>h⟩,?_⟩
   · rw[cM hy,List.filter_append,List.filter_eq_self.2 (fun v hv=>by rw[hmin v hv];rfl)]
     simp[hpy]
   rintro ρ H ⟨k,m,E,hk,hmk,h0,h1,h5,h6,R,hE,ht,hd,hs⟩;simp only[go_sem,h0,h1,h5,h6,R,List.length_map];refine aB (fun hlt=>?_) (fun hge=>?_)
   · have hlt:k<l.length:=by simp at hlt;omega
     obtain⟨v,hv⟩:=aW hlt;have hEv:E[k]?=some v:=by
       have h2:=congrArg (fun L=>L[0]?) hd;simp only[List.getElem?_drop,Nat.add_zero]at h2;rw[h2,hv]
     have b1:((0:Int)≤(k:Nat)∧((k:Nat):Int)<((E.length:Nat):Int)):=by omega
     have b2:((0:Int)≤(m:Nat)∧((m:Nat):Int)<((E.length:Nat):Int)):=by omega
     simp only[go_sem,h0,h1,h5,h6,R,List.length_map,aF hEv,b1,hok];refine⟨by omega,aL fun i7 h7=>?_⟩;have ne7:jd≠i7:=aN R h7;simp only[go_sem,h0,h1,h5,h6];refine aP (aA _ _ _) (by simp[kY]) ?_;generalize hG:aG (aG H i7 _) i7 _=HG;have R':HG jd=some ⟨157,2,E.map cO⟩:=by rw[←hG,aC _ _ _ _ ne7,aC _ _ _ _ ne7];exact R
     have R7:HG i7=some ⟨157,2,[cO v]⟩:=by rw[←hG,aA];rfl
     have hs':∀q row,q≠jd→H0 q=some row→HG q=some row:=fun q row hq h=>by
       have h2:=hs q row hq h;have:q≠i7:=fun e=>by rw[e,h7]at h2;cases h2
       rw[←hG,aC _ _ _ _ this,aC _ _ _ _ this];exact h2
     clear hG h7 R hs;simp only[go_sem,h0,h1,h5,h6,R7,hok];refine dK.use ⟨(.agg (cO v))::cap',.cons _ _ _ _ (.refl _) (hc HG hs'),hg v (List.mem_of_getElem? hv),rfl⟩ ?_;simp only[go_sem,h0,h1,h5,h6];refine dT (fun ρ' H'=>ρ' 0=.os jd∧ρ' 1=.fn g cap∧ρ' 6=int k∧∃(m':Nat) (E':List Clk),m'<k+1∧ρ' 5=int m'∧H' jd=some ⟨157,2,E'.map cO⟩∧E'.length=l.length∧E'.take m'=(l.take (k+1)).filter (fun v=> !p v)∧E'.drop (k+1)=l.drop (k+1)∧∀q row,q≠jd→H0 q=some row→H' q=some row) ?_ fun K' hK' _ _=>aB (fun hb=>?_) (fun hb=>?_)
     rotate_left
     · have hp:p v=false:=by simpa using hb
       simp only[go_sem,h0,h5,R7,R',List.length_map,b2];refine aP R' (by simp[kY];omega) ?_;simp only[go_sem,h5,bA (show m≤4611686018427387904 by omega)];refine hK' _ _ ⟨by simp only[go_sem,h0],by simp only[go_sem,h1],by simp only[go_sem,h6],m+1,E.set m v,by omega,rfl,?_,by rw[List.length_set,hE],?_,?_,fun q row hq h=>by rw[aC _ _ _ _ hq];exact hs' q row hq h⟩
       · rw[aA,List.map_set]
         obtain⟨u,hu⟩:=aW (l:=E) (k:=m) (by omega);rw[aF hu];exact congrArg (fun x=>some (⟨157,2,(E.map cO).set m x⟩:Row)) (Ip u v)
       · rw[Ep E (by omega),ht,cM hv,List.filter_append]
         simp[hp]
       · rw[List.drop_set_of_lt (by omega),←List.drop_drop,hd,List.drop_drop]
     · have hp:p v=true:=by simpa using hb
       simp only[go_sem];refine hK' _ _ ⟨by simp only[go_sem,h0],by simp only[go_sem,h1],by simp only[go_sem,h6],m,E,by omega,by simp only[go_sem,h5],R',hE,?_,?_,hs'⟩
       · rw[ht,cM hv,List.filter_append]
         simp[hp]
       · rw[←List.drop_drop,hd,List.drop_drop]
     rintro ρ H ⟨h0,h1,h6,m',E',hmk',h5,R,hE',ht',hd',hs2⟩;simp only[go_sem,h6,bA (show k≤4611686018427387904 by omega)];exact⟨⟨k+1,m',E',hlt,hmk',h0,h1,h5,rfl,R,hE',ht',hd',hs2⟩,by simp only[aH];omega⟩
   · have hge:k=l.length:=by simp at hge;omega
     subst hge;rw[List.take_length]at ht;have hml:m≤E.length:=by omega
     simp only[go_sem,h0,h5,R,List.length_map];refine⟨by omega,Uc afA Yg R (.inr ⟨_,rfl,rfl⟩) rfl ?_⟩;simp only[go_sem,h0,h5,aA];refine⟨⟨by omega,by simp;omega⟩,.inr ⟨jd,m,_,rfl,aA _ _ _,?_,fun j' hj'=>?_⟩⟩
     · simp;omega
     have hj0:j'≠jd:=fun e=>by rw[e,aA]at hj';cases hj'
     rw[aC _ _ _ _ hj0]at hj';have hjn:H0 j'=none:=by
       cases e:H0 j' with
       | none=>rfl
       | some row=>rw[hs j' row hj0 e]at hj';cases hj'
     refine hK j' _ (fun q row hq h=>?_) (.inl hjn) ?_
     · have hqj:q≠j':=fun e=>by rw[e,hjn]at h;cases h
       rw[aC _ _ _ _ hqj,aC _ _ _ _ hq,aC _ _ _ _ hq];exact hs q row hq h
     · rw[aA]
       refine congrArg (fun L=>some (⟨157,2,L⟩:Row)) ?_;rw[List.take_append_of_le_length (by simp;omega),List.take_append_of_le_length (by simp;omega),List.take_of_length_le (by simp;omega),←List.map_take,ht]
 exact bH.cutO hstep
theorem Ve(s:Stop)(a:Int):PC Tryz.prog 152 [.agg (iC s),int a] (.tup [int (jA s a).1,int (jA s a).2]):=by
 refine PC.body (c:=Tryz.f152.body.getD .skip) (fun _=>false) mixed Tryz.func152 rfl (by kernel_rfl) ?_;unfold Tryz.f152;simp only[Option.getD_some];simp only[go_sem];refine PC.use (Sq.Wj s a) ?_;unfold jA;by_cases h:kX a s.start>s.close
 · simp only[if_pos h]
   simp only[go_sem];refine aB (fun hb=>?_) (fun hb=>?_)
   · simp only[go_sem]
     exact .refl _
   · simp at hb
 · simp only[if_neg h]
   simp only[go_sem];refine aB (fun hb=>?_) (fun hb=>?_)
   · simp at hb
   · simp only[go_sem]
     exact .refl _
theorem Qp(d n:Clk):PC Tryz.prog 153 [.agg (cO d),.rp (cO n) 0] (boo (gZ d n)):=by
 refine PC.body (c:=Tryz.f153.body.getD .skip) (fun _=>false) mixed Tryz.func153 rfl (by kernel_rfl) ?_;unfold Tryz.f153;simp only[Option.getD_some];simp only[go_sem];refine PC.use (C1 d n) ?_;simp only[go_sem];exact .refl _
theorem Px(d n:Clk):PC Tryz.prog 155 [.agg (cO d),.rp (cO n) 0] (boo (gZ n d)):=by
 refine PC.body (c:=Tryz.f155.body.getD .skip) (fun _=>false) mixed Tryz.func155 rfl (by kernel_rfl) ?_;unfold Tryz.f155;simp only[Option.getD_some];simp only[go_sem];refine PC.use (C1 n d) ?_;simp only[go_sem];exact .refl _
theorem RH(c d:Clk):PC Tryz.prog 99 [.agg (cO c),.rp (cO d) 0] (boo (gZ c d)):=by
 refine PC.body (c:=Tryz.f99.body.getD .skip) (fun _=>false) mixed Tryz.func99 rfl (by kernel_rfl) ?_;unfold Tryz.f99;simp only[Option.getD_some];simp only[go_sem];refine PC.use (C1 c d) ?_;simp only[go_sem];exact .refl _
theorem Xb(s:Stop)(out:List Clk)(c:Clk):yG s out c=if((jA s c.ready).2 != 0)=true then out
 else if(out.any fun d=>gZ d ⟨(jA s c.ready).1,c.since⟩)=true then out
 else(out.filter fun d=> !gZ ⟨(jA s c.ready).1,c.since⟩ d)++[⟨(jA s c.ready).1,c.since⟩]:=rfl
theorem Vv(s:Stop)(out:List Clk)(c:Clk):(yG s out c).length≤out.length+1:=by
 unfold yG;split
 · omega
 · split
   · omega
   · have:=List.length_filter_le (fun d=> !gZ ⟨(jA s c.ready).1,c.since⟩ d) out
     rw[List.length_append,List.length_singleton];omega
theorem DK(s:Stop)(l:List Clk):∀k,((l.take k).foldl (yG s) []).length≤k
 | 0=>by simp
 | k+1=>by
   have h:=DK s l k;by_cases hk:k<l.length
   · obtain⟨c,hc⟩:=aW hk
     rw[Sq.fR hc];exact Nat.le_trans (Vv _ _ _) (by omega)
   · rw[List.take_of_length_le (by omega)]
     rw[List.take_of_length_le (by omega)]at h;omega
theorem RG(s:Stop)(l:List Clk)(hl:l.length≤4194304):PC Tryz.prog 93 [.sl (l.map cO),.agg (iC s)] (.sl ((gG s l).map cO)):=by
 refine PC.body (c:=Tryz.f93.body.getD .skip) (fun t=>t == 5) mixed Tryz.func93 rfl (by kernel_rfl) ?_;unfold Tryz.f93;simp only[Option.getD_some];simp only[go_sem];refine aL fun j hj0=>?_
 generalize hGj:aG _ j _=HGj;have R:HGj j=some (qY []):=by rw[←hGj,aA];try rfl
 clear hGj hj0;simp only[go_sem,R];refine⟨fun ρ H=>∃(k:Nat) (j:Nat),k≤l.length∧ρ 3=.rp (iC s) 0∧ρ 11=.sl (l.map cO)∧ρ 12=int (l.length:Nat)∧ρ 13=int k∧ρ 5=.os j∧H j=some (qY ((l.take k).foldl (yG s) [])),fun ρ _=>l.length-bE (ρ 13),⟨0,j,Nat.zero_le _,by simp only[go_sem],by simp only[go_sem],by simp only[go_sem,List.length_map],(by simp only[go_sem];rfl),by simp only[go_sem],R⟩,?_⟩;rintro ρ H ⟨k,j,hk,e3,e11,e12,e13,e5,R⟩;simp only[go_sem,e3,e11,e12,e13,e5];refine aB (fun hlt=>?_) (fun hge=>?_)
 · have hlt:=ltB (by simpa using hlt)
   obtain⟨c,hc⟩:=aW hlt;have b1:=inB hlt;have hs:=Sq.fR (f:=yG s) (b:=([]:List Clk)) hc;have hlen:=DK s l k;generalize (l.take k).foldl (yG s) []=out at *;rw[Xb]at hs;simp only[go_sem,e3,e11,e12,e13,e5,aF hc,b1];refine aL fun i7 hi70=>?_
   have ne_j_i7:j≠i7:=aN R hi70;simp only[go_sem,e3,e11,e12,e13,e5,R];refine aP (aA _ _ _) (by simp[kY]) ?_;generalize hGi7:aG (aG _ i7 _) i7 _=HGi7;replace R:=(congrFun hGi7.symm j).trans ((aC _ _ _ _ ne_j_i7).trans ((aC _ _ _ _ ne_j_i7).trans R));have R7:HGi7 i7=some (vT c):=by rw[←hGi7,aA];try rfl
   clear hGi7 hi70;simp only[go_sem,e3,e11,e12,e13,e5,R7,R];refine PC.use (Ve s c.ready) ?_;generalize jA s c.ready=dp at *;simp only[go_sem,e3,e11,e12,e13,e5];refine aB (fun hb=>?_) (fun hb=>?_)
   · rw[if_pos hb]at hs
     simp only[go_sem,e3,e11,e12,e13,e5,bA (show k≤4611686018427387904 by omega)];exact⟨⟨k+1,j,hlt,rfl,rfl,by rw[hs];exact R⟩,by simp only[aH];omega⟩
   rw[if_neg (fun h=>Bool.noConfusion (hb.symm.trans h))]at hs;simp only[go_sem,e3,e11,e12,e13,e5,R7];refine aL fun i10 hi100=>?_
   have ne_j_i10:j≠i10:=aN R hi100;have ne_i7_i10:i7≠i10:=aN R7 hi100;simp only[go_sem,e3,e11,e12,e13,e5,R,R7];refine aP (aA _ _ _) (by simp[kY]) ?_;generalize hGi10:aG (aG _ i10 _) i10 _=HGi10;replace R:=(congrFun hGi10.symm j).trans ((aC _ _ _ _ ne_j_i10).trans ((aC _ _ _ _ ne_j_i10).trans R));replace R7:=(congrFun hGi10.symm i7).trans ((aC _ _ _ _ ne_i7_i10).trans ((aC _ _ _ _ ne_i7_i10).trans R7));have R10:HGi10 i10=some (vT ⟨dp.1,c.since⟩):=by rw[←hGi10,aA];try rfl
   clear hGi10 hi100;simp only[go_sem,e3,e11,e12,e13,e5,R10,R,R7];refine dK.use ⟨[.sl (out.map cO),.fn 153 [.rp (cO ⟨dp.1,c.since⟩) 0]],.cons _ _ _ _ (.row _ _ _ R (ConvE.refl _)) (.cons _ _ _ _ (.fn _ _ _ (.cons _ _ _ _ (.ptr _ _ _ _ _ R10 (by simp) (ConvL.refl _)) .nil)) .nil),IU out (by omega) (by kernel_rfl) (fun v _=>Qp v _),rfl⟩ ?_;simp only[go_sem,e3,e11,e12,e13,e5];refine aB (fun hb=>?_) (fun hb=>?_)
   · rw[if_pos hb]at hs
     simp only[go_sem,e3,e11,e12,e13,e5,bA (show k≤4611686018427387904 by omega)];exact⟨⟨k+1,j,hlt,rfl,rfl,by rw[hs];exact R⟩,by simp only[aH];omega⟩
   rw[if_neg (fun h=>Bool.noConfusion (hb.symm.trans h))]at hs;simp only[go_sem,e3,e11,e12,e13,e5];refine Q4 (p:=fun d=>gZ ⟨dp.1,c.since⟩ d) (cap':=[.rp (cO ⟨dp.1,c.since⟩) 0]) out _ j R (by omega) (by kernel_rfl) (fun v _=>Px v _) (fun H' h'=>.cons _ _ _ _ (.ptr _ _ _ _ _ (h' i10 _ ne_j_i10.symm R10) (by simp) (ConvL.refl _)) .nil) fun j1 H1 hk1 hj1 R1=>?_
   have R10b:=hk1 i10 _ ne_j_i10.symm R10;have hfl:=List.length_filter_le (fun d=> !gZ ⟨dp.1,c.since⟩ d) out;simp only[go_sem,e3,e11,e12,e13,e5,R10b];refine aX R1 ⟨rfl,rfl⟩ (by simp only[go_sem]) (by simp only[List.length_map,List.length_cons,List.length_nil];omega) (fun j2 hj2=>?_);simp only[go_sem,e3,e11,e12,e13,e5,bA (show k≤4611686018427387904 by omega)];refine⟨⟨k+1,j2,hlt,rfl,rfl,?_⟩,by simp only[aH];omega⟩;rw[aA,hs];exact congrArg some (JE _ _ _)
 have hge:=geB hk (by simpa using hge);subst hge;rw[List.take_length]at R;simp only[go_sem,e3,e11,e12,e13,e5];exact .row _ _ _ R (ConvE.refl _)
end Go.Proofs.YtdlijlecpopadaaGreatDoor.Rx
end

section
set_option linter.unusedSimpArgs false
set_option linter.unusedVariables false
namespace Go.Proofs.YtdlijlecpopadaaGreatDoor.Rx
open Go.Aw Go.Aw.D Go.Proofs Ty Go.Nu
open Sq (W dP pG qT sA iM jW eM kE NetOk)
open Nu (wL vQ Bu ltB geB)
set_option maxRecDepth 100000
abbrev eW(p:Part):Row:=⟨94,7,[bX p]⟩
abbrev Fr:Row:=⟨94,7,[[int 0,int 0,int 0,int 0,.sl [],.sl [],str ByteArray.empty]]⟩
structure WkOk(w:Wk):Prop where
 net:NetOk w.x.net
 near:NearB w.near
 len:w.near.length=w.x.orders.length
 kind:w.kind<4611686018427387904
 dual:∀l,w.dual=some l→l.length=w.x.orders.length∧∀a∈l,a.size≤1048576
structure PartOk(p:Part):Prop where
 mem:p.memory<2^62
 board:p.board<2^62
 value:p.value.size≤1048576
theorem iV{x:Instance}{o:Nat}(h:o<x.orders.length):x.orders[o]?=some (aJ x o):=by
 unfold aJ;rw[List.getD,List.getElem?_eq_getElem h,Option.getD_some]
theorem JF(a:Int)(k:Nat):0≤jZ a k∧jZ a k≤1:=by unfold jZ;split <;> omega
theorem ahH(n:Int):shV .shl .i64 n 16=W (n*65536):=(rfl)
theorem Yp(n:Int):shV .shl .i64 n 24=W (n*16777216):=(rfl)
theorem Oj(x y:Rat):(yI x y).1.size≤8194:=by
 by_cases h:(yI x y).2=0
 · obtain⟨e,hs⟩:=MH h
   rw[e];exact A5 hs
 · have h2 : yI x y = (emp, 4) := by
     unfold yI at h ⊢;split
     · rfl
     · next hn=>rw[if_neg hn]at h;exact absurd rfl h
   rw[h2];exact Nat.zero_le _
theorem Nz(a b:ByteArray):(qL a b).1.size≤8194:=by
 unfold qL;split
 · exact Oj _ _
 · exact Nat.zero_le _
theorem Hk(a b:ByteArray):(pQ a b).1.size≤8194:=by
 unfold pQ;split
 · exact Oj _ _
 · exact Nat.zero_le _
theorem wW(a:ByteArray)(n:Int):(addV a n).size≤8194:=by
 unfold addV;exact Nz _ _
theorem Vz(H0 : aE)(jw : Nat)(w : Wk)(hw : H0 jw = some (mC w))(p : Part)(o : Nat)(ho : o < w.x.orders.length)(h : WkOk w)(hpo : PartOk p):
   LC Tryz.prog 89 [.op jw 0 0,.agg (bX p),int (o:Nat)] H0 (.tup [.agg (bX (fY w p o).1),boo (fY w p o).2]):=by
 have e:fY w p o=if(kE (p.memory:Nat) (o:Nat)||kE (p.board:Nat) (o:Nat))=true then(p,false)
   else({ p with memory:=sG w.near p.memory o,value:=zQ (addV p.value ((jZ (aJ w.x o).now w.kind*16+jZ (aJ w.x o).last w.kind)*65536)) o w.dual },true):=rfl
 generalize fY w p o=S at e;refine LC.body (c:=Tryz.f89.body.getD .skip) (fun t=>t == 4) mixed Tryz.func89 rfl (by kernel_rfl) ?_;unfold Tryz.f89;simp only[Option.getD_some];simp only[go_sem];have U:=Sup.refl H0;refine aL fun j4 hj40=>?_
 have n_j4:=U.none hj40;generalize hGj4:aG _ j4 _=HGj4;replace U:=Sup.eq (U.upd n_j4 _) hGj4;have R4:HGj4 j4=some (eW p):=by rw[←hGj4,aA];try rfl
 clear hGj4 hj40;simp only[go_sem,R4];refine aL fun j6 hj60=>?_
 have ne_j4_j6:j4≠j6:=aN R4 hj60;have n_j6:=U.none hj60;generalize hGj6:aG _ j6 _=HGj6;replace U:=Sup.eq (U.upd n_j6 _) hGj6;replace R4:=(congrFun hGj6.symm j4).trans ((aC _ _ _ _ ne_j4_j6).trans R4);have R6:HGj6 j6=some (Fr):=by rw[←hGj6,aA];try rfl
 clear hGj6 hj60;simp only[go_sem,R6,R4];refine PC.use (Sq.CI _ _) ?_;simp only[go_sem,R4,R6];refine⟨_,fun _=>PC.q (Sq.CI _ _) rfl,?_⟩;simp only[go_sem,R4,R6];refine aB (fun hb=>?_) (fun hb=>?_)
 · rw[if_pos hb]at e
   subst e;simp only[go_sem,R4,R6];refine aP R6 (by simp[bT]) ?_;simp only[go_sem];exact lU.flat ((U.upd n_j6 _)) _
 rw[if_neg (fun h=>Bool.noConfusion (hb.symm.trans h))]at e;subst e;simp only[go_sem,R4,R6];have hjw:=U.at hw;have njw4:jw≠j4:=Sup.ne (Sup.refl H0) hw n_j4;have njw6:jw≠j6:=Sup.ne (Sup.refl H0) hw n_j6;refine dJ [jw] [(0,true),(1,true),(2,true),(3,true),(4,true),(6,true),(5,false),(7,false),(8,false),(9,false)] (by simp[hjw]) (by kernel_rfl) fun Hp Hr hp hr _ hr0=>?_
 have P_hjw:=(hp jw (by simp)).trans hjw;have Q_R4:=(hr j4 (by simp[njw4.symm])).trans R4;simp only[go_sem,P_hjw,Q_R4];refine PC.use (DQ w.near p.memory o (by rw[h.len];exact ho) h.near hpo.mem) ?_;simp only[go_sem,Q_R4];refine bY so3 Q_R4 (by simp[bT]) ?_;refine fC hr (by simp[njw4.symm]) ?_;generalize hP:aG _ j4 _=HP;replace U:=Sup.eq (U.upd n_j4 _) hP;replace R6:=(congrFun hP.symm j6).trans ((aC _ _ _ _ (by first|exact ne_j6_j4|exact ne_j4_j6.symm)).trans R6);replace R4b:HP j4=some (eW { p with memory:=sG w.near p.memory o }):=by rw[←hP,aA];rfl
 clear hP;simp only[go_sem,R4b,R6];have hjw:=U.at hw;have b1:=inB ho;have g1:=aF (f:=aV) (iV ho);refine dJ [jw] [(0,true),(1,true),(2,true),(3,true),(4,true),(5,true),(6,true),(7,true),(8,true),(9,true),(10,true),(11,true),(12,true),(13,true),(14,true),(15,true),(16,true),(17,true),(18,true),(19,true),(20,true),(21,true),(22,true),(23,true),(24,true),(25,true),(26,true),(27,true),(28,true),(29,true),(30,true)] (by simp[hjw]) (by kernel_rfl) fun Hp Hr hp hr _ hr0=>?_
 have P_hjw:=(hp jw (by simp)).trans hjw;simp only[go_sem,g1,b1,P_hjw];refine⟨_,PC.q (Gy _ _) rfl,?_⟩;simp only[go_sem,P_hjw,g1,b1];refine⟨_,PC.q (Gy _ _) rfl,?_⟩;have d1:=JF (aJ w.x o).now w.kind;have d2:=JF (aJ w.x o).last w.kind;generalize jZ (aJ w.x o).now w.kind=D1 at *;generalize jZ (aJ w.x o).last w.kind=D2 at *;have w1:IntKind.i64.wrap (D1*16)=D1*16:=aQ (by omega);have w2:IntKind.i64.wrap (D1*16+D2)=D1*16+D2:=aQ (by omega);simp only[go_sem,P_hjw,w1,w2];refine eA hr ?_;simp only[go_sem,R4b];have w3:shV .shl .i64 (D1*16+D2) 16=(D1*16+D2)*65536:=(ahH _).trans (aQ (by omega));rw[w3];have hD:0≤(D1*16+D2)*65536∧(D1*16+D2)*65536≤1114112:=by omega
 generalize (D1*16+D2)*65536=D at *;refine⟨by omega,LC.use (Nv _ _ _ _ hpo.value (by omega) (by omega)) ?_⟩;simp only[go_sem,R4b];refine bY Qs R4b (by simp[bT]) ?_;generalize hP:aG _ j4 _=HP;replace U:=Sup.eq (U.upd n_j4 _) hP;replace R6:=(congrFun hP.symm j6).trans ((aC _ _ _ _ (by first|exact ne_j6_j4|exact ne_j4_j6.symm)).trans R6);replace R4c:HP j4=some (eW { p with memory:=sG w.near p.memory o,value:=addV p.value D }):=by rw[←hP,aA];rfl
 clear hP;simp only[go_sem,R4c,R6];have hjw:=U.at hw;have hvs:=wW p.value D;simp only[go_sem,hjw];cases hd:w.dual with
 | none=>
   rw[show OU none=.v (.slice none 0 0)from rfl];simp only[go_sem];refine aB (fun hb=>nomatch hb) (fun _=>?_);simp only[go_sem,R4c,R6];refine aP R6 (by simp[bT]) ?_;simp only[go_sem];exact lU.flat (U.upd n_j6 _) _
 | some l=>
   obtain⟨hdl,hds⟩:=h.dual l hd;obtain⟨q,hq⟩:=aW (l:=l) (k:=o) (by omega);have hne:l.map Go.Aw.D.fL≠[]:=fun e=>by rw[List.map_eq_nil_iff]at e;rw[e]at hq;simp at hq
   have hD:iZ w=iZ w:=rfl;rw[show OU (some l)=.sl (l.map Go.Aw.D.fL)from rfl];simp only[go_sem];refine⟨fun e=>absurd e hne,?_⟩;refine aB (fun _=>?_) (fun hb=>nomatch hb);have b3:=inB (show o<l.length by omega);have g3:=aF (f:=Go.Aw.D.fL) hq;have e22:(iZ w).getD 22 .any=.sl (l.map Go.Aw.D.fL):=by rw[J5,hd];rfl
   refine dJ [jw] [(0,true),(2,true),(3,true),(4,true),(5,true),(6,true),(7,true),(8,true),(1,false),(9,false),(10,true),(11,true),(12,true),(13,true),(14,false)] (by simp[hjw]) (by kernel_rfl) fun Hp Hr hp hr _ hr0=>?_
   have P_hjw:=(hp jw (by simp)).trans hjw;have Q_R4c:=(hr j4 (by simp[njw4.symm])).trans R4c;simp only[go_sem,e22,b3,g3,P_hjw,Q_R4c];refine PC.use (vQ _ _ (by omega) (hds q (List.mem_of_getElem? hq))) ?_;simp only[go_sem,Q_R4c];refine bY Qs Q_R4c (by simp[bT]) ?_;refine fC hr (by simp[njw4.symm]) ?_;generalize hP:aG _ j4 _=HP;replace U:=Sup.eq (U.upd n_j4 _) hP;replace R6:=(congrFun hP.symm j6).trans ((aC _ _ _ _ (by first|exact ne_j6_j4|exact ne_j4_j6.symm)).trans R6);replace R4d:HP j4=some (eW { p with memory:=sG w.near p.memory o,value:=(pQ (addV p.value D) q).1 }):=by rw[←hP,aA];rfl
   clear hP;simp only[go_sem,R4d,R6];refine aP R6 (by simp[bT]) ?_;simp only[go_sem];have e3:zQ (addV p.value D) o (some l)=(pQ (addV p.value D) q).1:=by
     show(pQ (addV p.value D) (l.getD o ByteArray.empty)).1=_;rw[List.getD,hq];rfl
   rw[e3];exact lU.flat (U.upd n_j6 _) _
theorem ZC(a b:List Int)(hl:a.length≤1048576)(hab:a.length=b.length):PC Tryz.prog 149 [.sl (a.map aO),.sl (b.map aO)] (.tup [.sl ((qT a b).map aO),int 0]):=
 RC.conv (RC.mono (Sq.aiL a b hl hab) fun x H' ⟨k,hx,hk⟩=>hx▸.tup _ _ (.cons _ _ _ _ (.row k _ _ hk (ConvE.refl _)) (.cons _ _ _ _ (.refl _) .nil)))
theorem Yy(a b:List Int)(hl:a.length≤1048576)(hab:a.length=b.length):PC Tryz.prog 150 [.sl (a.map aO),.sl (b.map aO)] (.tup [.sl ((sA a b).map aO),int 0]):=
 RC.conv (RC.mono (Sq.abB a b hl hab) fun x H' ⟨k,hx,hk⟩=>hx▸.tup _ _ (.cons _ _ _ _ (.row k _ _ hk (ConvE.refl _)) (.cons _ _ _ _ (.refl _) .nil)))
abbrev uQ(o:Order):Row:=⟨143,16,[aV o]⟩
theorem LS{a b:Nat}(ha:a<2^63)(hb:b<2^63):qQ .andNot .i64 (a:Int) (b:Int)=((a ^^^ (a &&& b):Nat):Int):=by
 have hx:∀x y:BitVec 64,x &&& ~~~y=x ^^^ (x &&& y):=fun x y=>by
   ext i hi
   simp only[BitVec.getElem_and,BitVec.getElem_not,BitVec.getElem_xor];cases x[i] <;> cases y[i] <;> rfl
 have h:((BitVec.ofInt 64 (a:Int) &&& ~~~BitVec.ofInt 64 (b:Int)).toNat:Int)=((a ^^^ (a &&& b):Nat):Int):=by
   rw[hx,BitVec.toNat_xor,BitVec.toNat_and,BitVec.toNat_ofInt,BitVec.toNat_ofInt];have h1:((a:Int)%((2^64:Nat):Int)).toNat=a:=by omega
   have h2:((b:Int)%((2^64:Nat):Int)).toNat=b:=by omega
   rw[h1,h2]
 refine Eq.trans (congrArg IntKind.i64.wrap h) ?_;have h3:a &&& b<2^63:=Nat.lt_of_le_of_lt Nat.and_le_left ha;have:=Nat.xor_lt_two_pow ha h3;exact aQ (by omega)
theorem OB(a b:List Int)(h:a.length=b.length):(qT a b).length=a.length∧(sA a b).length=a.length:=by
 constructor
 · show(List.zipWith _ a b).length=_
   rw[List.length_zipWith];omega
 · show(List.zipWith _ a b).length=_
   rw[List.length_zipWith];omega
theorem UH(H0 : aE)(jw : Nat)(w : Wk)(hw : H0 jw = some (mC w))(p : Part)(o : Nat)(d : Bool)(ho : o < w.x.orders.length)(h : WkOk w)(hpo : PartOk p)(hol : o ≤ 61)
   (hl:p.load.length=(aJ w.x o).load.length) (hll:p.load.length≤1048576):
   LC Tryz.prog 90 [.op jw 0 0,.agg (bX p),.agg (bS ⟨(o:Nat),d⟩)] H0 (.tup [.agg (bX (fH w p o d).1),boo (fH w p o d).2]):=by
 refine LC.body (c:=Tryz.f90.body.getD .skip) (fun t=>t == 4) mixed Tryz.func90 rfl (by kernel_rfl) ?_;unfold Tryz.f90;simp only[Option.getD_some];simp only[go_sem];have U:=Sup.refl H0;refine aL fun j4 hj40=>?_
 have n_j4:=U.none hj40;generalize hGj4:aG _ j4 _=HGj4;replace U:=Sup.eq (U.upd n_j4 _) hGj4;have R4:HGj4 j4=some (eW p):=by rw[←hGj4,aA];try rfl
 clear hGj4 hj40;simp only[go_sem,R4];refine aL fun j6 hj60=>?_
 have ne_j4_j6:j4≠j6:=aN R4 hj60;have n_j6:=U.none hj60;generalize hGj6:aG _ j6 _=HGj6;replace U:=Sup.eq (U.upd n_j6 _) hGj6;replace R4:=(congrFun hGj6.symm j4).trans ((aC _ _ _ _ ne_j4_j6).trans R4);have R6:HGj6 j6=some (Fr):=by rw[←hGj6,aA];try rfl
 clear hGj6 hj60;simp only[go_sem,R6,R4];have b1:=inB ho;have g1:=aF (f:=aV) (iV ho);have njw4:jw≠j4:=Sup.ne (Sup.refl H0) hw n_j4;have njw6:jw≠j6:=Sup.ne (Sup.refl H0) hw n_j6;have hjw:=U.at hw;refine dJ [jw] [(0,true),(1,true),(2,true),(3,true),(4,true),(5,true),(6,true),(7,true),(8,true),(9,false),(10,false)] (by simp[hjw]) (by kernel_rfl) fun Hp Hr hp hr _ hr0=>?_
 have P_hjw:=(hp jw (by simp)).trans hjw;simp only[go_sem,g1,b1,P_hjw];refine aL fun j8 hq8=>?_
 simp only[go_sem];refine aP (aA _ _ _) (by simp[iY]) ?_;refine nY hr hq8 fun hj80=>?_
 have ne_j4_j8:j4≠j8:=aN R4 hj80;have ne_j6_j8:j6≠j8:=aN R6 hj80;have n_j8:=U.none hj80;generalize hGj8:aG (aG _ j8 _) j8 _=HGj8;replace U:=Sup.eq ((U.upd n_j8 _).upd n_j8 _) hGj8;replace R4:=(congrFun hGj8.symm j4).trans ((aC _ _ _ _ ne_j4_j8).trans ((aC _ _ _ _ ne_j4_j8).trans R4));replace R6:=(congrFun hGj8.symm j6).trans ((aC _ _ _ _ ne_j6_j8).trans ((aC _ _ _ _ ne_j6_j8).trans R6));have R8:HGj8 j8=some (uQ (aJ w.x o)):=by rw[←hGj8,aA];try rfl
 clear hGj8 hj80;simp only[go_sem,R8,R4,R6];have hjw:=U.at hw;have njw8:jw≠j8:=Sup.ne (Sup.refl H0) hw n_j8;generalize hO:aJ w.x o=O at *;have eL:fH w p o d=if d=false then({ p with load:=qT p.load O.load,board:=if jB O=true then p.board ||| 2^o else p.board },iM (qT p.load O.load) w.t.cap)
   else if jB O=true then
     if kE (p.board:Nat) (o:Nat)=true then({ p with load:=sA p.load O.load,board:=A2 p.board o },iM (sA p.load O.load) w.t.cap)else(p,false)
   else(p,iM p.load w.t.cap):=by rw[←hO];rfl
 generalize fH w p o d=S at eL;have hzl:(qT p.load O.load).length≤1048576∧(sA p.load O.load).length≤1048576:=by have:=OB _ _ hl;omega
 have hp63:2^o<2^63:=Nat.pow_lt_pow_right (by decide) (by omega);have hsh:=Sq.LQ (show o≤62 by omega);refine dT (fun ρ' H'=>∃(P':Part),ρ' 0=.op jw 0 0∧ρ' 4=.op j4 0 0∧ρ' 6=.op j6 0 0∧S=(P',iM P'.load w.t.cap)∧P'.load.length≤1048576∧H' j4=some (eW P')∧H' j6=some Fr∧Sup H0 H') ?_ fun K hK hKe hKr=>aB (fun hb=>?_) (fun hb=>?_)
 rotate_left
 · have hd:d=false:=by simpa using hb
   rw[if_pos hd]at eL;simp only[go_sem,R4,R6,R8];refine PC.use (ZC p.load O.load hll hl) ?_;simp only[go_sem,R4];refine bY Pg R4 (by simp[bT]) ?_;generalize hP:aG _ j4 _=HP;replace U:=Sup.eq (U.upd n_j4 _) hP;replace R6:=(congrFun hP.symm j6).trans ((aC _ _ _ _ (by first|exact ne_j6_j4|exact ne_j4_j6.symm)).trans R6);replace R4:HP j4=some (eW { p with load:=qT p.load O.load }):=by rw[←hP,aA];rfl
   clear hP;simp only[go_sem,R4,R6];refine aB (fun hb=>?_) (fun hb=>?_)
   · have hB:jB O=true:=hb
     rw[if_pos hB]at eL;simp only[go_sem];refine jD [(0,true),(2,true),(3,true),(4,true),(1,false),(5,true),(6,true),(7,false)] (by kernel_rfl) ?_;simp only[go_sem,R4,hsh,Sq.UV (show p.board<2^63 from Nat.lt_trans hpo.board (by decide)) hp63];refine⟨by omega,?_⟩;refine bY so3 R4 (by simp[bT]) ?_;generalize hP:aG _ j4 _=HP;replace U:=Sup.eq (U.upd n_j4 _) hP;replace R6:=(congrFun hP.symm j6).trans ((aC _ _ _ _ (by first|exact ne_j6_j4|exact ne_j4_j6.symm)).trans R6);replace R4:HP j4=some (eW { p with load:=qT p.load O.load,board:=p.board ||| 2^o }):=by rw[←hP,aA];rfl
     clear hP;simp only[go_sem,R4,R6];refine hK _ _ ⟨_,by simp only[go_sem],by simp only[go_sem],by simp only[go_sem],eL,hzl.1,R4,R6,U⟩
   · have hB:¬jB O=true:=fun h=>Bool.noConfusion (hb.symm.trans h)
     rw[if_neg hB]at eL;simp only[go_sem];refine hK _ _ ⟨_,by simp only[go_sem],by simp only[go_sem],by simp only[go_sem],eL,hzl.1,R4,R6,U⟩
 · have hd:¬d=false:=by simpa using hb
   rw[if_neg hd]at eL;simp only[go_sem];refine aB (fun hb=>?_) (fun hb=>?_)
   · have hB:jB O=true:=hb
     rw[if_pos hB]at eL;simp only[go_sem,R4];refine PC.use (Sq.CI _ _) ?_;simp only[go_sem,R4,R6];refine aB (fun hb=>?_) (fun hb=>?_)
     · have hh:¬kE (p.board:Nat) (o:Nat)=true:=by simpa using hb
       rw[if_neg hh]at eL;subst eL;simp only[go_sem,R4,R6];refine aP R6 (by simp[bT]) ?_;simp only[go_sem];refine hKr _ _ ?_;simp only[go_sem];exact lU.flat (U.upd n_j6 _) _
     · have hh:kE (p.board:Nat) (o:Nat)=true:=by simpa using hb
       rw[if_pos hh]at eL;simp only[go_sem,R4,R8];refine PC.use (Yy p.load O.load hll hl) ?_;simp only[go_sem,R4];refine bY Pg R4 (by simp[bT]) ?_;generalize hP:aG _ j4 _=HP;replace U:=Sup.eq (U.upd n_j4 _) hP;replace R6:=(congrFun hP.symm j6).trans ((aC _ _ _ _ (by first|exact ne_j6_j4|exact ne_j4_j6.symm)).trans R6);replace R4:HP j4=some (eW { p with load:=sA p.load O.load }):=by rw[←hP,aA];rfl
       clear hP;simp only[go_sem,R4,R6];refine jD [(0,true),(2,true),(3,true),(4,true),(1,false),(5,true),(6,true),(7,false)] (by kernel_rfl) ?_;simp only[go_sem,R4,hsh,LS (show p.board<2^63 from Nat.lt_trans hpo.board (by decide)) hp63];refine⟨by omega,?_⟩;refine bY so3 R4 (by simp[bT]) ?_;generalize hP:aG _ j4 _=HP;replace U:=Sup.eq (U.upd n_j4 _) hP;replace R6:=(congrFun hP.symm j6).trans ((aC _ _ _ _ (by first|exact ne_j6_j4|exact ne_j4_j6.symm)).trans R6);replace R4:HP j4=some (eW { p with load:=sA p.load O.load,board:=A2 p.board o }):=by rw[←hP,aA];rfl
       clear hP;simp only[go_sem,R4,R6];refine hK _ _ ⟨_,by simp only[go_sem],by simp only[go_sem],by simp only[go_sem],eL,hzl.2,R4,R6,U⟩
   · have hB:¬jB O=true:=fun h=>Bool.noConfusion (hb.symm.trans h)
     rw[if_neg hB]at eL;simp only[go_sem];refine hK _ _ ⟨_,by simp only[go_sem],by simp only[go_sem],by simp only[go_sem],eL,hll,R4,R6,U⟩
 rintro ρ H ⟨P',e0,e4,e6,hP,hPl,R4,R6,U⟩;have hjw:=U.at hw;simp only[go_sem,e0,e4,e6];refine dJ [jw,j4] [(0,true),(1,true),(2,true),(3,true),(4,true),(5,true),(6,true),(7,true),(8,false),(9,false),(10,true)] (by simp[hjw,R4]) (by kernel_rfl) fun Hp Hr hp hr _ hr0=>?_
 have P_hjw:=(hp jw (by simp)).trans hjw;have P_R4:=(hp j4 (by simp)).trans R4;have Q_R6:=(hr j6 (by simp[njw6.symm,ne_j4_j6.symm])).trans R6;simp only[go_sem,e0,e4,e6,P_hjw,P_R4,Q_R6];refine PC.use (Sq.N6 P'.load w.t.cap hPl) ?_;simp only[go_sem,e0,e4,e6,Q_R6];refine aP Q_R6 (by simp[bT]) ?_;simp only[go_sem,e0,e4,e6];refine fC hr (by simp[njw6.symm,ne_j4_j6.symm]) ?_;simp only[go_sem,e0,e4,e6];rw[hP];exact lU.flat (U.upd n_j6 _) _
end Go.Proofs.YtdlijlecpopadaaGreatDoor.Rx
end
