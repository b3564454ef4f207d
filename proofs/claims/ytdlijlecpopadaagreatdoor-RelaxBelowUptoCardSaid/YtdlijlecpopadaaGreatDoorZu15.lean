import Derived.Test.YtdlijlecpopadaaGreatDoorZu14
set_option linter.unusedSimpArgs false
set_option linter.unusedVariables false
set_option maxRecDepth 100000
section
namespace Go.Proofs.YtdlijlecpopadaaGreatDoor.Rx
open Go.Proofs.Tryz(prog)
open Go.Aw Go.Aw.D Go.Proofs Ty Go.Nu
open Sq (W dH mU pC rS fE eM dD gL NetOk nE lE jQ mE)
open Mv (bZ cQ NC.pc aT)
open Nu (zG uE AF ltB geB)
theorem bA.cutO{P:Program}{f:FuncId}{args:List AV}{H:aJ}{K:AV->aJ->Prop}
   (h:bA P f args H fun a H'=>K a H'\/∃j i row,a=.oz j 0 i/\H' j=some row/\i<=row.es.length/\∀I,H' I=none->K (.os I) (aI (aI H' j none) I (some ⟨row.e,row.sz,row.es.take i⟩))):bA P f args H K:=by
 intro S w vals hS ha;refine(h S w vals hS ha).mono fun e w' ⟨v,x,H',S',he,J,F,hv,Z,hn⟩=>?_
 rcases J with J|J
 . exact⟨v,x,H',S',he,J,F,hv,Z,hn⟩
 have h2:∀K2:AV->aJ->Prop,(∃j i row,x=.oz j 0 i/\H' j=some row/\i<=row.es.length/\∀I,H' I=none->K2 (.os I) (aI (aI H' j none) I (some ⟨row.e,row.sz,row.es.take i⟩)))->∃v x H' S',e=.returned v/\K2 x H'/\St S' w' H'/\rep S' w' x v/\Grow S w S' w'/\∀k,k<S.N->H k=none->H' k=none:=by
   rintro K2 ⟨j,i,row,rfl,hj,hi,hk⟩;simp only[rep]at hv;obtain⟨ac,ad,n,c,aa,cc,X,O,_,ab,_,h0⟩:=hv;obtain⟨rfl,rfl⟩:=h0 trivial;obtain⟨c1,c2⟩:=F.cut hj X hi;have E:H' S'.N=none:=by
     cases e:H' S'.N with
     | none=>rfl
     | some row2=>exact absurd (F.rows _ _ e).lt (Nat.lt_irrefl _)
   refine⟨v,.os S'.N,_,_,he,hk S'.N E,c1,?_,Z.trans c2,fun q hq h0=>?_⟩
   . simp only[rep]
     refine⟨Nat.lt_succ_self _,?_,aa,i-0,cc,O⟩;rw[O];simp[Sg.addRow]
   . have Y:q≠S'.N:=Nat.ne_of_lt (Xcc hq Z.le.N)
     rw[aD _ _ _ _ Y];by_cases e:q=j
     . subst e;rw[aA]
     . rw[aD _ _ _ _ e];exact hn q hq h0
 exact h2 K J
theorem IX{α:Type}{p:α->Bool}:∀{l:List α} {n:Int},0<=n->nE p l n= -1->∀y∈l,p y=false
 | [],_,_,_,y,E=>by simp at E
 | a::r,n,hn,h,y,E=>by
   simp only[nE]at h;split at h
   . omega
   . next F=>
     rcases Xbi.1 E with rfl|E
     . simpa using F
     . exact IX (by omega) h y E
theorem Jp{α:Type}{p:α->Bool}:∀{l:List α} {n:Int},nE p l n≠ -1->∃(i:Nat) (y:α),nE p l n=n+i/\l[i]?=some y/\p y=true/\∀u∈l.take i,p u=false
 | [],_,h=>absurd rfl h
 | a::r,n,h=>by
   simp only[nE]at h |-;by_cases E:p a=true
   . exact⟨0,a,by rw[if_pos E];omega,rfl,E,by simp⟩
   . rw[if_neg E]at h |-
     obtain⟨i,y,h1,O,J,I⟩:=Jp h;refine⟨i+1,y,by omega,O,J,fun u F=>?_⟩;rw[List.take_succ_cons]at F;rcases Xbi.1 F with rfl|F
     . simpa using E
     . exact I u F
theorem G1{α:Type}(l:List α){m:Nat}{v:α}(h:m<l.length):(l.set m v).take (m+1)=l.take m++[v]:=by
 have E:(l.set m v)[m]?=some v:=by simp[h]
 rw[List.take_add_one,E,List.take_set_of_le (Xag m)];rfl
theorem MZ{g:Nat}{cap:List AV}{p:Clk->Bool}(l:List Clk)(hl:l.length<=4000000000000000000)(Y:aE prog g=true)(hg:∀v∈l,PC prog g ((.agg (cP v))::cap) (boo (p v))):
   PC prog 156 [.sl (l.map cP),.fn g cap] (int (nE p l 0)):=by
 refine pcd Tryz.func156 ?_;unfold Tryz.f156;simp only[gdS];simp only[go_sem];refine⟨fun ρ _=>∃k:Nat,k<=l.length/\ρ 0=.sl (l.map cP)/\ρ 1=.fn g cap/\ρ 7=int l.length/\ρ 8=int k/\∀u∈l.take k,p u=false,fun ρ _=>l.length-aX (ρ 8),⟨0,Xab _,rfl,rfl,rfl,rfl,by simp⟩,?_⟩;rintro ρ H ⟨k,hk,h0,h1,J,I,X⟩;simp only[go_sem,h0,h1,J,I];refine aB (fun E=>?_) (fun F=>?_)
 . have E:=aZ E
   obtain⟨u,O⟩:=aQ E;have b1:=inB E;simp only[go_sem,h0,h1,J,I,aH O,b1,Y];refine PC.use (hg u (Xad O)) ?_;simp only[go_sem,h0,h1,J,I];refine aB (fun Z=>?_) (fun Z=>?_)
   . simp only[go_sem,I]
     exact bZ (by rw[lE X O Z];omega)
   . simp only[go_sem,h0,h1,J,I,aS (show k<=4611686018427387904 by omega)]
     exact⟨⟨k+1,E,rfl,aT (p:=fun u=>p u=false) O Z X⟩,by simp only[aG];omega⟩
 . have F:=bD hk F
   subst F;rw[Xaf]at X;simp only[go_sem];exact bZ (by rw[jQ X])
theorem Mf{g:Nat}{cap:List AV}{p:Clk->Bool}(l:List Clk)(F:l.length<=4000000000000000000)(E:aE prog g=true)(I:∀v∈l,PC prog g ((.agg (cP v))::cap) (boo (p v))):
   PC prog 98 [.sl (l.map cP),.fn g cap] (boo (l.any p)):=by
 refine pcd Tryz.func98 ?_;unfold Tryz.f98;simp only[gdS];simp only[go_sem];refine PC.use (MZ l F E I) ?_;simp only[go_sem];exact cQ (mE l 0 (Xaj _))
theorem Ly(u v:Clk):mH (cP u) 0 (cP v)=cP v:=(rfl)
theorem XS{g:Nat}{cap cap':List AV}{p:Clk->Bool}(l:List Clk)(H0:aJ)(F:Nat)(hj:H0 F=some ⟨157,2,l.map cP⟩)(hl:l.length<=1000000000)(aa:aE prog g=true)(hg:∀v∈l,PC prog g ((.agg (cP v))::cap') (boo (p v)))
   (hc:∀H:aJ,(∀k row,k≠F->H0 k=some row->H k=some row)->ConvL H cap cap') {K:AV->aJ->Prop}
   (hK:∀(I:Nat) (H':aJ),(∀k row,k≠F->H0 k=some row->H' k=some row)->(H0 I=none\/I=F)->H' I=some ⟨157,2,(l.filter fun v=> !p v).map cP⟩->K (.os I) H'):
   bA prog 154 [.os F,.fn g cap] H0 K:=by
 have ac:bA prog 154 [.os F,.fn g cap] H0 fun a H'=>K a H'\/∃j i row,a=.oz j 0 i/\H' j=some row/\i<=row.es.length/\∀I,H' I=none->K (.os I) (aI (aI H' j none) I (some ⟨row.e,row.sz,row.es.take i⟩)):=by
   refine bA.body (c:=Tryz.f154.body.getD .skip) (fun _=>false) mixed Tryz.func154 rfl (by kernel_rfl) ?_;unfold Tryz.f154;simp only[gdS];simp only[go_sem];refine dG.use ⟨[.sl (l.map cP),.fn g cap'],.cons _ _ _ _ (.row _ _ _ hj (ConvE.refl _)) (.cons _ _ _ _ (.fn _ _ _ (hc H0 fun _ _ _ h=>h)) .nil),MZ l (by omega) aa hg,rfl⟩ ?_;simp only[go_sem];refine aB (fun hb=>?_) (fun hb=>?_)
   . have hm:∀y∈l,p y=false:=IX (Xaj 0) (by simpa using hb)
     simp only[go_sem];refine .inl (hK F H0 (fun _ _ _ h=>h) (.inr rfl) ?_);rw[List.filter_eq_self.2 (fun v hv=>by rw[hm v hv];rfl)];exact hj
   obtain⟨i,y,hi,hy,an,ag⟩:=Jp (p:=p) (l:=l) (by simpa using hb);have aq:=(List.getElem?_eq_some_iff.1 hy).1;rw[Int.zero_add]at hi;rw[hi];simp only[go_sem,aS (show i<=4611686018427387904 by omega)];refine⟨fun ρ H=>∃(k m:Nat) (E:List Clk),k<=l.length/\m<k/\ρ 0=.os F/\ρ 1=.fn g cap/\ρ 5=int m/\ρ 6=int k/\H F=some ⟨157,2,E.map cP⟩/\E.length=l.length/\E.take m=(l.take k).filter (fun v=> !p v)/\E.drop k=l.drop k/\∀q row,q≠F->H0 q=some row->H q=some row,fun ρ _=>l.length-aX (ρ 6),⟨i+1,i,l,aq,Nat.lt_succ_self _,by simp only[go_sem],by simp only[go_sem],(by simp only[go_sem]),(by simp only[go_sem]),hj,rfl,?_,rfl,fun _ _ _ h=>h⟩,?_⟩
   . rw[bX hy,List.filter_append,List.filter_eq_self.2 (fun v hv=>by rw[ag v hv];rfl)]
     simp[an]
   rintro ρ H ⟨k,m,E,hk,av,h0,h1,J,Y,R,hE,ht,hd,hs⟩;simp only[go_sem,h0,h1,J,Y,R,Xaa];refine aB (fun Z=>?_) (fun ad=>?_)
   . have Z:k<l.length:=by simp at Z;omega
     obtain⟨v,hv⟩:=aQ Z;have ak:E[k]?=some v:=by
       have h2:=congrArg (fun L=>L[0]?) hd;simp only[List.getElem?_drop,Nat.add_zero]at h2;rw[h2,hv]
     have b1:((0:Int)<=(k:Nat)/\((k:Nat):Int)<((E.length:Nat):Int)):=by omega
     have b2:((0:Int)<=(m:Nat)/\((m:Nat):Int)<((E.length:Nat):Int)):=by omega
     simp only[go_sem,h0,h1,J,Y,R,Xaa,aH ak,b1,aa];refine⟨by omega,aN fun i7 h7=>?_⟩;have af:F≠i7:=aO R h7;simp only[go_sem,h0,h1,J,Y];refine aM (aA _ _ _) (by simp[lT]) ?_;generalize hG:aI (aI H i7 _) i7 _=HG;have R':HG F=some ⟨157,2,E.map cP⟩:=by rw[<-hG,aD _ _ _ _ af,aD _ _ _ _ af];exact R
     have R7:HG i7=some ⟨157,2,[cP v]⟩:=by rw[<-hG,aA];rfl
     have ab:∀q row,q≠F->H0 q=some row->HG q=some row:=fun q row hq h=>by
       have h2:=hs q row hq h;have:q≠i7:=fun e=>by rw[e,h7]at h2;cases h2
       rw[<-hG,aD _ _ _ _ this,aD _ _ _ _ this];exact h2
     clear hG h7 R hs;simp only[go_sem,h0,h1,J,Y,R7,aa];refine dG.use ⟨(.agg (cP v))::cap',.cons _ _ _ _ (.refl _) (hc HG ab),hg v (Xad hv),rfl⟩ ?_;simp only[go_sem,h0,h1,J,Y];refine hU (fun X H'=>X 0=.os F/\X 1=.fn g cap/\X 6=int k/\∃(m':Nat) (E':List Clk),m'<k+1/\X 5=int m'/\H' F=some ⟨157,2,E'.map cP⟩/\E'.length=l.length/\E'.take m'=(l.take (k+1)).filter (fun v=> !p v)/\E'.drop (k+1)=l.drop (k+1)/\∀q row,q≠F->H0 q=some row->H' q=some row) ?_ fun K' ae _ _=>aB (fun hb=>?_) (fun hb=>?_)
     rotate_left
     . have hp:p v=false:=by simpa using hb
       simp only[go_sem,h0,J,R7,R',Xaa,b2];refine aM R' (by simp[lT];omega) ?_;simp only[go_sem,J,aS (show m<=4611686018427387904 by omega)];refine ae _ _ ⟨by simp only[go_sem,h0],by simp only[go_sem,h1],by simp only[go_sem,Y],m+1,E.set m v,by omega,rfl,?_,by rw[List.length_set,hE],?_,?_,fun q row hq h=>by rw[aD _ _ _ _ hq];exact ab q row hq h⟩
       . rw[aA,List.map_set]
         obtain⟨u,hu⟩:=aQ (l:=E) (k:=m) (by omega);rw[aH hu];exact congrArg (fun x=>some (⟨157,2,(E.map cP).set m x⟩:Row)) (Ly u v)
       . rw[G1 E (by omega),ht,bX hv,List.filter_append]
         simp[hp]
       . rw[List.drop_set_of_lt (by omega),<-List.drop_drop,hd,List.drop_drop]
     . have hp:p v=true:=by simpa using hb
       simp only[go_sem];refine ae _ _ ⟨by simp only[go_sem,h0],by simp only[go_sem,h1],by simp only[go_sem,Y],m,E,by omega,by simp only[go_sem,J],R',hE,?_,?_,ab⟩
       . rw[ht,bX hv,List.filter_append]
         simp[hp]
       . rw[<-List.drop_drop,hd,List.drop_drop]
     rintro ρ H ⟨h0,h1,Y,m',E',aj,J,R,al,am,ar,ao⟩;simp only[go_sem,Y,aS (show k<=4611686018427387904 by omega)];exact⟨⟨k+1,m',E',Z,aj,h0,h1,J,rfl,R,al,am,ar,ao⟩,by simp only[aG];omega⟩
   . have ad:k=l.length:=by simp at ad;omega
     subst ad;rw[Xaf]at ht;have au:m<=E.length:=by omega
     simp only[go_sem,h0,J,R,Xaa];refine⟨by omega,YK aAg akY R (.inr ⟨_,rfl,rfl⟩) rfl ?_⟩;simp only[go_sem,h0,J,aA];refine⟨⟨by omega,by simp;omega⟩,.inr ⟨F,m,_,rfl,aA _ _ _,?_,fun I O=>?_⟩⟩
     . simp;omega
     have ah:I≠F:=fun e=>by rw[e,aA]at O;cases O
     rw[aD _ _ _ _ ah]at O;have ai:H0 I=none:=by
       cases e:H0 I with
       | none=>rfl
       | some row=>rw[hs I row ah e]at O;cases O
     refine hK I _ (fun q row hq h=>?_) (.inl ai) ?_
     . have ap:q≠I:=fun e=>by rw[e,ai]at h;cases h
       rw[aD _ _ _ _ ap,aD _ _ _ _ hq,aD _ _ _ _ hq];exact hs q row hq h
     . rw[aA]
       refine congrArg (fun L=>some (⟨157,2,L⟩:Row)) ?_;rw[List.take_append_of_le_length (by simp;omega),List.take_append_of_le_length (by simp;omega),Xaw (by simp;omega),<-List.map_take,ht]
 exact bA.cutO ac
theorem Ph(s:Stop)(a:Int):PC prog 152 [.agg (dZ s),int a] (.tup [int (gK s a).1,int (gK s a).2]):=by
 refine pcd Tryz.func152 ?_;unfold Tryz.f152;simp only[gdS];simp only[go_sem];refine PC.use (Sq.ST s a) ?_;unfold gK;by_cases h:gA a s.start>s.close
 . simp only[if_pos h]
   simp only[go_sem];refine aB (fun E=>?_) (fun E=>?_)
   . simp only[go_sem]
     exact .refl _
   . simp at E
 . simp only[if_neg h]
   simp only[go_sem];refine aB (fun E=>?_) (fun E=>?_)
   . simp at E
   . simp only[go_sem]
     exact .refl _
theorem UL(d n:Clk):PC prog 153 [.agg (cP d),.rp (cP n) 0] (boo (iN d n)):=by
 refine pcd Tryz.func153 ?_;unfold Tryz.f153;simp only[gdS];simp only[go_sem];refine PC.use (Gb d n) ?_;simp only[go_sem];exact .refl _
theorem Wx(d n:Clk):PC prog 155 [.agg (cP d),.rp (cP n) 0] (boo (iN n d)):=by
 refine pcd Tryz.func155 ?_;unfold Tryz.f155;simp only[gdS];simp only[go_sem];refine PC.use (Gb n d) ?_;simp only[go_sem];exact .refl _
theorem Xd(c d:Clk):PC prog 99 [.agg (cP c),.rp (cP d) 0] (boo (iN c d)):=by
 refine pcd Tryz.func99 ?_;unfold Tryz.f99;simp only[gdS];simp only[go_sem];refine PC.use (Gb c d) ?_;simp only[go_sem];exact .refl _
theorem agB(s:Stop)(out:List Clk)(c:Clk):AR s out c=if((gK s c.ready).2 != 0)=true then out
 else if(out.any fun d=>iN d ⟨(gK s c.ready).1,c.since⟩)=true then out
 else(out.filter fun d=> !iN ⟨(gK s c.ready).1,c.since⟩ d)++[⟨(gK s c.ready).1,c.since⟩]:=rfl
theorem aiK(s:Stop)(out:List Clk)(c:Clk):(AR s out c).length<=out.length+1:=by
 unfold AR;split
 . omega
 . split
   . omega
   . have:=Xcu (fun d=> !iN ⟨(gK s c.ready).1,c.since⟩ d) out
     rw[Xae,List.length_singleton];omega
theorem FF(s:Stop)(l:List Clk):∀k,((l.take k).foldl (AR s) []).length<=k
 | 0=>by simp
 | k+1=>by
   have h:=FF s l k;by_cases F:k<l.length
   . obtain⟨c,E⟩:=aQ F
     rw[Sq.eY E];exact Xah (aiK _ _ _) (by omega)
   . rw[Xaw (by omega)]
     rw[Xaw (by omega)]at h;omega
theorem ZV(s:Stop)(l:List Clk)(hl:l.length<=4194304):PC prog 93 [.sl (l.map cP),.agg (dZ s)] (.sl ((eC s l).map cP)):=by
 refine pcb (fun t=>t == 5) Tryz.func93 ?_;unfold Tryz.f93;simp only[gdS];simp only[go_sem];refine aN fun j aj=>?_
 generalize ai:aI _ j _=HGj;have R:HGj j=some (tH []):=by rw[<-ai,aA];try rfl
 clear ai aj;simp only[go_sem,R];refine⟨fun ρ H=>∃(k:Nat) (j:Nat),k<=l.length/\ρ 3=.rp (dZ s) 0/\ρ 11=.sl (l.map cP)/\ρ 12=int (l.length:Nat)/\ρ 13=int k/\ρ 5=.os j/\H j=some (tH ((l.take k).foldl (AR s) [])),fun ρ _=>l.length-aX (ρ 13),⟨0,j,Xab _,by simp only[go_sem],by simp only[go_sem],by simp only[go_sem,Xaa],(by simp only[go_sem];rfl),by simp only[go_sem],R⟩,?_⟩;rintro ρ H ⟨k,j,hk,e3,J,I,F,Z,R⟩;simp only[go_sem,e3,J,I,F,Z];refine aB (fun ab=>?_) (fun ag=>?_)
 . have ab:=ltB (by simpa using ab)
   obtain⟨c,hc⟩:=aQ ab;have b1:=inB ab;have hs:=Sq.eY (f:=AR s) (b:=([]:List Clk)) hc;have al:=FF s l k;generalize (l.take k).foldl (AR s) []=out at *;rw[agB]at hs;simp only[go_sem,e3,J,I,F,Z,aH hc,b1];refine aN fun i7 af=>?_
   have Y:j≠i7:=aO R af;simp only[go_sem,e3,J,I,F,Z,R];refine aM (aA _ _ _) (by simp[lT]) ?_;generalize ad:aI (aI _ i7 _) i7 _=HGi7;replace R:=(congrFun ad.symm j).trans ((aD _ _ _ _ Y).trans ((aD _ _ _ _ Y).trans R));have R7:HGi7 i7=some (zF c):=by rw[<-ad,aA];try rfl
   clear ad af;simp only[go_sem,e3,J,I,F,Z,R7,R];refine PC.use (Ph s c.ready) ?_;generalize gK s c.ready=dp at *;simp only[go_sem,e3,J,I,F,Z];refine aB (fun hb=>?_) (fun hb=>?_)
   . rw[if_pos hb]at hs
     simp only[go_sem,e3,J,I,F,Z,aS (show k<=4611686018427387904 by omega)];exact⟨⟨k+1,j,ab,rfl,rfl,by rw[hs];exact R⟩,by simp only[aG];omega⟩
   rw[if_neg (fun h=>Bool.noConfusion (hb.symm.trans h))]at hs;simp only[go_sem,e3,J,I,F,Z,R7];refine aN fun ac aa=>?_
   have E:j≠ac:=aO R aa;have O:i7≠ac:=aO R7 aa;simp only[go_sem,e3,J,I,F,Z,R,R7];refine aM (aA _ _ _) (by simp[lT]) ?_;generalize X:aI (aI _ ac _) ac _=HGi10;replace R:=(congrFun X.symm j).trans ((aD _ _ _ _ E).trans ((aD _ _ _ _ E).trans R));replace R7:=(congrFun X.symm i7).trans ((aD _ _ _ _ O).trans ((aD _ _ _ _ O).trans R7));have ae:HGi10 ac=some (zF ⟨dp.1,c.since⟩):=by rw[<-X,aA];try rfl
   clear X aa;simp only[go_sem,e3,J,I,F,Z,ae,R,R7];refine dG.use ⟨[.sl (out.map cP),.fn 153 [.rp (cP ⟨dp.1,c.since⟩) 0]],.cons _ _ _ _ (.row _ _ _ R (ConvE.refl _)) (.cons _ _ _ _ (.fn _ _ _ (.cons _ _ _ _ (.ptr _ _ _ _ _ ae (by simp) (ConvL.refl _)) .nil)) .nil),Mf out (by omega) (by kernel_rfl) (fun v _=>UL v _),rfl⟩ ?_;simp only[go_sem,e3,J,I,F,Z];refine aB (fun hb=>?_) (fun hb=>?_)
   . rw[if_pos hb]at hs
     simp only[go_sem,e3,J,I,F,Z,aS (show k<=4611686018427387904 by omega)];exact⟨⟨k+1,j,ab,rfl,rfl,by rw[hs];exact R⟩,by simp only[aG];omega⟩
   rw[if_neg (fun h=>Bool.noConfusion (hb.symm.trans h))]at hs;simp only[go_sem,e3,J,I,F,Z];refine XS (p:=fun d=>iN ⟨dp.1,c.since⟩ d) (cap':=[.rp (cP ⟨dp.1,c.since⟩) 0]) out _ j R (by omega) (by kernel_rfl) (fun v _=>Wx v _) (fun H' h'=>.cons _ _ _ _ (.ptr _ _ _ _ _ (h' ac _ E.symm ae) (by simp) (ConvL.refl _)) .nil) fun j1 H1 ak an R1=>?_
   have ah:=ak ac _ E.symm ae;have ao:=Xcu (fun d=> !iN ⟨dp.1,c.since⟩ d) out;simp only[go_sem,e3,J,I,F,Z,ah];refine bG R1 ⟨rfl,rfl⟩ (by simp only[go_sem]) (by simp only[Xaa,Xac,List.length_nil];omega) (fun j2 am=>?_);simp only[go_sem,e3,J,I,F,Z,aS (show k<=4611686018427387904 by omega)];refine⟨⟨k+1,j2,ab,rfl,rfl,?_⟩,by simp only[aG];omega⟩;rw[aA,hs];exact congrArg some (Pf _ _ _)
 have ag:=geB hk (by simpa using ag);subst ag;rw[Xaf]at R;simp only[go_sem,e3,J,I,F,Z];exact .row _ _ _ R (ConvE.refl _)
end Go.Proofs.YtdlijlecpopadaaGreatDoor.Rx
end
section
namespace Go.Proofs.YtdlijlecpopadaaGreatDoor.Rx
open Go.Proofs.Tryz(prog)
open Go.Aw Go.Aw.D Go.Proofs Ty Go.Nu
open Sq (W dH mU pC rS fE eM dD gL NetOk)
open Nu (zG uE AF ltB geB)
abbrev fN(p:Part):Row:=⟨94,7,[cC p]⟩
abbrev Iz:Row:=⟨94,7,[[int 0,int 0,int 0,int 0,.sl [],.sl [],str ByteArray.empty]]⟩
structure WkOk(w:Wk):Prop where
 net:NetOk w.x.net
 near:NearB w.near
 len:w.near.length=w.x.orders.length
 kind:w.kind<4611686018427387904
 dual:∀l,w.dual=some l->l.length=w.x.orders.length/\∀a∈l,a.size<=1048576
structure PartOk(p:Part):Prop where
 mem:p.memory<2^62
 board:p.board<2^62
 value:p.value.size<=1048576
theorem eU{x:Instance}{o:Nat}(h:o<x.orders.length):x.orders[o]?=some (aF x o):=by
 unfold aF;rw[List.getD,List.getElem?_eq_getElem h,Xcm]
theorem L9(a:Int)(k:Nat):0<=dU a k/\dU a k<=1:=by unfold dU;split <;> omega
theorem asH(n:Int):shV .shl .i64 n 16=W (n*65536):=(rfl)
theorem akN(n:Int):shV .shl .i64 n 24=W (n*16777216):=(rfl)
theorem Tf(x y:Rat):(pB x y).1.size<=8194:=by
 by_cases h:(pB x y).2=0
 . obtain⟨e,E⟩:=QW h
   rw[e];exact Jy E
 . have I : pB x y = (emp, 4) := by
     unfold pB at h |-;split
     . rfl
     . next F=>rw[if_neg F]at h;exact absurd rfl h
   rw[I];exact Xab _
theorem ahC(a b:ByteArray):(Bb a b).1.size<=8194:=by
 unfold Bb;split
 . exact Tf _ _
 . exact Xab _
theorem afK(a b:ByteArray):(yS a b).1.size<=8194:=by
 unfold yS;split
 . exact Tf _ _
 . exact Xab _
theorem zZ(a:ByteArray)(n:Int):(addV a n).size<=8194:=by
 unfold addV;exact ahC _ _
theorem aeS(H0:aJ)(jw:Nat)(w:Wk)(hw:H0 jw=some (nF w))(p:Part)(o:Nat)(ho:o<w.x.orders.length)(h:WkOk w)(ai:PartOk p):
   LC prog 89 [.op jw 0 0,.agg (cC p),int (o:Nat)] H0 (.tup [.agg (cC (fO w p o).1),boo (fO w p o).2]):=by
 have e:fO w p o=if(gL (p.memory:Nat) (o:Nat)||gL (p.board:Nat) (o:Nat))=true then(p,false)
   else({ p with memory:=rI w.near p.memory o,value:=Ax (addV p.value ((dU (aF w.x o).now w.kind*16+dU (aF w.x o).last w.kind)*65536)) o w.dual },true):=rfl
 generalize fO w p o=S at e;refine LC.body (c:=Tryz.f89.body.getD .skip) (fun t=>t == 4) mixed Tryz.func89 rfl (by kernel_rfl) ?_;unfold Tryz.f89;simp only[gdS];simp only[go_sem];have U:=Sup.refl H0;refine aN fun j4 af=>?_
 have X:=U.none af;generalize ab:aI _ j4 _=HGj4;replace U:=Sup.eq (U.upd X _) ab;have R4:HGj4 j4=some (fN p):=by rw[<-ab,aA];try rfl
 clear ab af;simp only[go_sem,R4];refine aN fun j6 ad=>?_
 have E:j4≠j6:=aO R4 ad;have O:=U.none ad;generalize Z:aI _ j6 _=HGj6;replace U:=Sup.eq (U.upd O _) Z;replace R4:=(congrFun Z.symm j4).trans ((aD _ _ _ _ E).trans R4);have J:HGj6 j6=some (Iz):=by rw[<-Z,aA];try rfl
 clear Z ad;simp only[go_sem,J,R4];refine PC.use (Sq.sQ _ _) ?_;simp only[go_sem,R4,J];refine⟨_,fun _=>PC.q (Sq.sQ _ _) rfl,?_⟩;simp only[go_sem,R4,J];refine aB (fun hb=>?_) (fun hb=>?_)
 . rw[if_pos hb]at e
   subst e;simp only[go_sem,R4,J];refine aM J (by simp[bV]) ?_;simp only[go_sem];exact rA.flat ((U.upd O _)) _
 rw[if_neg (fun h=>Bool.noConfusion (hb.symm.trans h))]at e;subst e;simp only[go_sem,R4,J];have I:=U.at hw;have aa:jw≠j4:=Sup.ne (Sup.refl H0) hw X;have an:jw≠j6:=Sup.ne (Sup.refl H0) hw O;refine dP [jw] [(0,true),(1,true),(2,true),(3,true),(4,true),(6,true),(5,false),(7,false),(8,false),(9,false)] (by simp[I]) (by kernel_rfl) fun Hp Hr hp hr _ ah=>?_
 have F:=(hp jw (by simp)).trans I;have ac:=(hr j4 (by simp[aa.symm])).trans R4;simp only[go_sem,F,ac];refine PC.use (Gf w.near p.memory o (by rw[h.len];exact ho) h.near ai.mem) ?_;simp only[go_sem,ac];refine cE so3 ac (by simp[bV]) ?_;refine iM hr (by simp[aa.symm]) ?_;generalize hP:aI _ j4 _=HP;replace U:=Sup.eq (U.upd X _) hP;replace J:=(congrFun hP.symm j6).trans ((aD _ _ _ _ (by first|exact ne_j6_j4|exact E.symm)).trans J);replace ae:HP j4=some (fN { p with memory:=rI w.near p.memory o }):=by rw[<-hP,aA];rfl
 clear hP;simp only[go_sem,ae,J];have I:=U.at hw;have b1:=inB ho;have g1:=aH (f:=bF) (eU ho);refine dP [jw] [(0,true),(1,true),(2,true),(3,true),(4,true),(5,true),(6,true),(7,true),(8,true),(9,true),(10,true),(11,true),(12,true),(13,true),(14,true),(15,true),(16,true),(17,true),(18,true),(19,true),(20,true),(21,true),(22,true),(23,true),(24,true),(25,true),(26,true),(27,true),(28,true),(29,true),(30,true)] (by simp[I]) (by kernel_rfl) fun Hp Hr hp hr _ ah=>?_
 have F:=(hp jw (by simp)).trans I;simp only[go_sem,g1,b1,F];refine⟨_,PC.q (JB _ _) rfl,?_⟩;simp only[go_sem,F,g1,b1];refine⟨_,PC.q (JB _ _) rfl,?_⟩;have d1:=L9 (aF w.x o).now w.kind;have d2:=L9 (aF w.x o).last w.kind;generalize dU (aF w.x o).now w.kind=D1 at *;generalize dU (aF w.x o).last w.kind=D2 at *;have w1:IntKind.i64.wrap (D1*16)=D1*16:=aW (by omega);have w2:IntKind.i64.wrap (D1*16+D2)=D1*16+D2:=aW (by omega);simp only[go_sem,F,w1,w2];refine iY hr ?_;simp only[go_sem,ae];have w3:shV .shl .i64 (D1*16+D2) 16=(D1*16+D2)*65536:=(asH _).trans (aW (by omega));rw[w3];have hD:0<=(D1*16+D2)*65536/\(D1*16+D2)*65536<=1114112:=by omega
 generalize (D1*16+D2)*65536=D at *;refine⟨by omega,LC.use (QT _ _ _ _ ai.value (by omega) (by omega)) ?_⟩;simp only[go_sem,ae];refine cE ajF ae (by simp[bV]) ?_;generalize hP:aI _ j4 _=HP;replace U:=Sup.eq (U.upd X _) hP;replace J:=(congrFun hP.symm j6).trans ((aD _ _ _ _ (by first|exact ne_j6_j4|exact E.symm)).trans J);replace ag:HP j4=some (fN { p with memory:=rI w.near p.memory o,value:=addV p.value D }):=by rw[<-hP,aA];rfl
 clear hP;simp only[go_sem,ag,J];have I:=U.at hw;have ao:=zZ p.value D;simp only[go_sem,I];cases hd:w.dual with
 | none=>
   rw[show TQ none=.v (.slice none 0 0)from rfl];simp only[go_sem];refine aB (fun hb=>nomatch hb) (fun _=>?_);simp only[go_sem,ag,J];refine aM J (by simp[bV]) ?_;simp only[go_sem];exact rA.flat (U.upd O _) _
 | some l=>
   obtain⟨ap,am⟩:=h.dual l hd;obtain⟨q,hq⟩:=aQ (l:=l) (k:=o) (by omega);have ak:l.map Go.Aw.D.fK≠[]:=fun e=>by rw[Xbq]at e;rw[e]at hq;simp at hq
   have hD:jZ w=jZ w:=rfl;rw[show TQ (some l)=.sl (l.map Go.Aw.D.fK)from rfl];simp only[go_sem];refine⟨fun e=>absurd e ak,?_⟩;refine aB (fun _=>?_) (fun hb=>nomatch hb);have b3:=inB (show o<l.length by omega);have g3:=aH (f:=Go.Aw.D.fK) hq;have aj:(jZ w).getD 22 .any=.sl (l.map Go.Aw.D.fK):=by rw[M6,hd];rfl
   refine dP [jw] [(0,true),(2,true),(3,true),(4,true),(5,true),(6,true),(7,true),(8,true),(1,false),(9,false),(10,true),(11,true),(12,true),(13,true),(14,false)] (by simp[I]) (by kernel_rfl) fun Hp Hr hp hr _ ah=>?_
   have F:=(hp jw (by simp)).trans I;have Y:=(hr j4 (by simp[aa.symm])).trans ag;simp only[go_sem,aj,b3,g3,F,Y];refine PC.use (uE _ _ (by omega) (am q (Xad hq))) ?_;simp only[go_sem,Y];refine cE ajF Y (by simp[bV]) ?_;refine iM hr (by simp[aa.symm]) ?_;generalize hP:aI _ j4 _=HP;replace U:=Sup.eq (U.upd X _) hP;replace J:=(congrFun hP.symm j6).trans ((aD _ _ _ _ (by first|exact ne_j6_j4|exact E.symm)).trans J);replace al:HP j4=some (fN { p with memory:=rI w.near p.memory o,value:=(yS (addV p.value D) q).1 }):=by rw[<-hP,aA];rfl
   clear hP;simp only[go_sem,al,J];refine aM J (by simp[bV]) ?_;simp only[go_sem];have e3:Ax (addV p.value D) o (some l)=(yS (addV p.value D) q).1:=by
     show(yS (addV p.value D) (l.getD o ByteArray.empty)).1=_;rw[List.getD,hq];rfl
   rw[e3];exact rA.flat (U.upd O _) _
theorem alQ(a b:List Int)(F:a.length<=1048576)(E:a.length=b.length):PC prog 149 [.sl (a.map aR),.sl (b.map aR)] (.tup [.sl ((pC a b).map aR),int 0]):=
 RC.conv (RC.mono (Sq.Xg a b F E) fun x H' ⟨k,I,J⟩=>I▸.tup _ _ (.cons _ _ _ _ (.row k _ _ J (ConvE.refl _)) (.cons _ _ _ _ (.refl _) .nil)))
theorem amF(a b:List Int)(F:a.length<=1048576)(E:a.length=b.length):PC prog 150 [.sl (a.map aR),.sl (b.map aR)] (.tup [.sl ((rS a b).map aR),int 0]):=
 RC.conv (RC.mono (Sq.akH a b F E) fun x H' ⟨k,I,J⟩=>I▸.tup _ _ (.cons _ _ _ _ (.row k _ _ J (ConvE.refl _)) (.cons _ _ _ _ (.refl _) .nil)))
abbrev RG(o:Order):Row:=⟨143,16,[bF o]⟩
theorem Rl{a b:Nat}(E:a<2^63)(O:b<2^63):pX .andNot .i64 (a:Int) (b:Int)=((a ^^^ (a &&& b):Nat):Int):=by
 have F:∀x y:BitVec 64,x &&& ~~~y=x ^^^ (x &&& y):=fun x y=>by
   ext i hi
   simp only[BitVec.getElem_and,BitVec.getElem_not,BitVec.getElem_xor];cases x[i] <;> cases y[i] <;> rfl
 have h:((BitVec.ofInt 64 (a:Int) &&& ~~~BitVec.ofInt 64 (b:Int)).toNat:Int)=((a ^^^ (a &&& b):Nat):Int):=by
   rw[F,BitVec.toNat_xor,BitVec.toNat_and,BitVec.toNat_ofInt,BitVec.toNat_ofInt];have h1:((a:Int)%((2^64:Nat):Int)).toNat=a:=by omega
   have J:((b:Int)%((2^64:Nat):Int)).toNat=b:=by omega
   rw[h1,J]
 refine Eq.trans (congrArg IntKind.i64.wrap h) ?_;have I:a &&& b<2^63:=Xbb Xcw E;have:=Nat.xor_lt_two_pow E I;exact aW (by omega)
theorem Tl(a b:List Int)(h:a.length=b.length):(pC a b).length=a.length/\(rS a b).length=a.length:=by
 constructor
 . show(List.zipWith _ a b).length=_
   rw[List.length_zipWith];omega
 . show(List.zipWith _ a b).length=_
   rw[List.length_zipWith];omega
theorem Z0(H0:aJ)(jw:Nat)(w:Wk)(hw:H0 jw=some (nF w))(p:Part)(o:Nat)(d:Bool)(ho:o<w.x.orders.length)(h:WkOk w)(ar:PartOk p)(a4:o<=61)
   (hl:p.load.length=(aF w.x o).load.length) (an:p.load.length<=1048576):
   LC prog 90 [.op jw 0 0,.agg (cC p),.agg (aK ⟨(o:Nat),d⟩)] H0 (.tup [.agg (cC (fW w p o d).1),boo (fW w p o d).2]):=by
 refine LC.body (c:=Tryz.f90.body.getD .skip) (fun t=>t == 4) mixed Tryz.func90 rfl (by kernel_rfl) ?_;unfold Tryz.f90;simp only[gdS];simp only[go_sem];have U:=Sup.refl H0;refine aN fun j4 ak=>?_
 have Z:=U.none ak;generalize ah:aI _ j4 _=HGj4;replace U:=Sup.eq (U.upd Z _) ah;have F:HGj4 j4=some (fN p):=by rw[<-ah,aA];try rfl
 clear ah ak;simp only[go_sem,F];refine aN fun j6 ai=>?_
 have E:j4≠j6:=aO F ai;have ad:=U.none ai;generalize ac:aI _ j6 _=HGj6;replace U:=Sup.eq (U.upd ad _) ac;replace F:=(congrFun ac.symm j4).trans ((aD _ _ _ _ E).trans F);have I:HGj6 j6=some (Iz):=by rw[<-ac,aA];try rfl
 clear ac ai;simp only[go_sem,I,F];have b1:=inB ho;have g1:=aH (f:=bF) (eU ho);have az:jw≠j4:=Sup.ne (Sup.refl H0) hw Z;have al:jw≠j6:=Sup.ne (Sup.refl H0) hw ad;have af:=U.at hw;refine dP [jw] [(0,true),(1,true),(2,true),(3,true),(4,true),(5,true),(6,true),(7,true),(8,true),(9,false),(10,false)] (by simp[af]) (by kernel_rfl) fun Hp Hr hp hr _ av=>?_
 have ab:=(hp jw (by simp)).trans af;simp only[go_sem,g1,b1,ab];refine aN fun j8 ay=>?_
 simp only[go_sem];refine aM (aA _ _ _) (by simp[kZ]) ?_;refine nM hr ay fun ae=>?_
 have Y:j4≠j8:=aO F ae;have X:j6≠j8:=aO I ae;have ag:=U.none ae;generalize aa:aI (aI _ j8 _) j8 _=HGj8;replace U:=Sup.eq ((U.upd ag _).upd ag _) aa;replace F:=(congrFun aa.symm j4).trans ((aD _ _ _ _ Y).trans ((aD _ _ _ _ Y).trans F));replace I:=(congrFun aa.symm j6).trans ((aD _ _ _ _ X).trans ((aD _ _ _ _ X).trans I));have R8:HGj8 j8=some (RG (aF w.x o)):=by rw[<-aa,aA];try rfl
 clear aa ae;simp only[go_sem,R8,F,I];have af:=U.at hw;have a0:jw≠j8:=Sup.ne (Sup.refl H0) hw ag;generalize hO:aF w.x o=O at *;have eL:fW w p o d=if d=false then({ p with load:=pC p.load O.load,board:=if gO O=true then p.board ||| 2^o else p.board },fE (pC p.load O.load) w.t.cap)
   else if gO O=true then
     if gL (p.board:Nat) (o:Nat)=true then({ p with load:=rS p.load O.load,board:=AS p.board o },fE (rS p.load O.load) w.t.cap)else(p,false)
   else(p,fE p.load w.t.cap):=by rw[<-hO];rfl
 generalize fW w p o d=S at eL;have ap:(pC p.load O.load).length<=1048576/\(rS p.load O.load).length<=1048576:=by have:=Tl _ _ hl;omega
 have am:2^o<2^63:=Xbz (by decide) (by omega);have au:=Sq.C8 (show o<=62 by omega);refine hU (fun ao H'=>∃(P':Part),ao 0=.op jw 0 0/\ao 4=.op j4 0 0/\ao 6=.op j6 0 0/\S=(P',fE P'.load w.t.cap)/\P'.load.length<=1048576/\H' j4=some (fN P')/\H' j6=some Iz/\Sup H0 H') ?_ fun K hK a5 ax=>aB (fun hb=>?_) (fun hb=>?_)
 rotate_left
 . have hd:d=false:=by simpa using hb
   rw[if_pos hd]at eL;simp only[go_sem,F,I,R8];refine PC.use (alQ p.load O.load an hl) ?_;simp only[go_sem,F];refine cE anP F (by simp[bV]) ?_;generalize J:aI _ j4 _=HP;replace U:=Sup.eq (U.upd Z _) J;replace I:=(congrFun J.symm j6).trans ((aD _ _ _ _ (by first|exact ne_j6_j4|exact E.symm)).trans I);replace F:HP j4=some (fN { p with load:=pC p.load O.load }):=by rw[<-J,aA];rfl
   clear J;simp only[go_sem,F,I];refine aB (fun hb=>?_) (fun hb=>?_)
   . have hB:gO O=true:=hb
     rw[if_pos hB]at eL;simp only[go_sem];refine lO [(0,true),(2,true),(3,true),(4,true),(1,false),(5,true),(6,true),(7,false)] (by kernel_rfl) ?_;simp only[go_sem,F,au,Sq.Gv (show p.board<2^63 from Nat.lt_trans ar.board (by decide)) am];refine⟨by omega,?_⟩;refine cE so3 F (by simp[bV]) ?_;generalize J:aI _ j4 _=HP;replace U:=Sup.eq (U.upd Z _) J;replace I:=(congrFun J.symm j6).trans ((aD _ _ _ _ (by first|exact ne_j6_j4|exact E.symm)).trans I);replace F:HP j4=some (fN { p with load:=pC p.load O.load,board:=p.board ||| 2^o }):=by rw[<-J,aA];rfl
     clear J;simp only[go_sem,F,I];refine hK _ _ ⟨_,by simp only[go_sem],by simp only[go_sem],by simp only[go_sem],eL,ap.1,F,I,U⟩
   . have hB:¬gO O=true:=fun h=>Bool.noConfusion (hb.symm.trans h)
     rw[if_neg hB]at eL;simp only[go_sem];refine hK _ _ ⟨_,by simp only[go_sem],by simp only[go_sem],by simp only[go_sem],eL,ap.1,F,I,U⟩
 . have hd:¬d=false:=by simpa using hb
   rw[if_neg hd]at eL;simp only[go_sem];refine aB (fun hb=>?_) (fun hb=>?_)
   . have hB:gO O=true:=hb
     rw[if_pos hB]at eL;simp only[go_sem,F];refine PC.use (Sq.sQ _ _) ?_;simp only[go_sem,F,I];refine aB (fun hb=>?_) (fun hb=>?_)
     . have hh:¬gL (p.board:Nat) (o:Nat)=true:=by simpa using hb
       rw[if_neg hh]at eL;subst eL;simp only[go_sem,F,I];refine aM I (by simp[bV]) ?_;simp only[go_sem];refine ax _ _ ?_;simp only[go_sem];exact rA.flat (U.upd ad _) _
     . have hh:gL (p.board:Nat) (o:Nat)=true:=by simpa using hb
       rw[if_pos hh]at eL;simp only[go_sem,F,R8];refine PC.use (amF p.load O.load an hl) ?_;simp only[go_sem,F];refine cE anP F (by simp[bV]) ?_;generalize J:aI _ j4 _=HP;replace U:=Sup.eq (U.upd Z _) J;replace I:=(congrFun J.symm j6).trans ((aD _ _ _ _ (by first|exact ne_j6_j4|exact E.symm)).trans I);replace F:HP j4=some (fN { p with load:=rS p.load O.load }):=by rw[<-J,aA];rfl
       clear J;simp only[go_sem,F,I];refine lO [(0,true),(2,true),(3,true),(4,true),(1,false),(5,true),(6,true),(7,false)] (by kernel_rfl) ?_;simp only[go_sem,F,au,Rl (show p.board<2^63 from Nat.lt_trans ar.board (by decide)) am];refine⟨by omega,?_⟩;refine cE so3 F (by simp[bV]) ?_;generalize J:aI _ j4 _=HP;replace U:=Sup.eq (U.upd Z _) J;replace I:=(congrFun J.symm j6).trans ((aD _ _ _ _ (by first|exact ne_j6_j4|exact E.symm)).trans I);replace F:HP j4=some (fN { p with load:=rS p.load O.load,board:=AS p.board o }):=by rw[<-J,aA];rfl
       clear J;simp only[go_sem,F,I];refine hK _ _ ⟨_,by simp only[go_sem],by simp only[go_sem],by simp only[go_sem],eL,ap.2,F,I,U⟩
   . have hB:¬gO O=true:=fun h=>Bool.noConfusion (hb.symm.trans h)
     rw[if_neg hB]at eL;simp only[go_sem];refine hK _ _ ⟨_,by simp only[go_sem],by simp only[go_sem],by simp only[go_sem],eL,an,F,I,U⟩
 rintro ρ H ⟨P',e0,e4,e6,J,aw,F,I,U⟩;have af:=U.at hw;simp only[go_sem,e0,e4,e6];refine dP [jw,j4] [(0,true),(1,true),(2,true),(3,true),(4,true),(5,true),(6,true),(7,true),(8,false),(9,false),(10,true)] (by simp[af,F]) (by kernel_rfl) fun Hp Hr hp hr _ av=>?_
 have ab:=(hp jw (by simp)).trans af;have aq:=(hp j4 (by simp)).trans F;have aj:=(hr j6 (by simp[al.symm,E.symm])).trans I;simp only[go_sem,e0,e4,e6,ab,aq,aj];refine PC.use (Sq.Kn P'.load w.t.cap aw) ?_;simp only[go_sem,e0,e4,e6,aj];refine aM aj (by simp[bV]) ?_;simp only[go_sem,e0,e4,e6];refine iM hr (by simp[al.symm,E.symm]) ?_;simp only[go_sem,e0,e4,e6];rw[J];exact rA.flat (U.upd ad _) _
theorem E8(n:Int): -9223372036854775808<=IntKind.i64.wrap n/\IntKind.i64.wrap n<=9223372036854775807:=by
 have e:IntKind.i64.wrap n=Go.RowKit.wrap64 n:=IntWalk.i64_left n;rw[e];unfold Go.RowKit.wrap64;omega
theorem agK(n:Nat):decide ((n:Int)>0)=decide (n>0):=by
 by_cases h:n>0
 . rw[decide_eq_true h,decide_eq_true (by omega)]
 . rw[decide_eq_false h,decide_eq_false (by omega)]
theorem aiJ{near:List Int}{m o:Nat}(E:m<2^62)(F:o<=61):rI near m o<2^62:=by
 unfold rI;exact Xcs (Xbb Xcw E) (Xbz (by decide) (by omega))
theorem Ro(a:ByteArray)(o:Nat)(d:Option (List ByteArray))(h:a.size<=1048576):(Ax a o d).size<=1048576:=by
 cases d with
 | none=>exact h
 | some l=>exact Xah (afK _ _) (by decide)
theorem JH{w:Wk}{p:Part}{o:Nat}(h:PartOk p)(E:o<=61):PartOk (fO w p o).1/\(fO w p o).1.load=p.load/\(fO w p o).1.clocks=p.clocks/\(fO w p o).1.visits=p.visits/\(fO w p o).1.place=p.place:=by
 unfold fO;split
 . exact⟨h,rfl,rfl,rfl,rfl⟩
 . exact⟨⟨aiJ h.mem E,h.board,Ro _ _ _ (Xah (zZ _ _) (by decide))⟩,rfl,rfl,rfl,rfl⟩
theorem GC{w:Wk}{p:Part}{o:Nat}{d:Bool}(h:PartOk p)(I:o<=61):PartOk (fW w p o d).1/\(fW w p o d).1.clocks=p.clocks/\(fW w p o d).1.visits=p.visits/\(fW w p o d).1.place=p.place:=by
 have F:p.board ||| 2^o<2^62:=Xcs h.board (Xbz (by decide) (by omega));have E:AS p.board o<2^62:=Nat.xor_lt_two_pow h.board (Xbb Xcw h.board);unfold fW;split
 . refine⟨⟨h.mem,?_,h.value⟩,rfl,rfl,rfl⟩
   show(if gO (aF w.x o)=true then p.board ||| 2^o else p.board)<2^62;split
   . exact F
   . exact h.board
 . split
   . split
     . exact⟨⟨h.mem,E,h.value⟩,rfl,rfl,rfl⟩
     . exact⟨h,rfl,rfl,rfl⟩
   . exact⟨h,rfl,rfl,rfl⟩
abbrev tX(s:Stop):Row:=⟨141,4,[dZ s]⟩
theorem YW(H0:aJ)(jw:Nat)(w:Wk)(hw:H0 jw=some (nF w))(p:Part)(o:Nat)(d:Bool)(ho:o<w.x.orders.length)(h:WkOk w)(a6:PartOk p)(a5:o<=61)
   (hl:p.load.length=(aF w.x o).load.length) (bd:p.load.length<=1048576) (bi:p.clocks.length<=1048576) (hv:p.visits<=1048576):
   LC prog 47 [.op jw 0 0,.agg (cC p),.agg (aK ⟨(o:Nat),d⟩)] H0 (.tup [.agg (cC (cH w p ⟨(o:Nat),d⟩).1),boo (cH w p ⟨(o:Nat),d⟩).2]):=by
 have eN:cH w p ⟨(o:Nat),d⟩=if(decide ((p.visits:Int)>=(w.most:Int))||(aF w.x o).off|| !mU w.t.skills (aF w.x o).skills)=true then(p,false)
   else
     let s:=if(!d||decide ((aF w.x o).pick.place<0))=true then fO w p o else(p,true)
     if s.2=true then
       let l:=fW w s.1 o d
       if l.2=true then(if((dD w.x ⟨(o:Nat),d⟩).2 != 0)=true then(l.1,false)else goP w l.1 (dD w.x ⟨(o:Nat),d⟩).1)else(l.1,false)
     else(s.1,false):=rfl
 generalize cH w p ⟨(o:Nat),d⟩=N at eN;refine LC.body (c:=Tryz.f47.body.getD .skip) (fun t=>t == 4) mixed Tryz.func47 rfl (by kernel_rfl) ?_;unfold Tryz.f47;simp only[gdS];simp only[go_sem];have U:=Sup.refl H0;refine aN fun Z az=>?_
 have aa:=U.none az;generalize ap:aI _ Z _=HGj4;replace U:=Sup.eq (U.upd aa _) ap;have I:HGj4 Z=some (fN p):=by rw[<-ap,aA];try rfl
 clear ap az;simp only[go_sem,I];refine aN fun j6 aw=>?_
 have E:Z≠j6:=aO I aw;have ac:=U.none aw;generalize al:aI _ j6 _=HGj6;replace U:=Sup.eq (U.upd ac _) al;replace I:=(congrFun al.symm Z).trans ((aD _ _ _ _ E).trans I);have J:HGj6 j6=some (Iz):=by rw[<-al,aA];try rfl
 clear al aw;simp only[go_sem,J,I];have b1:=inB ho;have g1:=aH (f:=bF) (eU ho);have a0:jw≠Z:=Sup.ne (Sup.refl H0) hw aa;have bk:jw≠j6:=Sup.ne (Sup.refl H0) hw ac;have af:=U.at hw;refine dP [jw] [(0,true),(1,true),(2,true),(3,true),(4,true),(5,true),(6,true),(7,true),(8,true),(9,false),(10,false)] (by simp[af]) (by kernel_rfl) fun Hp Hr hp hr _ ax=>?_
 have Y:=(hp jw (by simp)).trans af;simp only[go_sem,g1,b1,Y];refine aN fun j8 bj=>?_
 simp only[go_sem];refine aM (aA _ _ _) (by simp[kZ]) ?_;refine nM hr bj fun am=>?_
 have ah:Z≠j8:=aO I am;have ag:j6≠j8:=aO J am;have av:=U.none am;generalize ak:aI (aI _ j8 _) j8 _=HGj8;replace U:=Sup.eq ((U.upd av _).upd av _) ak;replace I:=(congrFun ak.symm Z).trans ((aD _ _ _ _ ah).trans ((aD _ _ _ _ ah).trans I));replace J:=(congrFun ak.symm j6).trans ((aD _ _ _ _ ag).trans ((aD _ _ _ _ ag).trans J));have R8:HGj8 j8=some (RG (aF w.x o)):=by rw[<-ak,aA];try rfl
 clear ak am;simp only[go_sem,R8,I,J];have af:=U.at hw;have bm:jw≠j8:=Sup.ne (Sup.refl H0) hw av;generalize hO:aF w.x o=O at *;refine dP [jw,Z,j8] [(0,true),(1,true),(2,true),(3,true),(4,true),(5,true),(6,true),(7,true),(8,true),(9,true),(10,true),(11,true),(12,true),(13,true),(14,true),(15,true),(16,true),(17,true),(18,true),(19,true),(20,true)] (by simp[af,I,R8]) (by kernel_rfl) fun Hp Hr hp hr _ ax=>?_
 have Y:=(hp jw (by simp)).trans af;have ar:=(hp Z (by simp)).trans I;have bb:=(hp j8 (by simp)).trans R8;simp only[go_sem,Y,ar,bb];refine⟨_,fun _=>PC.q (Sq.aaG w.t O.skills) rfl,?_⟩;simp only[go_sem];refine iY hr ?_;simp only[go_sem];refine aB (fun hb=>?_) (fun hb=>?_)
 . rw[if_pos hb]at eN
   subst eN;simp only[go_sem,I,J];refine aM J (by simp[bV]) ?_;simp only[go_sem];exact rA.flat (U.upd ac _) _
 rw[if_neg (fun h=>Bool.noConfusion (hb.symm.trans h))]at eN;simp only[go_sem,R8];have be:=JH (w:=w) (p:=p) a6 a5;refine bH (fun ao H'=>∃(P1:Part) (an:Bool),ao 0=.op jw 0 0/\ao 4=.op Z 0 0/\ao 5=.rp (aK ⟨(o:Nat),d⟩) 0/\ao 6=.op j6 0 0/\(if(!d||decide (O.pick.place<0))=true then fO w p o else(p,true))=(P1,an)/\(PartOk P1/\P1.load=p.load/\P1.clocks=p.clocks/\P1.visits=p.visits/\P1.place=p.place)/\ao 9=boo an/\H' Z=some (fN P1)/\H' j6=some Iz/\Sup H0 H') ?_ fun K hK=>aB (fun hb=>?_) (fun hb=>?_)
 rotate_left
 . simp only[go_sem,I]
   refine LC.use (aeS _ jw w (U.at hw) p o ho h a6) ?_;simp only[go_sem];refine aM I (by simp[bV]) ?_;generalize X:aI _ Z _=HP;replace U:=Sup.eq (U.upd aa _) X;replace J:=(congrFun X.symm j6).trans ((aD _ _ _ _ (by first|exact ne_j6_j4|exact E.symm)).trans J);replace I:HP Z=some (fN (fO w p o).1):=by rw[<-X,aA];rfl
   clear X;simp only[go_sem,I,J];refine hK _ _ ⟨(fO w p o).1,(fO w p o).2,by simp only[go_sem],by simp only[go_sem],by simp only[go_sem],by simp only[go_sem],(if_pos hb).trans rfl,be,by simp only[go_sem],I,J,U⟩
 . simp only[go_sem]
   refine hK _ _ ⟨p,true,by simp only[go_sem],by simp only[go_sem],by simp only[go_sem],by simp only[go_sem],if_neg (fun h=>Bool.noConfusion (hb.symm.trans h)),⟨a6,rfl,rfl,rfl,rfl⟩,by simp only[go_sem],I,J,U⟩
 rintro ρ H ⟨P1,an,e0,e4,e5,e6,hS,ay,e9,I,J,U⟩;simp only[hS]at eN;simp only[go_sem,e0,e4,e5,e6,e9];refine aB (fun hb=>?_) (fun hb=>?_)
 . have hk:an=false:=by simpa using hb
   subst hk;rw[if_neg (by simp)]at eN;subst eN;simp only[go_sem,e0,e4,e5,e6,e9,I,J];refine aM J (by simp[bV]) ?_;simp only[go_sem,e0,e4,e5,e6,e9];exact rA.flat (U.upd ac _) _
 have hk:an=true:=by simpa using hb
 subst hk;rw[if_pos rfl]at eN;obtain⟨ay,a9,a7,bn,bq⟩:=ay;have bg:=GC (w:=w) (d:=d) ay a5;simp only[go_sem,e0,e4,e5,e6,e9,I];refine LC.use (Z0 _ jw w (U.at hw) P1 o d ho h ay a5 (by rw[a9,hO];exact hl) (by rw[a9];exact bd)) ?_;generalize fW w P1 o d=L at *;simp only[go_sem,e0,e4,e5,e6,e9];refine aM I (by simp[bV]) ?_;generalize X:aI _ Z _=HP;replace U:=Sup.eq (U.upd aa _) X;replace J:=(congrFun X.symm j6).trans ((aD _ _ _ _ (by first|exact ne_j6_j4|exact E.symm)).trans J);replace I:HP Z=some (fN L.1):=by rw[<-X,aA];rfl
 clear X;simp only[go_sem,I,J];refine aB (fun hb=>?_) (fun hb=>?_)
 . have hk:L.2=false:=by simpa using hb
   rw[if_neg (by rw[hk];simp)]at eN;subst eN;simp only[go_sem,e0,e4,e5,e6,e9,I,J];refine aM J (by simp[bV]) ?_;simp only[go_sem,e0,e4,e5,e6,e9];exact rA.flat (U.upd ac _) _
 have hk:L.2=true:=by simpa using hb
 rw[if_pos hk]at eN;have af:=U.at hw;simp only[go_sem,e0,e4,e5,e6,e9];refine dP [jw] [(0,true),(1,true),(2,true),(3,true),(4,true),(5,true),(6,true),(7,true),(8,true),(9,true),(10,false),(11,false),(12,true)] (by simp[af]) (by kernel_rfl) fun Hp Hr hp hr _ ax=>?_
 have Y:=(hp jw (by simp)).trans af;simp only[go_sem,e0,e4,e5,e6,e9,Y];refine⟨_,PC.q (Sq.EB w.x ⟨(o:Nat),d⟩) rfl,?_⟩;simp only[go_sem,e0,e4,e5,e6,e9];generalize dD w.x ⟨(o:Nat),d⟩=T at *;refine aN fun aj bc=>?_
 simp only[go_sem,e0,e4,e5,e6,e9];refine aM (aA _ _ _) (by simp[kA]) ?_;simp only[go_sem,e0,e4,e5,e6,e9];refine nM hr bc fun ai=>?_
 have F:Z≠aj:=aO I ai;have ae:j6≠aj:=aO J ai;have au:=U.none ai;generalize ad:aI (aI _ aj _) aj _=HGj10;replace U:=Sup.eq ((U.upd au _).upd au _) ad;replace I:=(congrFun ad.symm Z).trans ((aD _ _ _ _ F).trans ((aD _ _ _ _ F).trans I));replace J:=(congrFun ad.symm j6).trans ((aD _ _ _ _ ae).trans ((aD _ _ _ _ ae).trans J));have ab:HGj10 aj=some (tX T.1):=by rw[<-ad,aA];try rfl
 clear ad ai;simp only[go_sem,e0,e4,e5,e6,e9,ab,I,J];refine aB (fun hb=>?_) (fun hb=>?_)
 . rw[if_pos hb]at eN
   subst eN;simp only[go_sem,e0,e4,e5,e6,e9,I,J];refine aM J (by simp[bV]) ?_;simp only[go_sem,e0,e4,e5,e6,e9];exact rA.flat (U.upd ac _) _
 rw[if_neg (fun h=>Bool.noConfusion (hb.symm.trans h))]at eN;obtain⟨bh,a8,bo,bp⟩:=bg;simp only[go_sem,e0,e4,e5,e6,e9,I,ab];refine LC.use (SZ _ jw w (U.at hw) L.1 T.1.place h.net (by rw[a8,a7];exact bi)) ?_;have bf:(bI w.x.net w.t L.1.place T.1.place L.1.clocks).1.length<=4194304:=by
   have:=BU w.x.net w.t L.1.place T.1.place L.1.clocks L.1.clocks.length;rw[Xaf]at this;rw[a8,a7]at this;unfold bI;rw[a8,a7];omega
 have eG:goP w L.1 T.1=({ L.1 with clocks:=eC T.1 (bI w.x.net w.t L.1.place T.1.place L.1.clocks).1,place:=T.1.place,visits:=L.1.visits+1,value:=addV L.1.value (W (W (w.t.perMile*(bI w.x.net w.t L.1.place T.1.place L.1.clocks).2)*16777216)) },decide ((eC T.1 (bI w.x.net w.t L.1.place T.1.place L.1.clocks).1).length>0)):=rfl;rw[eG]at eN;clear eG;generalize bI w.x.net w.t L.1.place T.1.place L.1.clocks=D at *;simp only[go_sem,e0,e4,e5,e6,e9,ab];refine PC.use (ZV T.1 D.1 bf) ?_;generalize eC T.1 D.1=C at *;simp only[go_sem,e0,e4,e5,e6,e9];refine cE aqE I (by simp[bV]) ?_;generalize X:aI _ Z _=HP;replace U:=Sup.eq (U.upd aa _) X;replace J:=(congrFun X.symm j6).trans ((aD _ _ _ _ (by first|exact ne_j6_j4|exact E.symm)).trans J);replace ab:=(congrFun X.symm aj).trans ((aD _ _ _ _ (by first|exact ne_j10_j4|exact F.symm)).trans ab);replace I:HP Z=some (fN { L.1 with clocks:=C }):=by rw[<-X,aA];rfl
 clear X;simp only[go_sem,e0,e4,e5,e6,e9,I,J,ab];refine cE so3 I (by simp[bV]) ?_;generalize X:aI _ Z _=HP;replace U:=Sup.eq (U.upd aa _) X;replace J:=(congrFun X.symm j6).trans ((aD _ _ _ _ (by first|exact ne_j6_j4|exact E.symm)).trans J);replace ab:=(congrFun X.symm aj).trans ((aD _ _ _ _ (by first|exact ne_j10_j4|exact F.symm)).trans ab);replace I:HP Z=some (fN { L.1 with clocks:=C,place:=T.1.place }):=by rw[<-X,aA];rfl
 clear X;simp only[go_sem,e0,e4,e5,e6,e9,I,J,ab];rw[aS (show L.1.visits<=4611686018427387904 by omega)];refine cE so3 I (by simp[bV]) ?_;generalize X:aI _ Z _=HP;replace U:=Sup.eq (U.upd aa _) X;replace J:=(congrFun X.symm j6).trans ((aD _ _ _ _ (by first|exact ne_j6_j4|exact E.symm)).trans J);replace ab:=(congrFun X.symm aj).trans ((aD _ _ _ _ (by first|exact ne_j10_j4|exact F.symm)).trans ab);replace I:HP Z=some (fN { L.1 with clocks:=C,place:=T.1.place,visits:=L.1.visits+1 }):=by rw[<-X,aA];rfl
 clear X;simp only[go_sem,e0,e4,e5,e6,e9,I,J,ab];have af:=U.at hw;refine dP [jw] [(0,true),(1,true),(3,true),(4,true),(5,true),(6,true),(7,true),(8,true),(9,true),(10,true),(2,false),(11,false),(12,true),(13,false)] (by simp[af]) (by kernel_rfl) fun Hp Hr hp hr _ ax=>?_
 have Y:=(hp jw (by simp)).trans af;have aq:=(hr Z (by simp[a0.symm])).trans I;simp only[go_sem,e0,e4,e5,e6,e9,akN,Y,aq];refine⟨by omega,?_⟩;have ba:=E8 (IntKind.i64.wrap (w.t.perMile*D.2)*16777216);refine LC.use (QT _ _ _ _ bh.value ba.1 ba.2) ?_;simp only[go_sem,e0,e4,e5,e6,e9,aq];refine cE ajF aq (by simp[bV]) ?_;refine iM hr (by simp[a0.symm]) ?_;generalize X:aI _ Z _=HP;replace U:=Sup.eq (U.upd aa _) X;replace J:=(congrFun X.symm j6).trans ((aD _ _ _ _ (by first|exact ne_j6_j4|exact E.symm)).trans J);replace I:HP Z=some (fN { L.1 with clocks:=C,place:=T.1.place,visits:=L.1.visits+1,value:=addV L.1.value (W (W (w.t.perMile*D.2)*16777216)) }):=by rw[<-X,aA];rfl
 clear X;simp only[go_sem,e0,e4,e5,e6,e9,I,J];refine dP [Z] [(0,true),(1,true),(2,true),(3,true),(4,true),(5,false),(6,true)] (by simp[I]) (by kernel_rfl) fun Hp Hr hp hr _ ax=>?_
 have ar:=(hp Z (by simp)).trans I;have a4:=(hr j6 (by simp[E.symm])).trans J;simp only[go_sem,e0,e4,e5,e6,e9,ar,a4];refine aM a4 (by simp[bV]) ?_;simp only[go_sem,e0,e4,e5,e6,e9];refine iM hr (by simp[E.symm]) ?_;simp only[go_sem,e0,e4,e5,e6,e9];subst eN;rw[agK];exact rA.flat (U.upd ac _) _
end Go.Proofs.YtdlijlecpopadaaGreatDoor.Rx
end
section
namespace Go.Proofs.YtdlijlecpopadaaGreatDoor.Rx
open Go.Proofs.Tryz(prog)
open Go.Aw Go.Aw.D Go.Proofs Ty Go.Nu
open Sq (W dH mU pC rS fE eM dD gL NetOk)
open Nu (zG uE AF ltB geB pN)
open Mv (bZ cQ NC.pc aT)
theorem P0{a b:Nat}(ha:a<2^63)(hb:b<2^63):(pX .andNot .i64 (a:Int) (b:Int) == 0)=decide (a &&& b=a):=by
 have e:pX .andNot .i64 (a:Int) (b:Int)=((a-(a &&& b):Nat):Int):=by
   have h1:((a:Int)%((2^64:Nat):Int)).toNat=a:=by omega
   have J:((b:Int)%((2^64:Nat):Int)).toNat=b:=by omega
   have h:((BitVec.ofInt 64 (a:Int) &&& ~~~(BitVec.ofInt 64 (b:Int))).toNat:Int)=((a-(a &&& b):Nat):Int):=by
     have E:a &&& b<=a:=Xcw;have X:BitVec.ofInt 64 (a:Int) &&& ~~~(BitVec.ofInt 64 (b:Int))=BitVec.ofNat 64 (a-(a &&& b)):=by
       have h3:BitVec.ofInt 64 (a:Int)=BitVec.ofNat 64 a:=by apply BitVec.eq_of_toNat_eq;rw[BitVec.toNat_ofInt,BitVec.toNat_ofNat,h1,Xbn (by omega)]
       have Y:BitVec.ofInt 64 (b:Int)=BitVec.ofNat 64 b:=by apply BitVec.eq_of_toNat_eq;rw[BitVec.toNat_ofInt,BitVec.toNat_ofNat,J,Xbn (by omega)]
       rw[h3,Y];have Z:(BitVec.ofNat 64 a &&& ~~~BitVec.ofNat 64 b) &&& BitVec.ofNat 64 (a &&& b)=0#64:=by
         apply BitVec.eq_of_getLsbD_eq;intro i hi;simp only[BitVec.getLsbD_and,BitVec.getLsbD_not,BitVec.getLsbD_ofNat,Xcf,hi,decide_true,Xba,BitVec.getLsbD_zero];cases a.testBit i <;> cases b.testBit i <;> simp
       have O:(BitVec.ofNat 64 a &&& ~~~BitVec.ofNat 64 b) ||| BitVec.ofNat 64 (a &&& b)=BitVec.ofNat 64 a:=by
         apply BitVec.eq_of_getLsbD_eq;intro i hi;simp only[BitVec.getLsbD_or,BitVec.getLsbD_and,BitVec.getLsbD_not,BitVec.getLsbD_ofNat,Xcf,hi,decide_true,Xba];cases a.testBit i <;> cases b.testBit i <;> rfl
       have I:=congrArg BitVec.toNat ((BitVec.add_eq_or_of_and_eq_zero _ _ Z).trans O);rw[BitVec.toNat_add,BitVec.toNat_ofNat,BitVec.toNat_ofNat,Xbn (by omega:a<2^64),Xbn (by omega:a &&& b<2^64)]at I;apply BitVec.eq_of_toNat_eq;rw[BitVec.toNat_ofNat,Xbn (by omega)];have hl:=(BitVec.ofNat 64 a &&& ~~~BitVec.ofNat 64 b).isLt;have F:(BitVec.ofNat 64 a &&& ~~~BitVec.ofNat 64 b).toNat<=a:=by
         rw[BitVec.toNat_and,BitVec.toNat_ofNat,Xbn (by omega:a<2^64)];exact Xcw
       omega
     rw[X,BitVec.toNat_ofNat,Xbn (by omega)]
   refine Eq.trans (congrArg IntKind.i64.wrap h) ?_;exact aW (by omega)
 rw[e,Xar];have E:a &&& b<=a:=Xcw;simp only[Xas,decide_eq_true_eq];omega
theorem VQ(a b:Nat)(F:a<2^63)(E:b<2^63):PC prog 96 [int a,int b] (boo (decide (a &&& b=a))):=by
 refine pcd Tryz.func96 ?_;unfold Tryz.f96;simp only[gdS];simp only[go_sem];exact cQ (P0 F E)
theorem ajY(H0:aJ)(jw:Nat)(w:Wk)(hw:H0 jw=some (nF w))(p:Part)(h:WkOk w)(af:p.clocks.length<=1048576):
   LC prog 51 [.op jw 0 0,.agg (cC p)] H0 (.tup [int (iR w p).1,int (iR w p).2.1,boo (iR w p).2.2]):=by
 have eE:iR w p=if((p.visits:Int) == 0||(p.board:Int) != 0)=true then(0,0,false)
   else
     let d:=bI w.x.net w.t p.place w.t.dst p.clocks
     (d.1.foldl (lL w.t.close) (-1),d.2,decide (d.1.foldl (lL w.t.close) (-1)>=0)):=rfl
 generalize iR w p=N at eE;refine LC.body (c:=Tryz.f51.body.getD .skip) (fun _=>false) mixed Tryz.func51 rfl (by kernel_rfl) ?_;unfold Tryz.f51;simp only[gdS];simp only[go_sem];have U:=Sup.refl H0;refine aB (fun hb=>?_) (fun hb=>?_)
 . rw[if_pos hb]at eE
   subst eE;simp only[go_sem];exact rA.flat U _
 rw[if_neg (fun h=>Bool.noConfusion (hb.symm.trans h))]at eE;simp only[go_sem];refine lO [(0,true),(1,true),(2,true),(3,true),(4,true),(5,true),(6,false),(7,false),(8,true),(9,true),(10,true),(11,true),(12,true)] (by kernel_rfl) ?_;simp only[go_sem,hw];refine LC.use (SZ _ jw w hw p w.t.dst h.net af) ?_;have ah:(bI w.x.net w.t p.place w.t.dst p.clocks).1.length<=4194304:=by
   have:=BU w.x.net w.t p.place w.t.dst p.clocks p.clocks.length;rw[Xaf]at this;unfold bI;omega
 generalize bI w.x.net w.t p.place w.t.dst p.clocks=D at *;simp only[go_sem];refine⟨fun ρ H=>∃(k:Nat),k<=D.1.length/\ρ 0=.op jw 0 0/\ρ 8=int D.2/\ρ 31=.sl (D.1.map cP)/\ρ 32=int (D.1.length:Nat)/\ρ 33=int k/\ρ 9=int ((D.1.take k).foldl (lL w.t.close) (-1))/\Sup H0 H,fun ρ _=>D.1.length-aX (ρ 33),⟨0,Xab _,by simp only[go_sem],by simp only[go_sem],by simp only[go_sem],by simp only[go_sem,Xaa],(by simp only[go_sem];rfl),by simp only[go_sem];rfl,U⟩,?_⟩;rintro ρ H ⟨k,hk,e0,e8,F,I,E,e9,U⟩;simp only[go_sem,e0,e8,F,I,E,e9];refine aB (fun O=>?_) (fun ac=>?_)
 . have O:=ltB (by simpa using O)
   obtain⟨c,hc⟩:=aQ O;have b1:=inB O;have hs:=Sq.eY (f:=lL w.t.close) (b:=(-1:Int)) hc;generalize (D.1.take k).foldl (lL w.t.close) (-1)=s at *;simp only[go_sem,e0,e8,F,I,E,e9,aH hc,b1];refine aN fun X Z=>?_
   simp only[go_sem,e0,e8,F,I,E,e9];refine aM (aA _ _ _) (by simp[lT]) ?_;have Y:=U.none Z;generalize J:aI (aI _ X _) X _=HGi11;replace U:=Sup.eq ((U.upd Y _).upd Y _) J;have aa:HGi11 X=some (zF c):=by rw[<-J,aA];try rfl
   clear J Z;simp only[go_sem,e0,e8,F,I,E,e9,aa];have ae:=U.at hw;refine dP [jw,X] [(0,true),(1,true),(2,true),(3,true),(4,true),(5,true),(6,true),(7,true),(8,true),(9,true),(10,true),(11,true),(12,true),(13,true),(14,true),(15,true),(16,true),(17,true)] (by simp[ae,aa]) (by kernel_rfl) fun Hp Hr hp hr _ ag=>?_
   have ab:=(hp jw (by simp)).trans ae;have ad:=(hp X (by simp)).trans aa;simp only[go_sem,e0,e8,F,I,E,e9,ab,ad];refine iY hr ?_;simp only[go_sem,e0,e8,F,I,E,e9];refine aB (fun hb=>?_) (fun hb=>?_)
   . have e1:lL w.t.close s c=c.ready:=if_pos hb
     simp only[go_sem,e0,e8,F,I,E,e9,aa,aS (show k<=4611686018427387904 by omega)];exact⟨⟨k+1,O,rfl,by rw[hs,e1],U⟩,by simp only[aG];omega⟩
   . have e1:lL w.t.close s c=s:=if_neg (fun h=>Bool.noConfusion (hb.symm.trans h))
     simp only[go_sem,e0,e8,F,I,E,e9,aS (show k<=4611686018427387904 by omega)];exact⟨⟨k+1,O,rfl,by rw[hs,e1],U⟩,by simp only[aG];omega⟩
 have ac:=geB hk (by simpa using ac);subst ac;rw[Xaf]at e9;simp only[go_sem,e0,e8,F,I,E,e9];subst eE;exact rA.flat U _
theorem aiI(H0:aJ)(jw:Nat)(w:Wk)(I:H0 jw=some (nF w))(p:Part)(e m:Int)(O:p.value.size<=1048576):
   LC prog 52 [.op jw 0 0,.agg (cC p),int e,int m] H0 (str (oY w p e m)):=by
 refine LC.body (c:=Tryz.f52.body.getD .skip) (fun _=>false) mixed Tryz.func52 rfl (by kernel_rfl) ?_;unfold Tryz.f52;simp only[gdS];simp only[go_sem];simp only[go_sem,I];refine dP [jw] [(0,true),(1,true),(2,true),(3,true),(4,true),(5,true),(6,true),(7,true),(8,true),(9,true),(10,true),(11,true),(12,true),(13,true),(14,true),(15,true),(16,true),(17,true),(18,true),(19,true),(20,true),(21,true)] (by simp[I]) (by kernel_rfl) fun Hp Z X Y _ J=>?_
 have F:=(X jw (by simp)).trans I;simp only[go_sem,F];refine iY Y ?_;simp only[go_sem,akN];refine⟨by omega,by omega,by omega,?_⟩;have E:=E8 (W (XT w e m*16777216)+W (W (Int.tdiv (JI w e) 64)*W (Int.tdiv (JI w e) 64)));refine LC.use (QT _ _ _ _ O E.1 E.2) ?_;simp only[go_sem];exact rA.flat (Sup.refl H0) _
theorem dec0:(⟨#[48]⟩:ByteArray)=dec 0:=by decide +kernel
theorem Uu(H0:aJ)(jw:Nat)(w:Wk)(hw:H0 jw=some (nF w))(hc:w.t.cap.length<=1048576):
   LC prog 46 [.op jw 0 0] H0 (.agg (cC (fC w))):=by
 refine LC.body (c:=Tryz.f46.body.getD .skip) (fun _=>false) mixed Tryz.func46 rfl (by kernel_rfl) ?_;unfold Tryz.f46;simp only[gdS];simp only[go_sem];have U:=Sup.refl H0;refine aN fun X Y=>?_
 have F:=U.none Y;generalize O:aI _ X _=HGj2;replace U:=Sup.eq (U.upd F _) O;have R2:HGj2 X=some (Iz):=by rw[<-O,aA];try rfl
 clear O Y;simp only[go_sem,R2];have ad:=U.at hw;have I:jw≠X:=Sup.ne (Sup.refl H0) hw F;refine Cn [jw] (.q 0 (.q 1 (.q 2 (.q 3 (.q 4 (.q 5 (.q 6 (.q 7 (.q 8 (.q 9 (.q 10 (.q 12 (.q 13 (.q 14 (.q 15 (.q 16 (.q 17 (.a2 11 (.a1 18 (.q 19 (.a1 20 .nil))) 18 (.a1 11 (.q 19 (.a1 20 .nil))))))))))))))))))))) (by simp[ad]) (by kernel_rfl) fun Hp Hr hp hr _ ai=>?_
 have J:=(hp jw (by simp)).trans ad;have E:=(hr X (by simp[I.symm])).trans R2;simp only[go_sem,J,E];refine qO ?_ ?_
 all_goals simp only[go_sem,J,E,Xaa]
 all_goals
   refine⟨⟨⟨by omega,by omega⟩,by omega⟩,aN fun jm ac=>?_⟩;have ab:X≠jm:=aO E ac;simp only[go_sem];refine aM ((aD _ _ _ _ ab).trans E) (by simp) ?_;simp only[go_sem];refine jX fun hd Hm ag Z=>?_
   have ae:jm≠jw:=fun e=>by
     have:=hd jw (by simp);rw[aD _ _ _ _ I,<-e,aA]at this;cases this
   have af:HGj2 jm=none:=by rw[<-hr jm (by simp[ae])];exact ac
   have aa:H0 jm=none:=U.none af;have ah:Hm X=some (⟨94,7,[[int w.t.src,int 0,int 0,int 0,.os jm,.sl [[int w.t.start,int 0]],str ⟨#[48]⟩]]⟩:Row):=by
     rw[Z X (by simp[I.symm]),aA]
   have Rm:Hm jm=some (⟨3,1,List.replicate w.t.cap.length [int 0]⟩:Row):=by
     rw[Z jm (by simp[ae]),aD _ _ _ _ ab.symm,aA]
   have US:Sup H0 Hm:=fun k row hk=>by
     by_cases e:k=jw
     . subst e;rw[ag k (by simp)];exact U k row hk
     . have e2:k≠X:=fun e=>by rw[e,F]at hk;cases hk
       have e3:k≠jm:=fun e=>by rw[e,aa]at hk;cases hk
       rw[Z k (by simp[e]),aD _ _ _ _ e2,aD _ _ _ _ e3,hr k (by simp[e])];exact U k row hk
   simp only[go_sem,ah];refine⟨US,[jm],by simpa using aa,?_⟩;refine .agg _ _ ?_;rw[dec0];refine .cons _ _ _ _ (.refl _) (.cons _ _ _ _ (.refl _) (.cons _ _ _ _ (.refl _) (.cons _ _ _ _ (.refl _) (.cons _ _ _ _ (.row _ _ _ (by simp;exact Rm) ?_) (ConvL.refl _)))));show ConvE _ (List.replicate w.t.cap.length [int 0]) ((List.replicate w.t.cap.length (0:Int)).map aR);rw[List.map_replicate];exact ConvE.refl _
theorem YS(p q:Part)(hp:p.memory<2^62)(hq:q.memory<2^62)(ab:p.load.length<=1048576)(ad:p.value.size<=1048576)(ac:q.value.size<=1048576)(af:p.clocks.length<=4194304)(ae:q.clocks.length<=4194304):
   PC prog 50 [.agg (cC p),.agg (cC q)] (boo (uL p q)):=by
 have Y:uL p q=if(p.place != q.place||(p.board:Int) != (q.board:Int)|| !decide (p.memory &&& q.memory=p.memory)||decide ((p.visits:Int)>(q.visits:Int))|| !fE p.load q.load||decide (xW p.value q.value>0))=true then false
   else q.clocks.all fun d=>p.clocks.any fun c=>iN c d:=rfl
 generalize uL p q=B at Y;refine pcd Tryz.func50 ?_;unfold Tryz.f50;simp only[gdS];simp only[go_sem];refine⟨_,fun _=>PC.q (VQ p.memory q.memory (by omega) (by omega)) rfl,?_⟩;simp only[go_sem];refine⟨_,fun _=>PC.q (Sq.Kn p.load q.load ab) rfl,?_⟩;simp only[go_sem];refine⟨_,fun _=>PC.q (pN p.value q.value ad ac) rfl,?_⟩;simp only[go_sem];refine aB (fun O=>?_) (fun O=>?_)
 . rw[if_pos O]at Y
   subst Y;simp only[go_sem];exact .refl _
 rw[if_neg (fun h=>Bool.noConfusion (O.symm.trans h))]at Y;simp only[go_sem];refine⟨fun ρ H=>∃(k:Nat),k<=q.clocks.length/\ρ 2=.rp (cC p) 0/\ρ 51=.sl (q.clocks.map cP)/\ρ 52=int (q.clocks.length:Nat)/\ρ 53=int k/\(∀u∈q.clocks.take k,(p.clocks.any fun c=>iN c u)=true),fun ρ _=>q.clocks.length-aX (ρ 53),⟨0,Xab _,by simp only[go_sem],by simp only[go_sem],by simp only[go_sem,Xaa],(by simp only[go_sem];rfl),by simp⟩,?_⟩;rintro ρ H ⟨k,hk,e2,E,I,F,hz⟩;simp only[go_sem,e2,E,I,F];refine aB (fun J=>?_) (fun Z=>?_)
 . have J:=ltB (by simpa using J)
   obtain⟨c,hc⟩:=aQ J;have b1:=inB J;simp only[go_sem,e2,E,I,F,aH hc,b1];refine aN fun i6 aa=>?_
   simp only[go_sem,e2,E,I,F];refine aM (aA _ _ _) (by simp[lT]) ?_;generalize X:aI (aI _ i6 _) i6 _=HGi6;have R6:HGi6 i6=some (zF c):=by rw[<-X,aA];try rfl
   clear X aa;simp only[go_sem,e2,E,I,F,R6];refine dG.use ⟨[.sl (p.clocks.map cP),.fn 99 [.rp (cP c) 0]],.cons _ _ _ _ (.refl _) (.cons _ _ _ _ (.fn _ _ _ (.cons _ _ _ _ (.ptr _ _ _ _ _ R6 (by simp) (ConvL.refl _)) .nil)) .nil),Mf p.clocks (by omega) (by kernel_rfl) (fun v _=>Xd v c),rfl⟩ ?_;simp only[go_sem,e2,E,I,F];refine aB (fun O=>?_) (fun O=>?_)
   . have O:(p.clocks.any fun v=>iN v c)=false:=by simpa using O
     have hf:(q.clocks.all fun d=>p.clocks.any fun c=>iN c d)=false:=by
       rw[Xbv];intro h;have:=Xao.1 h c (Xad hc);rw[O]at this;cases this
     rw[hf]at Y;subst Y;simp only[go_sem];exact .refl _
   . have O:(p.clocks.any fun v=>iN v c)=true:=by simpa using O
     simp only[go_sem,e2,E,I,F,aS (show k<=4611686018427387904 by omega)];exact⟨⟨k+1,J,rfl,aT (p:=fun u=>(p.clocks.any fun c=>iN c u)=true) hc O hz⟩,by simp only[aG];omega⟩
 have Z:=geB hk (by simpa using Z);subst Z;rw[Xaf]at hz;rw[Xao.2 hz]at Y;subst Y;simp only[go_sem];exact .refl _
theorem Pc(x:Instance)(k:Nat):(List.range (k+1)).flatMap (fun i=>if(aF x i).off=true then[]else eM x.orders (i:Nat))=(List.range k).flatMap (fun i=>if(aF x i).off=true then[]else eM x.orders (i:Nat))++(if(aF x k).off=true then[]else eM x.orders (k:Nat)):=by
 rw[Xbx,List.flatMap_append];simp
theorem BZ(x:Instance):∀k,((List.range k).flatMap (fun i=>if(aF x i).off=true then[]else eM x.orders (i:Nat))).length<=2*k
 | 0=>by simp
 | k+1=>by
   rw[Pc,Xae];have h:=BZ x k;have E:=Sq.mA x.orders (k:Nat);split
   . rw[List.length_nil];omega
   . omega
abbrev Qd(l:List Visit):Row:=⟨97,2,l.map aK⟩
theorem SU:∀l:List Visit,cZ 2 (l.map aK)
 | []=>trivial
 | _::r=>⟨rfl,SU r⟩
theorem aeX(a b:List Visit):(⟨97,2,a.map aK++b.map aK⟩:Row)=Qd (a++b):=by
 show _=(⟨97,2,(a++b).map aK⟩:Row);rw[Xat]
theorem ZU(x:Instance)(hx:x.orders.length<=1048576):PC prog 45 [.agg (aL x)] (.sl ((dV x).map aK)):=by
 refine pcb (fun t=>t == 3) Tryz.func45 ?_;unfold Tryz.f45;simp only[gdS];simp only[go_sem];refine aN fun j ad=>?_
 generalize ac:aI _ j _=HGj;have R:HGj j=some (Qd []):=by rw[<-ac,aA];try rfl
 clear ac ad;simp only[go_sem,R];refine⟨fun ρ H=>∃(k:Nat) (j:Nat),k<=x.orders.length/\ρ 1=.rp (aL x) 0/\ρ 7=.sl (x.orders.map bF)/\ρ 8=int (x.orders.length:Nat)/\ρ 9=int k/\ρ 3=.os j/\H j=some (Qd ((List.range k).flatMap (fun i=>if(aF x i).off=true then[]else eM x.orders (i:Nat)))),fun ρ _=>x.orders.length-aX (ρ 9),⟨0,j,Xab _,by simp only[go_sem],by simp only[go_sem],by simp only[go_sem,Xaa],(by simp only[go_sem];rfl),by simp only[go_sem],R⟩,?_⟩;rintro ρ H ⟨k,j,hk,X,Z,Y,e9,J,R⟩;simp only[go_sem,X,Z,Y,e9,J];refine aB (fun F=>?_) (fun ab=>?_)
 . have F:=ltB (by simpa using F)
   have hc:=eU F;have g1:=aH (f:=bF) hc;have b1:=inB F;have hs:=Pc x k;have ae:=BZ x k;have hv:=Sq.mA x.orders (k:Nat);generalize (List.range k).flatMap (fun i=>if(aF x i).off=true then[]else eM x.orders (i:Nat))=out at *;generalize aF x k=O at *;simp only[go_sem,X,Z,Y,e9,J,g1,b1];refine aN fun i5 aa=>?_
   have E:j≠i5:=aO R aa;simp only[go_sem,X,Z,Y,e9,J,R];refine aM (aA _ _ _) (by simp[kZ]) ?_;generalize I:aI (aI _ i5 _) i5 _=HGi5;replace R:=(congrFun I.symm j).trans ((aD _ _ _ _ E).trans ((aD _ _ _ _ E).trans R));have R5:HGi5 i5=some (RG O):=by rw[<-I,aA];try rfl
   clear I aa;simp only[go_sem,X,Z,Y,e9,J,R5,R];refine aB (fun hb=>?_) (fun hb=>?_)
   . have ho:¬O.off=true:=by simpa using hb
     rw[if_neg ho]at hs;simp only[go_sem,X,Z,Y,e9,J];refine PC.use (Sq.nU x.orders (k:Nat)) ?_;generalize eM x.orders (k:Nat)=V at *;simp only[go_sem,X,Z,Y,e9,J];refine bG R ⟨rfl,rfl⟩ (SU V) (by simp only[Xaa];omega) (fun j2 af=>?_);simp only[go_sem,X,Z,Y,e9,J,aS (show k<=4611686018427387904 by omega)];exact⟨⟨k+1,j2,F,rfl,rfl,by rw[aA,hs];exact congrArg some (aeX _ _)⟩,by simp only[aG];omega⟩
   . have ho:O.off=true:=by simpa using hb
     rw[if_pos ho,Xal]at hs;simp only[go_sem,X,Z,Y,e9,J,aS (show k<=4611686018427387904 by omega)];exact⟨⟨k+1,j,F,rfl,rfl,by rw[hs];exact R⟩,by simp only[aG];omega⟩
 have ab:=geB hk (by simpa using ab);subst ab;simp only[go_sem,X,Z,Y,e9,J];exact .row _ _ _ R (ConvE.refl _)
def qE(n:Nat)(near:List Int)(i:Nat):Bool:=decide (near.getD i 0<0)|| !gL (near.getD i 0) (i:Nat)||(shV .shr .i64 (near.getD i 0) (n:Nat)) != 0
def jM(x:Instance)(kind:Int)(near:List Int):Bool:=
 (decide (kind<0)||decide (kind>=(x.types.length:Int))||(near.length:Int) != (x.orders.length:Int))||(List.range near.length).any (qE x.orders.length near)
def aC(x:Instance)(k:Nat):VType:=x.types.getD k ⟨ByteArray.empty,0,0,0,[],0,0,0,0,0,0,0,0,0⟩
def lS(x:Instance)(kind:Nat)(near:List Int):Wk:=⟨x,kind,aC x kind,near,none,(dV x).length⟩
theorem Ah{x:Instance}{kind:Int}{near:List Int}(h:jM x kind near=false):(decide (kind<0)||decide (kind>=(x.types.length:Int))||(near.length:Int) != (x.orders.length:Int))=false/\∀i,i<near.length->qE x.orders.length near i=false:=by
 unfold jM at h;rw[Xai]at h;refine⟨h.1,fun i hi=>?_⟩;have:=Xby.1 h.2 i (Xap.2 hi);simpa using this
theorem VI{x:Instance}{kind:Int}{near:List Int}(h:jM x kind near=true)(h1:(decide (kind<0)||decide (kind>=(x.types.length:Int))||(near.length:Int) != (x.orders.length:Int))=false):¬∀i,i<near.length->qE x.orders.length near i=false:=by
 intro F;unfold jM at h;rw[h1,Xbu,Xau]at h;obtain⟨i,hi,E⟩:=h;rw[F i (Xap.1 hi)]at E;cases E
theorem Mb(x:Instance)(kind:Int)(near:List Int)(hx:x.orders.length<=1048576)(ab:near.length<=1048576)(hB:jM x kind near=true):
   PC prog 43 [.agg (aL x),int kind,.sl (near.map aR)] (.tup [.v (.pointer none),int 2]):=by
 refine pcb (fun t=>t == 62||t == 63) Tryz.func43 ?_;unfold Tryz.f43;simp only[gdS];simp only[go_sem];refine aB (fun hb=>?_) (fun hb=>?_)
 . simp only[go_sem]
   exact .refl _
 have hN:=VI hB hb;simp only[go_sem];refine⟨fun ρ H=>∃(k:Nat),k<=near.length/\ρ 1=int kind/\ρ 2=.sl (near.map aR)/\ρ 3=.rp (aL x) 0/\ρ 27=.sl (near.map aR)/\ρ 28=int (near.length:Nat)/\ρ 29=int k/\(∀i,i<k->qE x.orders.length near i=false),fun ρ _=>near.length-aX (ρ 29),⟨0,Xab _,by simp only[go_sem],by simp only[go_sem],by simp only[go_sem],by simp only[go_sem],by simp only[go_sem,Xaa],(by simp only[go_sem];rfl),by intro i hi;omega⟩,?_⟩;rintro ρ H ⟨k,hk,Y,Z,X,F,J,I,hz⟩;simp only[go_sem,Y,Z,X,F,J,I];refine aB (fun E=>?_) (fun O=>?_)
 . have E:=ltB (by simpa using E)
   obtain⟨v,hv⟩:=aQ E;have b1:=inB E;have aa:near.getD k 0=v:=by rw[List.getD,hv];rfl
   simp only[go_sem,Y,Z,X,F,J,I,aH hv,b1];refine⟨_,fun _=>PC.q (Sq.sQ v (k:Nat)) rfl,?_⟩;simp only[go_sem,Y,Z,X,F,J,I,Xaa];refine⟨by omega,?_⟩;refine aB (fun hb=>?_) (fun hb=>?_)
   . simp only[go_sem,Y,Z,X,F,J,I]
     exact .refl _
   . simp only[go_sem,Y,Z,X,F,J,I,aS (show k<=4611686018427387904 by omega)]
     refine⟨⟨k+1,E,rfl,fun i hi=>?_⟩,by simp only[aG];omega⟩;by_cases e:i=k
     . subst e;unfold qE;rw[aa];exact hb
     . exact hz i (by omega)
 have O:=geB hk (by simpa using O);subst O;exact absurd hz hN
theorem Z2(x:Instance)(kind:Nat)(near:List Int)(hx:x.orders.length<=1048576)(ad:near.length<=1048576)(hB:jM x kind near=false):
   NC prog 43 [.agg (aL x),int (kind:Nat),.sl (near.map aR)] (nF (lS x kind near)) (fun j=>.tup [.op j 0 0,int 0]):=by
 obtain⟨h1,h2⟩:=Ah hB;have ab:kind<x.types.length:=by simp at h1;omega
 refine ncb (fun t=>t == 62||t == 63) Tryz.func43 ?_;unfold Tryz.f43;simp only[gdS];simp only[go_sem];refine aB (fun hb=>?_) (fun hb=>?_)
 . rw[h1]at hb;cases hb
 simp only[go_sem];refine⟨fun ρ H=>∃(k:Nat),k<=near.length/\ρ 1=int (kind:Nat)/\ρ 2=.sl (near.map aR)/\ρ 3=.rp (aL x) 0/\ρ 27=.sl (near.map aR)/\ρ 28=int (near.length:Nat)/\ρ 29=int k/\True,fun ρ _=>near.length-aX (ρ 29),⟨0,Xab _,by simp only[go_sem],by simp only[go_sem],by simp only[go_sem],by simp only[go_sem],by simp only[go_sem,Xaa],(by simp only[go_sem];rfl),trivial⟩,?_⟩;rintro ρ H ⟨k,hk,e1,Y,Z,I,O,J,hz⟩;simp only[go_sem,e1,Y,Z,I,O,J];refine aB (fun X=>?_) (fun af=>?_)
 . have X:=ltB (by simpa using X)
   obtain⟨v,hv⟩:=aQ X;have b1:=inB X;have ac:near.getD k 0=v:=by rw[List.getD,hv];rfl
   simp only[go_sem,e1,Y,Z,I,O,J,aH hv,b1];refine⟨_,fun _=>PC.q (Sq.sQ v (k:Nat)) rfl,?_⟩;simp only[go_sem,e1,Y,Z,I,O,J,Xaa];refine⟨by omega,?_⟩;refine aB (fun hb=>?_) (fun hb=>?_)
   . have h3:=h2 k X
     unfold qE at h3;rw[ac]at h3;exact absurd (hb.symm.trans h3) (by simp)
   . simp only[go_sem,e1,Y,Z,I,O,J,aS (show k<=4611686018427387904 by omega)]
     exact⟨⟨k+1,X,rfl⟩,by simp only[aG];omega⟩
 have b2:=inB ab;have hT:x.types[kind]?=some (aC x kind):=by unfold aC;rw[List.getD,List.getElem?_eq_getElem ab,Xcm]
 have g2:=aH (f:=aY) hT;simp only[go_sem,e1,Y,Z,I,O,J];refine lO [(0,true),(1,true),(2,true),(3,true),(4,true),(5,true),(6,true),(7,true),(8,true),(9,false),(10,true),(11,true),(12,false),(13,true),(14,true)] (by kernel_rfl) ?_;simp only[go_sem,e1,Y,Z,I,O,J,g2,b2];refine PC.use (ZU x hx) ?_;simp only[go_sem,e1,Y,Z,I,O,J,Xaa];have aa:∀(E:Option (List AV)) (F:List AV->Prop),E=some (jZ (lS x kind near))->F (jZ (lS x kind near))->bJ E F:=fun E F h hF=>by rw[h];exact hF
 refine aa _ _ (by kernel_rfl) ?_;refine⟨by rw[Dk];omega,?_⟩;refine aN fun jw ae=>?_
 simp only[go_sem,e1,Y,Z,I,O,J];exact⟨jw,rfl,by rw[aA]⟩
structure PInv(D:Nat)(p:Part):Prop where
 ok:PartOk p
 load:p.load.length=D
 clk:p.clocks.length<=2^p.visits
structure WkB(D:Nat)(w:Wk):Prop where
 ok:WkOk w
 dim:∀o,o<w.x.orders.length->(aF w.x o).load.length=D
 D:D<=1048576
 n:w.x.orders.length<=62
 most:w.most<=16
structure VisOk(x:Instance)(v:Visit):Prop where
 ex:∃o:Nat,v.order=(o:Nat)/\o<x.orders.length
theorem OY{D:Nat}{w:Wk}{p:Part}{o:Nat}{d:Bool}(E:p.load.length=D)(F:(aF w.x o).load.length=D):(fW w p o d).1.load.length=D:=by
 have I:=Tl p.load (aF w.x o).load (by omega);unfold fW;split
 . show(pC p.load (aF w.x o).load).length=D;omega
 . split
   . split
     . show(rS p.load (aF w.x o).load).length=D;omega
     . exact E
   . exact E
theorem PY(s:Stop)(l:List Clk):(eC s l).length<=l.length:=by
 have:=FF s l l.length
 rwa [Xaf]at this
theorem V2(n:Network)(t:VType)(a b:Int)(l:List Clk):(bI n t a b l).1.length<=2*l.length:=by
 have:=BU n t a b l l.length
 rwa [Xaf]at this
theorem CH{D:Nat}{w:Wk}{p:Part}{v:Visit}(hw:WkB D w)(h:PInv D p)(hv:VisOk w.x v)(E:(cH w p v).2=true):PInv D (cH w p v).1/\(cH w p v).1.visits=p.visits+1/\p.visits<w.most:=by
 obtain⟨o,ab,ho⟩:=hv.ex;have ae:v.order.toNat=o:=by rw[ab];rfl
 have F:o<=61:=by have:=hw.n;omega
 unfold cH at E |-;rw[ae]at E |-;by_cases h1:(decide ((p.visits:Int)>=(w.most:Int))||(aF w.x o).off|| !mU w.t.skills (aF w.x o).skills)=true
 . rw[if_pos h1]at E;cases E
 rw[if_neg h1]at E |-;have X:p.visits<w.most:=by
   simp only[Xbc,decide_eq_true_eq,not_or]at h1;have:=h1.1.1;omega
 have hs:PartOk (if(!v.drop||decide ((aF w.x o).pick.place<0))=true then fO w p o else(p,true)).1/\(if(!v.drop||decide ((aF w.x o).pick.place<0))=true then fO w p o else(p,true)).1.load=p.load/\(if(!v.drop||decide ((aF w.x o).pick.place<0))=true then fO w p o else(p,true)).1.clocks=p.clocks/\(if(!v.drop||decide ((aF w.x o).pick.place<0))=true then fO w p o else(p,true)).1.visits=p.visits:=by
   split
   . have:=JH (w:=w) h.ok F
     exact⟨this.1,this.2.1,this.2.2.1,this.2.2.2.1⟩
   . exact⟨h.ok,rfl,rfl,rfl⟩
 generalize (if(!v.drop||decide ((aF w.x o).pick.place<0))=true then fO w p o else(p,true))=S at *;simp only at E |-;by_cases h2:S.2=true
 . rw[if_pos h2]at E |-
   obtain⟨Y,ad,ac,I⟩:=hs;have hl:=GC (w:=w) (o:=o) (d:=v.drop) Y F;have Z:=OY (D:=D) (w:=w) (p:=S.1) (o:=o) (d:=v.drop) (by rw[ad];exact h.load) (hw.dim o ho);generalize fW w S.1 o v.drop=L at *;by_cases h3:L.2=true
   . rw[if_pos h3]at E |-
     by_cases h4:((dD w.x v).2 != 0)=true
     . rw[if_pos h4]at E;cases E
     rw[if_neg h4]at E |-;obtain⟨J,aa,O,af⟩:=hl;have hc:L.1.clocks.length<=2^p.visits:=by rw[aa,ac];exact h.clk
     have hd:=V2 w.x.net w.t L.1.place (dD w.x v).1.place L.1.clocks;have ag:=PY (dD w.x v).1 (bI w.x.net w.t L.1.place (dD w.x v).1.place L.1.clocks).1;refine⟨⟨⟨J.mem,J.board,Xah (zZ _ _) (by decide)⟩,Z,?_⟩,?_,X⟩
     . show(eC (dD w.x v).1 (bI w.x.net w.t L.1.place (dD w.x v).1.place L.1.clocks).1).length<=2^(L.1.visits+1)
       rw[O,I,Xbs];omega
     . show L.1.visits+1=_
       rw[O,I]
   . rw[if_neg h3]at E;cases E
 . rw[if_neg h2]at E;cases E
theorem Mp{w:Wk}{p:Part}{v:Visit}(h:w.most<=p.visits):(cH w p v).2=false:=by
 unfold cH;rw[if_pos (by simp;left;left;omega)]
def Sp(w:Wk)(p:Part)(n:Int):Int:=if(iR w p).2.2=true then W (n+1)else n
def countP(w:Wk)(vs:List Visit):Nat->Part->Int->Int
 | 0,p,n=>Sp w p n
 | f+1,p,n=>vs.foldl (fun n v=>if n>8192 then n else if(cH w p v).2=true then countP w vs f (cH w p v).1 n else n) (Sp w p n)
def YP(w:Wk)(vs:List Visit):Nat->Part->Int->Int
 | 0,_,n=>n
 | f+1,q,n=>countP w vs f q n
def nL(w:Wk)(vs:List Visit)(f:Nat)(p:Part)(n:Int)(v:Visit):Int:=if n>8192 then n else if(cH w p v).2=true then YP w vs f (cH w p v).1 n else n
theorem Zd{w:Wk}{vs:List Visit}{f:Nat}{p:Part}(h:w.most<=p.visits+f)(n:Int):countP w vs f p n=vs.foldl (nL w vs f p) (Sp w p n):=by
 cases f with
 | zero=>
   have:∀(l:List Visit) (m:Int),l.foldl (nL w vs 0 p) m=m:=by
     intro l;induction l with
     | nil=>intro m;rfl
     | cons v l ih=>
       intro m;rw[Xbg,ih];unfold nL;split
       . rfl
       . rw[if_neg (by rw[Mp (by omega)];simp)]
   rw[this];rfl
 | succ f=>rfl
theorem T1(w:Wk)(vs:List Visit)(f:Nat)(p:Part):∀(l:List Visit) (m:Int),m>8192->l.foldl (nL w vs f p) m=m
 | [],m,_=>rfl
 | v::l,m,h=>by
   rw[Xbg];have:nL w vs f p m v=m:=if_pos h;rw[this];exact T1 w vs f p l m h
abbrev wR(v:Visit):Row:=⟨97,2,[aK v]⟩
theorem Sk{α:Type}{l:List α}{k:Nat}{c:α}(h:l[k]?=some c):l=l.take k++c::l.drop (k+1):=by
 have:=(List.getElem?_eq_some_iff.1 h);obtain⟨E,rfl⟩:=this;rw[List.getElem_cons_drop,Xcz]
theorem MS{α E:Type}{g:E->α->E}{b:E}{l:List α}{k:Nat}{v:α}(h:l[k]?=some v):l.foldl g b=(l.drop (k+1)).foldl g (g ((l.take k).foldl g b) v):=by
 conv=>lhs;rw[Sk h,List.foldl_append]
 rfl
theorem GE{D:Nat}{w:Wk}(hw:WkB D w)(vs:List Visit)(av:∀v∈vs,VisOk w.x v)(ay:vs.length<=1048576)(jw:Nat)(f:Nat)
   (am:∀f',f=f'+1->∀(H0:aJ) (hj:H0 jw=some (nF w)) (p:Part) (n:Int) (h:PInv D p) (hf:w.most<=p.visits+f') (aq:p.visits<=16),LC prog 55 [.op jw 0 0,.agg (cC p),.sl (vs.map aK),int n] H0 (int (countP w vs f' p n)))
   (H0:aJ) (hj:H0 jw=some (nF w)) (p:Part) (n:Int) (h:PInv D p) (hf:w.most<=p.visits+f) (aq:p.visits<=16):
   LC prog 55 [.op jw 0 0,.agg (cC p),.sl (vs.map aK),int n] H0 (int (countP w vs f p n)):=by
 rw[Zd hf n];have ai:p.clocks.length<=1048576:=Xah h.clk (Xah (Xay (by decide) aq) (by decide));refine LC.body (c:=Tryz.f55.body.getD .skip) (fun _=>false) mixed Tryz.func55 rfl (by kernel_rfl) ?_;unfold Tryz.f55;simp only[gdS];simp only[go_sem];have U:=Sup.refl H0;refine LC.use (ajY _ jw w hj p hw.ok ai) ?_;simp only[go_sem];refine bH (fun Z H'=>Z 0=.op jw 0 0/\Z 2=.sl (vs.map aK)/\Z 5=.rp (cC p) 0/\Z 3=int (Sp w p n)/\Sup H0 H') ?_ fun K hK=>aB (fun hb=>?_) (fun hb=>?_)
 rotate_left
 . have e1:Sp w p n=W (n+1):=if_pos hb
   rw[e1]at hK;simp only[go_sem];refine hK _ _ ⟨by simp only[go_sem],by simp only[go_sem],by simp only[go_sem],(by simp only[go_sem];rfl),U⟩
 . have e1:Sp w p n=n:=if_neg (fun h=>Bool.noConfusion (hb.symm.trans h))
   rw[e1]at hK;refine hK _ _ ⟨by simp only[go_sem],by simp only[go_sem],by simp only[go_sem],by simp only[go_sem],U⟩
 rintro ρ H ⟨X,O,Y,J,U⟩;generalize Sp w p n=c0 at *;simp only[go_sem,X,O,Y,J,Xaa];refine⟨fun ρ H=>∃(k:Nat),k<=vs.length/\ρ 0=.op jw 0 0/\ρ 2=.sl (vs.map aK)/\ρ 5=.rp (cC p) 0/\ρ 26=.sl (vs.map aK)/\ρ 27=int (vs.length:Nat)/\ρ 28=int k/\ρ 3=int ((vs.take k).foldl (nL w vs f p) c0)/\Sup H0 H,fun ρ _=>vs.length-aX (ρ 28),⟨0,Xab _,by simp only[go_sem,X,O,Y,J],by simp only[go_sem,X,O,Y,J],by simp only[go_sem,X,O,Y,J],by simp only[go_sem,X,O,Y,J],by simp only[go_sem,Xaa,X,O,Y,J],(by simp only[go_sem,X,O,Y,J];rfl),by simp only[go_sem,J];rfl,U⟩,?_⟩;rintro ρ H ⟨k,hk,X,O,Y,I,E,F,J,U⟩;simp only[go_sem,X,O,Y,I,E,F,J];refine aB (fun ae=>?_) (fun ak=>?_)
 . have ae:=ltB (by simpa using ae)
   obtain⟨v,hv⟩:=aQ ae;have b1:=inB ae;have hs:=Sq.eY (f:=nL w vs f p) (b:=c0) hv;have ah:=MS (g:=nL w vs f p) (b:=c0) hv;generalize (vs.take k).foldl (nL w vs f p) c0=m at *;simp only[go_sem,X,O,Y,I,E,F,J,aH hv,b1];refine aN fun al ac=>?_
   simp only[go_sem,X,O,Y,I,E,F,J];refine aM (aA _ _ _) (by simp[cL]) ?_;have af:=U.none ac;generalize ab:aI (aI _ al _) al _=HGi13;replace U:=Sup.eq ((U.upd af _).upd af _) ab;have an:HGi13 al=some (wR v):=by rw[<-ab,aA];try rfl
   clear ab ac;simp only[go_sem,X,O,Y,I,E,F,J,an];refine aB (fun hb=>?_) (fun hb=>?_)
   . have hm:m>8192:=by simpa using hb
     have e1:nL w vs f p m v=m:=if_pos hm;rw[e1,T1 w vs f p _ m hm]at ah;simp only[go_sem,X,O,Y,I,E,F,J];rw[ah];exact rA.flat U _
   have hm:¬m>8192:=by simpa using hb
   have e1:nL w vs f p m v=if(cH w p v).2=true then YP w vs f (cH w p v).1 m else m:=if_neg hm;have ap:=av v (Xad hv);obtain⟨o,au,ho⟩:=ap.ex;have ar:v=⟨(o:Nat),v.drop⟩:=by rw[<-au]
   simp only[go_sem,X,O,Y,I,E,F,J,an];rw[ar];refine LC.use (YW _ jw w (U.at hj) p o v.drop ho hw.ok h.ok (by have:=hw.n;omega) (by rw[h.load,hw.dim o ho]) (by rw[h.load];exact hw.D) ai (by omega)) ?_;rw[<-ar];have aw:=CH hw h ap;generalize cH w p v=q at *;simp only[go_sem,X,O,Y,I,E,F,J];refine aN fun aj ag=>?_
   simp only[go_sem,X,O,Y,I,E,F,J];refine aM (aA _ _ _) (by simp[bV]) ?_;have ad:=U.none ag;generalize aa:aI (aI _ aj _) aj _=HGi14;replace U:=Sup.eq ((U.upd ad _).upd ad _) aa;have ao:HGi14 aj=some (fN q.1):=by rw[<-aa,aA];try rfl
   clear aa ag;simp only[go_sem,X,O,Y,I,E,F,J,ao];refine hU (fun Z H'=>Z 0=.op jw 0 0/\Z 2=.sl (vs.map aK)/\Z 5=.rp (cC p) 0/\Z 26=.sl (vs.map aK)/\Z 27=int (vs.length:Nat)/\Z 28=int k/\Z 3=int (nL w vs f p m v)/\Sup H0 H') ?_ fun K hK _ _=>aB (fun hb=>?_) (fun hb=>?_)
   rotate_left
   . rw[if_pos hb]at e1
     obtain⟨q1,q2,q3⟩:=aw hb;obtain⟨f',rfl⟩:∃f',f=f'+1:=⟨f-1,by omega⟩;simp only[go_sem,X,O,Y,I,E,F,J,ao];have ax:=hw.most;refine LC.use (am f' rfl _ (U.at hj) q.1 m q1 (by omega) (by omega)) ?_;simp only[go_sem,X,O,Y,I,E,F,J];exact hK _ _ ⟨by simp only[go_sem,X,O,Y,I,E,F,J],by simp only[go_sem,X,O,Y,I,E,F,J],by simp only[go_sem,X,O,Y,I,E,F,J],by simp only[go_sem,X,O,Y,I,E,F,J],by simp only[go_sem,X,O,Y,I,E,F,J],by simp only[go_sem,X,O,Y,I,E,F,J],by simp only[go_sem];rw[e1];rfl,U⟩
   . rw[if_neg (fun h=>Bool.noConfusion (hb.symm.trans h))]at e1
     simp only[go_sem];exact hK _ _ ⟨by simp only[go_sem,X,O,Y,I,E,F,J],by simp only[go_sem,X,O,Y,I,E,F,J],by simp only[go_sem,X,O,Y,I,E,F,J],by simp only[go_sem,X,O,Y,I,E,F,J],by simp only[go_sem,X,O,Y,I,E,F,J],by simp only[go_sem,X,O,Y,I,E,F,J],by simp only[go_sem,X,O,Y,I,E,F,J];rw[e1],U⟩
   rintro ρ H ⟨X,O,Y,I,E,F,J,U⟩;simp only[go_sem,X,O,Y,I,E,F,J,aS (show k<=4611686018427387904 by omega)];exact⟨⟨k+1,ae,rfl,by rw[hs],U⟩,by simp only[aG];omega⟩
 have ak:=geB hk (by simpa using ak);subst ak;rw[Xaf]at J;simp only[go_sem,X,O,Y,I,E,F,J];exact rA.flat U _
theorem Um{D:Nat}{w:Wk}(J:WkB D w)(vs:List Visit)(E:∀v∈vs,VisOk w.x v)(F:vs.length<=1048576)(jw:Nat):∀(f:Nat) (H0:aJ) (hj:H0 jw=some (nF w)) (p:Part) (n:Int) (h:PInv D p) (hf:w.most<=p.visits+f) (hpv:p.visits<=16),
   LC prog 55 [.op jw 0 0,.agg (cC p),.sl (vs.map aK),int n] H0 (int (countP w vs f p n))
 | 0=>GE J vs E F jw 0 (fun I e=>by omega)
 | f + 1 => GE J vs E F jw (f + 1) (fun I e => by
     obtain rfl:I=f:=by omega
     exact Um J vs E F jw I)
structure XB(D:Nat)(x:Instance):Prop where
 net:NetOk x.net
 dim:∀o,o<x.orders.length->(aF x o).load.length=D
 cap:∀k,k<x.types.length->(aC x k).cap.length=D
 D:D<=1048576
 n:x.orders.length<=8
 types:x.types.length<=1048576
theorem Nb{D:Nat}{x:Instance}(h:XB D x):(dV x).length<=16:=by
 have:=BZ x x.orders.length;have E:=h.n;unfold dV;omega
theorem Tq(x:Instance):∀v∈dV x,VisOk x v:=by
 intro v E;unfold dV at E;rw[Xbo]at E;obtain⟨i,hi,E⟩:=E;have hi:=Xap.1 hi;split at E
 . simp at E
 . refine⟨i,?_,hi⟩
   unfold Sq.eM at E;split at E
   . simp at E
   . split at E
     . unfold Sq.iU at E
       simp only[Xaq]at E;rcases E with E|E
       . split at E
         . simp at E;rw[E]
         . simp at E
       . split at E
         . simp at E;rw[E]
         . simp at E
     . simp at E
theorem aeT{n:Nat}{near:List Int}(X:n<=62)(I:near.length<=62)(h:∀i,i<near.length->qE n near i=false):NearB near:=by
 refine⟨I,fun a O=>?_⟩;obtain⟨i,hi,rfl⟩:=List.getElem_of_mem O;have:=h i hi;unfold qE at this;rw[List.getD,List.getElem?_eq_getElem hi,Xcm,Sq.A1 (by omega)]at this;simp only[Xai,decide_eq_false_iff_not]at this;obtain⟨⟨h1,h2⟩,E⟩:=this;have E:near[i]/2^n=0:=by simpa using E
 have Z:near[i]<2^n:=by
   have J:(0:Int)<2^n:=Int.pow_pos (by decide);have F:=Int.emod_add_mul_ediv near[i] (2^n);have Y:=Int.emod_lt_of_pos near[i] J;rw[E]at F;omega
 have F:(2:Int)^n<=2^62:=by
   have:=Xay (show 0<2 by decide) X
   exact_mod_cast this
 exact⟨by omega,by omega⟩
theorem Xi{D:Nat}{x:Instance}{kind:Nat}{near:List Int}(h:XB D x)(F:jM x (kind:Nat) near=false)(dual:Option (List ByteArray))(I:∀l,dual=some l->l.length=x.orders.length/\∀a∈l,a.size<=1048576):
   WkB D { lS x kind near with dual:=dual }/\(aC x kind).cap.length=D:=by
 obtain⟨h1,O⟩:=Ah F;have J:kind<x.types.length:=by simp at h1;omega
 have E:near.length=x.orders.length:=by simp at h1;omega
 have Y:=h.n;have X:=h.types;refine⟨⟨⟨h.net,aeT (n:=x.orders.length) (by omega) (by show near.length<=62;omega) O,E,?_,I⟩,h.dim,h.D,?_,Nb h⟩,h.cap kind J⟩
 . show kind<_;omega
 . show x.orders.length<=62;omega
theorem Hj{D:Nat}{w:Wk}(h:w.t.cap.length=D):PInv D (fC w):=by
 refine⟨⟨by show 0<2^62;decide,by show 0<2^62;decide,?_⟩,?_,Xag 1⟩
 . exact Xah (tL Q4) (by decide)
 . show(List.replicate w.t.cap.length (0:Int)).length=D
   rw[Xcj,h]
def Cx(x:Instance)(kind:Int)(near:List Int):Int×Int:=
 if jM x kind near=true then(0,2)
 else if countP (lS x kind.toNat near) (dV x) (dV x).length (fC (lS x kind.toNat near)) 0>8192 then(0,4)
 else(countP (lS x kind.toNat near) (dV x) (dV x).length (fC (lS x kind.toNat near)) 0,0)
theorem aaO{D:Nat}(x:Instance)(h:XB D x)(kind:Int)(near:List Int)(O:near.length<=1048576):
   PC prog 21 [.agg (aL x),int kind,.sl (near.map aR)] (.tup [int (Cx x kind near).1,int (Cx x kind near).2]):=by
 have Y:x.orders.length<=1048576:=by have:=h.n;omega
 have E:Cx x kind near=if jM x kind near=true then(0,2)
   else if countP (lS x kind.toNat near) (dV x) (dV x).length (fC (lS x kind.toNat near)) 0>8192 then(0,4)
   else(countP (lS x kind.toNat near) (dV x) (dV x).length (fC (lS x kind.toNat near)) 0,0):=rfl
 generalize Cx x kind near=R at E;refine pcd Tryz.func21 ?_;unfold Tryz.f21;simp only[gdS];simp only[go_sem];by_cases I:jM x kind near=true
 . rw[if_pos I]at E
   subst E;refine PC.use (Mb x kind near Y O I) ?_;simp only[go_sem];refine aB (fun F=>?_) (fun F=>nomatch F);simp only[go_sem];exact .refl _
 rw[if_neg I]at E;have I:jM x kind near=false:=by simpa using I
 obtain⟨k,rfl⟩:∃k:Nat,kind=(k:Nat):=by
   have:=(Ah I).1;simp at this;exact⟨kind.toNat,by omega⟩
 rw[Xan]at E;obtain⟨hw,J⟩:=Xi h I none (fun l e=>by cases e);have X:({ lS x k near with dual:=none }:Wk)=lS x k near:=rfl;rw[X]at hw;refine NC.use (Z2 x k near Y O I) fun jw aa=>?_
 have Z:aI bS jw (some (nF (lS x k near))) jw=some (nF (lS x k near)):=aA _ _ _;generalize aI bS jw _=H at Z |-;simp only[go_sem];refine aB (fun F=>nomatch F) (fun F=>?_);simp only[go_sem];refine lO [(0,true),(1,true),(3,true),(2,false),(4,false),(5,false),(6,true)] (by kernel_rfl) ?_;simp only[go_sem];refine LC.use (Uu _ jw _ Z (by show(aC x k).cap.length<=_;rw[J];exact h.D)) ?_;simp only[go_sem];refine PC.use (ZU x Y) ?_;simp only[go_sem];have ab:=Nb h;refine LC.use (Um hw (dV x) (Tq x) (by omega) jw (dV x).length H Z (fC (lS x k near)) 0 (Hj J) (by show(dV x).length<=_;omega) (by show 0<=16;omega)) ?_;generalize countP (lS x k near) (dV x) (dV x).length (fC (lS x k near)) 0=N at *;simp only[go_sem];refine aB (fun F=>?_) (fun F=>?_)
 . rw[if_pos (by simpa using F)]at E
   subst E;simp only[go_sem];exact .refl _
 . rw[if_neg (by simpa using F)]at E
   subst E;simp only[go_sem];exact .refl _
end Go.Proofs.YtdlijlecpopadaaGreatDoor.Rx
end
