import Derived.Test.YthephioccidfgaaGreatDoorVs15
set_option linter.unusedSimpArgs false
set_option linter.unusedVariables false
set_option linter.defProp false
set_option maxRecDepth 100000
namespace Go.Proofs.YthephioccidfgaaGreatDoor
open Go.Aw Go.Aw.D Go.Proofs Ty
namespace Nu
open Go.Proofs.Tryz
open Go.Nu
open Dec (iS dR cN mG)
abbrev LS:Row:=⟨108,2,[[.sl [],.sl []]]⟩
structure BldS(H:aG)(i8 i11 jc jr:Nat)(f:Nat->Nat)(cost:List Int)(rows:List PRow):Prop where
 r8:H i8=some LS
 p:H i11=some (Ir jc jr)
 c:H jc=some (iG cost)
 lin:LinH H jr f rows
 fc:∀i,i<rows.length->f i≠jc
 ne:i8≠i11
def LinH.mono{H H':aG}{jr:Nat}{f:Nat->Nat}{rows:List PRow}(h:LinH H jr f rows)(A:∀k row,H k=some row->H' k=some row):LinH H' jr f rows:=
 ⟨A _ _ h.row,fun i r E=>A _ _ (h.coef i r E),h.inj⟩
def BldS.mono{H H':aG}{i8 i11 jc jr:Nat}{f:Nat->Nat}{cost:List Int}{rows:List PRow}(h:BldS H i8 i11 jc jr f cost rows)(A:∀k row,H k=some row->H' k=some row):BldS H' i8 i11 jc jr f cost rows:=
 ⟨A _ _ h.r8,A _ _ h.p,A _ _ h.c,h.lin.mono A,h.fc,h.ne⟩
def J0{H:aG}{i:Nat}(E:H i=none)(a:Option Row):∀k row,H k=some row->aH H i a k=some row:=fun k row A=>by rw[aD _ _ _ _ (fun e=>by subst e;rw[E]at A;cases A)];exact A
def C4{H:aG}{i:Nat}(E:H i=none)(a b:Option Row):∀k row,H k=some row->aH (aH H i a) i b k=some row:=fun k row A=>by rw[aD _ _ _ _ (fun e=>by subst e;rw[E]at A;cases A)];exact J0 E a k row A
def BldS.add{H J:aG}{i8 i11 jc jr:Nat}{f:Nat->Nat}{cost:List Int}{rows:List PRow}(h:BldS H i8 i11 jc jr f cost rows){jc':Nat}{f':Nat->Nat}{A:List Int}{E:List PRow}{k:Nat}
  (S:AddS H J i11 jc jr f rows.length jc' f' A E k):BldS J i8 i11 jc' jr f' A E:=by
 refine⟨S.keep i8 _ h.ne (fun e=>?_) (fun e=>?_) (fun i T e=>?_) h.r8,S.p,S.c,S.lin,S.fc,h.ne⟩
 ·have h1:=h.r8;rw[e,h.c]at h1;have F:(iG cost).e=LS.e:=congrArg Row.e (Option.some.inj h1);exact absurd (show(3:Nat)=108 from F) (by decide)
 ·have h1:=h.r8;rw[e,h.lin.row]at h1;have F:(Bb f rows).e=LS.e:=congrArg Row.e (Option.some.inj h1);exact absurd (show(153:Nat)=108 from F) (by decide)
 ·have h1:=h.r8;obtain⟨r,O⟩:=aI T;rw[e,h.lin.coef i r O]at h1;have F:(iG r.coef).e=LS.e:=congrArg Row.e (Option.some.inj h1);exact absurd (show(3:Nat)=108 from F) (by decide)
def kR(p:List Int×List PRow)(cost:Int)(col:List Int):List Int×List PRow:=(p.1++[cost],rU p.2 col col.length)
def lU(x:Instance)(o:Int)(n k:Nat):List Int:=((dI x).take k).map (fun i=>uF (i == o))++List.replicate (n-k) 0
def fX(x:Instance)(o:Int)(n:Nat):List Int:=(dI x).map (fun i=>uF (i == o))++List.replicate (n-(dI x).length) 0
def lD(x:Instance)(o:Int):Int:=(fV (bH x o).1).1
def Ed(x:Instance)(cuts:List Cut)(ds:List Decision)(l:List Column):List Int×List PRow:=l.foldl (fun s c=>kR s c.price (gG x c cuts ds)) ([],jO x cuts ds)
def Eg(x:Instance)(n:Nat)(s0:List Int×List PRow)(l:List Int):List Int×List PRow:=l.foldl (fun s o=>kR s (lD x o) (fX x o n)) s0
def cU(x:Instance)(d:Nat)(cols:List Column)(cuts:List Cut)(ds:List Decision):PLin×Int:=
 if Cq x d cols cuts ds≠0 then(⟨[],[]⟩,Cq x d cols cuts ds)
 else if eH x cuts ds>64\/(inM cols ds).length+(gI x ds).length>8192 then(⟨[],[]⟩,4)
 else(⟨(Eg x (eH x cuts ds) (Ed x cuts ds (inM cols ds)) (gI x ds)).1,(Eg x (eH x cuts ds) (Ed x cuts ds (inM cols ds)) (gI x ds)).2⟩,0)
def yA(p:List Int×List PRow)(cost:Int)(A:List Int):(kR p cost A).2.length=p.2.length/\(kR p cost A).1.length=p.1.length+1:=by unfold kR;exact⟨mQ _ _ _,by simp⟩
def Sz(p:List Int×List PRow)(n k:Nat):Prop:=p.1.length=k/\p.2.length=n/\∀r∈p.2,r.coef.length=k
def Sz.add{p:List Int×List PRow}{n k:Nat}(h:Sz p n k)(cost:Int){A:List Int}(T:A.length=n):Sz (kR p cost A) n (k+1):=by obtain⟨h1,J,h3⟩:=h;refine⟨by rw[(yA p cost A).2,h1],by rw[(yA p cost A).1,J],fun r O=>?_⟩;obtain⟨i,F,rfl⟩:=List.getElem_of_mem O;have E:=List.getElem?_eq_getElem F;unfold kR at E F;rw[Ah]at E;rw[mQ]at F;rw[if_pos (by omega),List.getElem?_eq_getElem (by omega)]at E;have:(kR p cost A).2[i]=BP (p.2[i]'(by omega)) (A.getD i 0):=(Option.some.inj E).symm;rw[this];unfold BP;rw[Xaf,h3 _ (List.getElem_mem _)];rfl
def TD(x:Instance)(cuts:List Cut)(ds:List Decision):Sz ([],jO x cuts ds) (eH x cuts ds) 0:=by
 refine⟨rfl,qC x cuts ds,fun r A=>?_⟩;unfold jO sA qL sB qT at A;simp only[Xat,Xan,List.mem_filterMap]at A;rcases A with((h|⟨t,_,rfl⟩)|⟨t,_,rfl⟩)|⟨t,_,h⟩
 ·rw[List.eq_of_mem_replicate h];rfl
 ·rfl
 ·rfl
 ·unfold Iv at h;split at h
  ·cases h;rfl
  ·split at h
   ·cases h;rfl
   ·cases h
def Gd{x:Instance}{cuts:List Cut}{ds:List Decision}{l:List Column}{k:Nat}{c:Column}(h:l[k]?=some c):Ed x cuts ds (l.take (k+1))=kR (Ed x cuts ds (l.take k)) c.price (gG x c cuts ds):=by unfold Ed;rw[aZ h,Xbq];rfl
def GK{x:Instance}{n:Nat}{s0:List Int×List PRow}{l:List Int}{k:Nat}{o:Int}(h:l[k]?=some o):Eg x n s0 (l.take (k+1))=kR (Eg x n s0 (l.take k)) (lD x o) (fX x o n):=by unfold Eg;rw[aZ h,Xbq];rfl
def I0(x:Instance)(cuts:List Cut)(ds:List Decision)(l:List Column):∀k,k<=l.length->Sz (Ed x cuts ds (l.take k)) (eH x cuts ds) k
 | 0,_=>TD x cuts ds
 | k+1,hk=>by obtain⟨c,A⟩:=aI (show k<l.length by omega);rw[Gd A];exact(I0 x cuts ds l k (by omega)).add _ (pM x c cuts ds)
def qJ(x:Instance)(o:Int){n:Nat}(h:(dI x).length<=n):(fX x o n).length=n:=by unfold fX;rw[Xaf,Xaa,Xbw];omega
def P9(x:Instance){n m:Nat}{s0:List Int×List PRow}(A:(dI x).length<=n)(h0:Sz s0 n m)(l:List Int):∀k,k<=l.length->Sz (Eg x n s0 (l.take k)) n (m+k)
 | 0,_=>h0
 | k+1,hk=>by obtain⟨c,E⟩:=aI (show k<l.length by omega);rw[GK E];exact(P9 x A h0 l k (by omega)).add _ (qJ x c A)
def abU{H:aG}(f:Nat->Nat)(rows:List PRow)(h:∀(i:Nat) (r:PRow),rows[i]?=some r->H (f i)=some (iG r.coef)):ConvE H (rows.mapIdx (pF f)) (rows.map mE):=by
 induction rows generalizing f with
 | nil=>exact .nil
 | cons r l ih=>rw[List.mapIdx_cons,Xaq];refine .cons _ _ _ _ (.cons _ _ _ _ (.row _ _ _ (h 0 r rfl) (ConvE.refl _)) (ConvL.refl _)) ?_;exact ih (fun i=>f (i+1)) fun i r2 A=>h (i+1) r2 (by rw[List.getElem?_cons_succ];exact A)
def VB{x:Instance}{d:Nat}{cols:List Column}{cuts:List Cut}{ds:List Decision}(h:Cq x d cols cuts ds=0):iS x ds=0/\(∀q∈cuts,lG x d q=0)/\∀c∈cols,Kh x c=false:=by
 unfold Cq at h;split at h
 ·next h1=>exact absurd h h1
 next h1=>
 split at h
 ·next A=>exact absurd h A
 next A=>
 split at h
 ·cases h
 next h3=>
 refine⟨by simpa using h1,fun q J=>Dec.mT (by simpa using A) _ (Xan.2 ⟨q,J,rfl⟩),fun c E=>?_⟩;exact Xbz.2 fun F=>h3 (Xak.2 ⟨c,E,F⟩)
def U6{x:Instance}{d:Nat}{q:Cut}(h:lG x d q=0):0<=q.set:=by
 unfold lG wM at h;refine Decidable.byContradiction fun A=>?_
 rw[decide_eq_false (show ¬q.set>=0 by omega)]at h;simp at h;split at h
 ·cases h
 ·split at h
  ·cases h
  ·cases h
def aiA{x:Instance}{c:Column}(h:Kh x c=false):0<c.set:=by unfold Kh at h;simp only[Xam,decide_eq_false_iff_not]at h;omega
def Dc{α:Type}(a b:α)(R:List α):∀A:List α,(A++a::R).set A.length b=A++b::R
 | []=>rfl
 | c::A=>by rw[List.cons_append,Xag,List.set_cons_succ,Dc a b R A];rfl
def TJ{x:Instance}{o:Int}{n k:Nat}{i:Int}(h:(dI x)[k]?=some i)(E:k<n):lU x o n (k+1)=(lU x o n k).set k (uF (i == o)):=by have A:=(List.getElem?_eq_some_iff.1 h).1;unfold lU;rw[aZ h,Xaw,show n-k=(n-(k+1))+1 by omega,List.replicate_succ,Xbk];have:=Dc (0:Int) (uF (i == o)) (List.replicate (n-(k+1)) 0) (((dI x).take k).map fun i=>uF (i == o));rw[Xaa,Xav,show min k (dI x).length=k by omega]at this;rw[this];rfl
def Wa{x:Instance}{o:Int}{n k:Nat}(h:k<=(dI x).length)(A:(dI x).length<=n):(lU x o n k).length=n:=by unfold lU;rw[Xaf,Xaa,Xav,Xbw];omega
def ajI(H:aG)(i:Nat)(a:Option Row)(h:H i=none):aH (aH H i a) i none=H:=by
 funext k;by_cases e:k=i
 ·subst e;rw[aB,h]
 ·rw[aD _ _ _ _ e,aD _ _ _ _ e]
def atP(H:aG)(i:Nat)(a b:Option Row):aH (aH H i a) i b=aH H i b:=by
 funext k;by_cases e:k=i
 ·subst e;rw[aB,aB]
 ·rw[aD _ _ _ _ e,aD _ _ _ _ e,aD _ _ _ _ e]
def auJ(x:Instance)(d:Nat)(cols:List Column)(cuts:List Cut)(ds:List Decision)(bf:LoadsOk x d)(bd:x.types≠[])(h:MIn x cuts ds)(hl:cols.length<=1048576)(hs:∀c∈cols,c.set<=9223372036854775807)(hq:∀q∈cuts,q.set<=9223372036854775807):
  PC prog 39 [.agg (aE x),.sl (cols.map bO),.sl (cuts.map fZ),.sl (ds.map aP)] (.tup [.agg (kA (cU x d cols cuts ds).1),int (cU x d cols cuts ds).2]):=by
 have h1:=h.orders;have h2:=h.types;have h3:=h.cl;have h4:=h.dl;have bu:=Kc x;refine pcb (fun t=>t == 39) func39 rfl rfl ?_;simp only[go_sem];refine aJ fun i8 h8=>?_
 have R8:=aB bY i8 (some LS);generalize aH bY i8 _=HGi8 at R8 |-;clear h8;simp only[go_sem];refine aO (auD x d cols cuts ds bf bd h hl hs) ?_;unfold cU;simp only[go_sem];refine aA (fun hb=>?_) (fun hb=>?_)
 ·rw[if_pos (by simpa using hb)];simp only[go_sem];refine aM R8 (by simp) ?_;simp only[go_sem];exact .refl _
 rw[if_neg (by simpa using hb)];simp only[go_sem];refine auC x cuts ds h _ _ fun jr f H1 S=>?_
 have R8:=S.keep i8 _ R8;have Sl:=S.lin;have br:=qC x cuts ds;simp only[go_sem];refine aJ fun ia ha=>?_
 refine aJ fun ib a8=>?_
 refine aJ fun i11 ax=>?_
 simp only[go_sem];refine aM (aB _ _ _) (by simp) ?_;have B:BldS (aH (aH (aH (aH H1 ia (some (⟨3,1,[]⟩:Row))) ib (some ⟨153,3,[]⟩)) i11 (some LS)) i11 (some (Ir ia jr))) i8 i11 ia jr f [] (jO x cuts ds):=by
  have m1:=J0 ha (some (⟨3,1,[]⟩:Row));have m2:=J0 a8 (some (⟨153,3,[]⟩:Row));have m3:=C4 ax (some LS) (some (Ir ia jr));refine⟨m3 _ _ (m2 _ _ (m1 _ _ R8)),aB _ _ _,m3 _ _ (m2 _ _ (aB _ _ _)),((Sl.mono m1).mono m2).mono m3,fun i hi e=>?_,fun e=>?_⟩
  ·obtain⟨r,hr⟩:=aI hi;have:=Sl.coef i r hr;rw[e,ha]at this;cases this
  ·have:=m2 _ _ (m1 _ _ R8);rw[e,ax]at this;cases this
 generalize hG:aH (aH (aH (aH H1 ia _) ib _) i11 _) i11 _=G;replace B:BldS G i8 i11 ia jr f [] (jO x cuts ds):=by rw[<-hG];exact B
 clear hG ax a8 ha Sl R8 S;simp only[go_sem];refine aO (F0 cols ds hl h4) ?_;simp only[go_sem];refine aO (auP x ds h1 h4) ?_;have bz:(inM cols ds).length<=cols.length:=List.length_filter_le _ _;have bt:(gI x ds).length<=(dI x).length:=List.length_filter_le _ _;have bj:∀c∈inM cols ds,c∈cols:=fun c hc=>(Xbg.1 hc).1
 obtain⟨_,bm,bg⟩:=VB (show Cq x d cols cuts ds=0 by simpa using hb);have bq:CutsB cuts:=⟨fun q a5=>⟨U6 (bm q a5),hq q a5⟩⟩;have bx:∀o∈gI x ds,o∈dI x:=fun o ho=>(Xbg.1 ho).1
 generalize inM cols ds=L at *;generalize gI x ds=K at *;have w:IntKind.i64.wrap ((L.length:Int)+(K.length:Int))=((L.length+K.length:Nat):Int):=by rw[bD (by omega)];omega
 simp only[go_sem,B.p,B.lin.row,List.length_mapIdx,Xaa,br,w];refine aA (fun hb=>?_) (fun hb=>?_)
 ·rw[if_pos (by simp at hb;omega)];simp only[go_sem];refine aM B.r8 (by simp) ?_;simp only[go_sem];exact .refl _
 have b0:eH x cuts ds<=64/\L.length+K.length<=8192:=by simp at hb;omega
 rw[if_neg (by omega)];have ay:(dI x).length<=eH x cuts ds:=by unfold eH;omega
 simp only[go_sem];refine⟨fun ρ H=>∃(k:Nat) (jc:Nat) (f:Nat->Nat),k<=L.length/\ρ 2=.sl (cuts.map fZ)/\ρ 3=.sl (ds.map aP)/\ρ 4=.rp (aE x) 0/\ρ 8=.op i8 0 0/\ρ 11=.op i11 0 0/\ρ 12=.sl (K.map aQ)/\ρ 13=.fn 64 [.op i11 0 0]/\ρ 60=.sl (L.map bO)/\ρ 61=int (L.length:Nat)/\ρ 62=int k/\BldS H i8 i11 jc jr f (Ed x cuts ds (L.take k)).1 (Ed x cuts ds (L.take k)).2,fun ρ _=>L.length-aU (ρ 62),⟨0,ia,f,Xab _,by simp only[go_sem],by simp only[go_sem],by simp only[go_sem],by simp only[go_sem],by simp only[go_sem],by simp only[go_sem],by simp only[go_sem],by simp only[go_sem],by simp only[go_sem,Xaa],(by simp only[go_sem];rfl),B⟩,?_⟩;rintro ρ H ⟨k,jc,f,hk,e2,e3,X,Y,A,af,E,ae,ac,ah,B⟩;simp only[go_sem,e2,e3,X,Y,A,af,E,ae,ac,ah];refine aA (fun aa=>?_) (fun ag=>?_)
 ·have aa:=ltB (by simpa using aa);obtain⟨c,hc⟩:=aI aa;have b1:=inB aa;have a4:=bj c (Xac hc);have hz:=I0 x cuts ds L k (by omega);have aw:=Gd (x:=x) (cuts:=cuts) (ds:=ds) hc;generalize Ed x cuts ds (L.take k)=p at *;simp only[go_sem,e2,e3,X,Y,A,af,E,ae,ac,ah,aC hc,b1];refine aJ fun ap aq=>?_
  simp only[go_sem,e2,e3,X,Y,A,af,E,ae,ac,ah];refine aM (aB _ _ _) (by simp[gF]) ?_;have B1:=B.mono (C4 aq (some (⟨156,7,[[int 0,int 0,int 0,int 0,int 0,.sl [],.sl []]]⟩:Row)) (some (⟨156,7,[bO c]⟩:Row)));generalize hG:aH (aH H ap _) ap _=HG;replace B1:BldS HG i8 i11 jc jr f p.1 p.2:=by rw[<-hG];exact B1
  have bb:HG ap=some (⟨156,7,[bO c]⟩:Row):=by rw[<-hG,aB];rfl
  have a7:∀q row,H q=some row->q≠ap/\HG q=some row:=fun q row am=>⟨(fun e=>by subst e;rw[aq]at am;cases am),(by rw[<-hG];exact C4 aq _ _ q row am)⟩
  clear hG aq;simp only[go_sem,e2,e3,X,Y,A,af,E,ae,ac,ah];refine jI [ap] [(0,true),(1,true),(2,true),(3,true),(4,true),(5,true),(6,true),(7,false),(8,false)] (by simp[bb]) (by kernel_rfl) fun Hp Hr hp bn _ bv=>?_
  have Pp:=(hp ap (by simp)).trans bb;simp only[go_sem,e2,e3,X,Y,A,af,E,ae,ac,ah,Pp];refine aO (auI x c cuts ds h ⟨by have:=aiA (bg c a4);omega,hs c a4⟩ bq) ?_;have B2:BldS Hr i8 i11 jc jr f p.1 p.2:=B.mono fun q row am=>(bn q (by simpa using(a7 q row am).1)).trans (a7 q row am).2
  have av:=pM x c cuts ds;generalize gG x c cuts ds=C at *;simp only[go_sem,e2,e3,X,Y,A,af,E,ae,ac,ah];refine axI c.price C i11 jc jr f p.1 p.2 Hr _ B2.p B2.c B2.lin B2.fc (by rw[av,hz.2.1]) (by omega) (by rw[hz.1];omega) (fun r hr=>by rw[hz.2.2 r hr];omega) fun a jc' f' Hn S=>?_
  have B3:=B2.add S;simp only[go_sem,e2,e3,X,Y,A,af,E,ae,ac,ah];refine fF fun hd Hm _ bo=>?_
  have B4:BldS Hm i8 i11 jc' jr f' (p.1++[c.price]) (rU p.2 C C.length):=B3.mono fun q row am=>by
   have:q≠ap:=fun e=>by subst e;rw[hd q (by simp)]at am;cases am
   rw[bo q (by simpa using this)];exact am
  simp only[go_sem,e2,e3,X,Y,A,af,E,ae,ac,ah,aW k];refine⟨⟨k+1,jc',f',aa,rfl,?_⟩,by simp only[aN];omega⟩;rw[aw];exact B4
 have ag:=geB hk (by simpa using ag);subst ag;rw[Xad]at B;have hz:=I0 x cuts ds L L.length (Xae _);rw[Xad]at hz;generalize Ed x cuts ds L=s1 at *;simp only[go_sem,e2,e3,X,Y,A,af,E,ae,ac,ah];refine aO (S4 x h1) ?_;simp only[go_sem,e2,e3,X,Y,A,af,E,ae,ac,ah];refine aO (lL _) ?_;rw[Pf x h1];simp only[go_sem,e2,e3,X,Y,A,af,E,ae,ac,ah,Xaa];refine⟨fun ρ H=>∃(k:Nat) (jc:Nat) (f:Nat->Nat),k<=K.length/\ρ 4=.rp (aE x) 0/\ρ 8=.op i8 0 0/\ρ 11=.op i11 0 0/\ρ 13=.fn 64 [.op i11 0 0]/\ρ 16=.sl ((dI x).map aQ)/\ρ 79=.sl (K.map aQ)/\ρ 80=int (K.length:Nat)/\ρ 81=int k/\BldS H i8 i11 jc jr f (Eg x (eH x cuts ds) s1 (K.take k)).1 (Eg x (eH x cuts ds) s1 (K.take k)).2,fun ρ _=>K.length-aU (ρ 81),⟨0,jc,f,Xab _,by simp only[go_sem,X,Y,A,E],by simp only[go_sem,X,Y,A,E],by simp only[go_sem,X,Y,A,E],by simp only[go_sem,X,Y,A,E],by simp only[go_sem,X,Y,A,E],by simp only[go_sem,X,Y,A,E],by simp only[go_sem,Xaa,X,Y,A,E],(by simp only[go_sem,X,Y,A,E];rfl),B⟩,?_⟩;rintro ρ H ⟨k,jc,f,hk,X,Y,A,E,J,T,O,F,B⟩;simp only[go_sem,X,Y,A,E,J,T,O,F];refine aA (fun aa=>?_) (fun ag=>?_)
 ·have aa:=ltB (by simpa using aa);obtain⟨o,ho⟩:=aI aa;have b1:=inB aa;have ar:=P9 x ay hz K k (by omega);have aw:=GK (x:=x) (n:=eH x cuts ds) (s0:=s1) ho;generalize Eg x (eH x cuts ds) s1 (K.take k)=p at *;simp only[go_sem,X,Y,A,E,J,T,O,F,aC ho,b1,B.p,B.lin.row,List.length_mapIdx,ar.2.1];refine⟨by omega,aJ fun Z a6=>?_⟩;have a9:aH H Z (some (⟨3,1,List.replicate (eH x cuts ds) [int 0]⟩:Row)) Z=some (iG (lU x o (eH x cuts ds) 0)):=by rw[aB];exact congrArg (fun l=>some (⟨3,1,l⟩:Row)) (by unfold lU;rw[List.take_zero,List.map_nil,Xbn,Nat.sub_zero,List.map_replicate];rfl)
  have B1:BldS (aH (aH H Z (some (⟨3,1,List.replicate (eH x cuts ds) [int 0]⟩:Row))) Z none) i8 i11 jc jr f p.1 p.2:=by rw[ajI _ _ _ a6];exact B
  generalize aH H Z (some _)=HG at a9 B1 |-;generalize bw:eH x cuts ds=N at *;clear a6;simp only[go_sem,X,Y,A,E,J,T,O,F,Xaa];generalize k=k0 at *;refine⟨fun ρ H=>∃(k:Nat),k<=(dI x).length/\ρ 4=.rp (aE x) 0/\ρ 8=.op i8 0 0/\ρ 11=.op i11 0 0/\ρ 13=.fn 64 [.op i11 0 0]/\ρ 16=.sl ((dI x).map aQ)/\ρ 18=int o/\ρ 19=.os Z/\ρ 79=.sl (K.map aQ)/\ρ 80=int (K.length:Nat)/\ρ 81=int (k0:Nat)/\ρ 89=.sl ((dI x).map aQ)/\ρ 90=int ((dI x).length:Nat)/\ρ 91=int k/\H Z=some (iG (lU x o N k))/\BldS (aH H Z none) i8 i11 jc jr f p.1 p.2,fun ρ _=>(dI x).length-aU (ρ 91),⟨0,Xab _,by simp only[go_sem,X,Y,A,E,J,T,O,F],by simp only[go_sem,X,Y,A,E,J,T,O,F],by simp only[go_sem,X,Y,A,E,J,T,O,F],by simp only[go_sem,X,Y,A,E,J,T,O,F],by simp only[go_sem,X,Y,A,E,J,T,O,F],by simp only[go_sem,X,Y,A,E,J,T,O,F],by simp only[go_sem,X,Y,A,E,J,T,O,F],by simp only[go_sem,X,Y,A,E,J,T,O,F],by simp only[go_sem,X,Y,A,E,J,T,O,F],by simp only[go_sem,X,Y,A,E,J,T,O,F],by simp only[go_sem,X,Y,A,E,J,T,O,F],by simp only[go_sem,Xaa,X,Y,A,E,J,T,O,F],(by simp only[go_sem,X,Y,A,E,J,T,O,F];rfl),a9,B1⟩,?_⟩;rintro ρ H ⟨k,hk,X,Y,A,E,J,al,ai,T,O,F,an,aj,ak,R,B⟩;simp only[go_sem,X,Y,A,E,J,al,ai,T,O,F,an,aj,ak];refine aA (fun aa=>?_) (fun ag=>?_)
  ·have aa:=ltB (by simpa using aa);obtain⟨i,hi⟩:=aI aa;have b2:=inB aa;have b3:=Wa (x:=x) (o:=o) hk ay;simp only[go_sem,X,Y,A,E,J,al,ai,T,O,F,an,aj,ak,aC hi,b2];refine aO (Zg _) ?_;simp only[go_sem,X,Y,A,E,J,al,ai,T,O,F,an,aj,ak,R,Xaa];have a0:((lU x o N k).map aQ).set k (oY (((lU x o N k).map aQ).getD k []) 0 [int (uF (i == o))])=(lU x o N (k+1)).map aQ:=by obtain⟨v,hv⟩:=aI (l:=lU x o N k) (k:=k) (by omega);rw[aC hv,TJ hi (by omega),List.map_set];rfl
   refine⟨by omega,cC so3 R ⟨by rw[Xaa];omega,rfl,by simp⟩ ?_⟩;have R2:aH H Z (some (⟨3,1,((lU x o N k).map aQ).set k (oY (((lU x o N k).map aQ).getD k []) 0 [int (uF (i == o))])⟩:Row)) Z=some (iG (lU x o N (k+1))):=by rw[aB,a0]
   have B2:BldS (aH (aH H Z (some (⟨3,1,((lU x o N k).map aQ).set k (oY (((lU x o N k).map aQ).getD k []) 0 [int (uF (i == o))])⟩:Row))) Z none) i8 i11 jc jr f p.1 p.2:=by rw[atP];exact B
   simp only[go_sem,X,Y,A,E,J,al,ai,T,O,F,an,aj,ak,aW k];exact⟨⟨k+1,aa,rfl,(aB _ _ _).symm.trans R2,B2⟩,by simp only[aN];omega⟩
  have ag:=geB hk (by simpa using ag);subst ag;have bc:lU x o N (dI x).length=fX x o N:=by unfold lU fX;rw[Xad]
  rw[bc]at R;have av:=qJ x o ay;generalize fX x o N=C at *;simp only[go_sem,X,Y,A,E,J,al,ai,T,O,F,an,aj,ak];refine aO (HL x o) ?_;have bi:(fV (bH x o).1).1=lD x o:=rfl;generalize bH x o=U at *;obtain⟨U,eU⟩:=U;simp only[go_sem,X,Y,A,E,J,al,ai,T,O,F,an,aj,ak];refine aJ fun ab az=>?_
  simp only[go_sem,X,Y,A,E,J,al,ai,T,O,F,an,aj,ak];refine aM (aB _ _ _) (by simp[cE]) ?_;have ao:Z≠ab:=aV R az;have ba:∀a b:Option Row,aH (aH (aH H ab a) ab b) Z none=aH (aH (aH H Z none) ab a) ab b:=by
   intro a b;funext q;simp only[aH];by_cases e1:q=Z
   ·subst e1;rw[if_pos rfl,if_neg ao,if_neg ao,if_pos rfl]
   ·rw[if_neg e1,if_neg e1]
  have au:aH H Z none ab=none:=by rw[aD _ _ _ _ ao.symm];exact az
  have B1:BldS (aH (aH (aH H ab (some (⟨82,4,[[int 0,int 0,int 0,int 0]]⟩:Row))) ab (some (⟨82,4,[bE U]⟩:Row))) Z none) i8 i11 jc jr f p.1 p.2:=by rw[ba];exact B.mono (C4 au _ _)
  generalize hG:aH (aH H ab _) ab _=HG;have R1:HG Z=some (iG C):=by rw[<-hG,aD _ _ _ _ ao,aD _ _ _ _ ao];exact R
  replace B1:BldS (aH HG Z none) i8 i11 jc jr f p.1 p.2:=by rw[<-hG];exact B1
  have bk:HG ab=some (⟨82,4,[bE U]⟩:Row):=by rw[<-hG,aB];rfl
  clear hG az au ba;simp only[go_sem,X,Y,A,E,J,al,ai,T,O,F,an,aj,ak,bk];refine aO (CQ U) ?_;rw[bi];simp only[go_sem,X,Y,A,E,J,al,ai,T,O,F,an,aj,ak];refine bK.frz [Z] (args':=[int (lD x o),.sl (C.map aQ),.op i11 0 0]) (.cons _ _ _ _ (.refl _) (.cons _ _ _ _ (.row _ _ _ (by simp;exact R1) (ConvE.refl _)) (.cons _ _ _ _ (.refl _) .nil))) ?_;rw[show(fun q=>if q∈[Z]then none else HG q)=aH HG Z none from funext fun q=>by simp only[aH,Xbs]];refine axI (lD x o) C i11 jc jr f p.1 p.2 _ _ B1.p B1.c B1.lin B1.fc (by rw[av,ar.2.1]) (by omega) (by rw[ar.1];omega) (fun r hr=>by rw[ar.2.2 r hr];omega) fun a jc' f' Hn S=>?_
  have B3:=B1.add S;simp only[go_sem,X,Y,A,E,J,al,ai,T,O,F,an,aj,ak,aW k0];refine⟨⟨k0+1,jc',f',by omega,rfl,?_⟩,by simp only[aN];omega⟩;rw[aw];exact B3
 have ag:=geB hk (by simpa using ag);subst ag;rw[Xad]at B;generalize Eg x (eH x cuts ds) s1 K=s2 at *;simp only[go_sem,X,Y,A,E,B.p];refine aM B.r8 (by simp) ?_;have bp:jc≠i8:=fun e=>by have h1:=B.r8;rw[<-e,B.c]at h1;have h2:(iG s2.1).e=LS.e:=congrArg Row.e (Option.some.inj h1);exact absurd (show(3:Nat)=108 from h2) (by decide)
 have bh:jr≠i8:=fun e=>by have h1:=B.r8;rw[<-e,B.lin.row]at h1;have h2:(Bb f s2.2).e=LS.e:=congrArg Row.e (Option.some.inj h1);exact absurd (show(153:Nat)=108 from h2) (by decide)
 have be:∀(i:Nat) (r:PRow),s2.2[i]?=some r->f i≠i8:=fun i r hr e=>by have h1:=B.r8;rw[<-e,B.lin.coef i r hr]at h1;have h2:(iG r.coef).e=LS.e:=congrArg Row.e (Option.some.inj h1);exact absurd (show(3:Nat)=108 from h2) (by decide)
 simp only[go_sem,X,Y,A,E];refine .tup _ _ (.cons _ _ _ _ (.agg _ _ (.cons _ _ _ _ (.row _ _ _ (by rw[aD _ _ _ _ bp];exact B.c) (ConvE.refl _)) (.cons _ _ _ _ (.row _ _ _ (by rw[aD _ _ _ _ bh];exact B.lin.row) (abU f s2.2 fun i r hr=>(aD _ _ _ _ (be i r hr)).trans (B.lin.coef i r hr))) .nil))) (.cons _ _ _ _ (.refl _) .nil))
end Nu
namespace Nu
open Go.Nu
open Dec (iS dR cN mG)
def is0(s:ByteArray):Bool:=bl s == [48]
def is1(s:ByteArray):Bool:=bl s == [49]
def Lt(s:ByteArray):Bool:= !is0 s&& !is1 s
def DP(rows:List PRow):Prop:=∀r∈rows,(∀n∈r.coef,n=0\/n=1)/\nG r.right
def QR{rows:List PRow}{A:List Int}(h:DP rows)(U:∀n∈A,n=0\/n=1):DP (rU rows A A.length):=by
 intro r X;obtain⟨i,F,rfl⟩:=List.getElem_of_mem X;have J:=List.getElem?_eq_getElem F;rw[Ah]at J;rw[mQ]at F;have T:=h _ (List.getElem_mem F);by_cases E:i<A.length
 ·rw[if_pos E,List.getElem?_eq_getElem F]at J;have e:(rU rows A A.length)[i]'(by rw[mQ];exact F)=BP (rows[i]) (A.getD i 0):=(Option.some.inj J).symm;rw[e];unfold BP;refine⟨fun n O=>?_,T.2⟩;rcases Xat.1 O with O|O
  ·exact T.1 n O
  ·have Y:n=A.getD i 0:=by simpa using O
   rw[Y,List.getD,List.getElem?_eq_getElem E];exact U _ (List.getElem_mem E)
 ·rw[if_neg E,List.getElem?_eq_getElem F]at J;have e:(rU rows A A.length)[i]'(by rw[mQ];exact F)=rows[i]:=(Option.some.inj J).symm;rw[e];exact T
structure RightB(x:Instance)(cuts:List Cut)(ds:List Decision):Prop where
 types:∀t∈x.types,nG t.count
 cuts:∀q∈cuts,nG q.n
 ds:∀d∈ds,nG d.n
def apX{x:Instance}{cuts:List Cut}{ds:List Decision}(h:RightB x cuts ds):DP (jO x cuts ds):=by
 intro r A;have h1:nG 1:=by unfold nG;omega
 unfold jO sA qL sB qT at A;simp only[Xat,Xan,List.mem_filterMap]at A;rcases A with((A|⟨t,J,rfl⟩)|⟨q,O,rfl⟩)|⟨d,F,A⟩
 ·rw[List.eq_of_mem_replicate A];exact⟨fun n E=>(by cases E),h1⟩
 ·exact⟨fun n E=>(by cases E),h.types t J⟩
 ·refine⟨fun n E=>(by cases E),?_⟩;show nG (Bv q).2;unfold Bv;split
  ·exact h1
  ·split
   ·exact h.cuts q O
   ·unfold nG;omega
 ·unfold Iv at A;split at A
  ·cases A;exact⟨fun n E=>(by cases E),h.ds d F⟩
  ·split at A
   ·cases A;exact⟨fun n E=>(by cases E),h.ds d F⟩
   ·cases A
def Yj{x:Instance}{cuts:List Cut}{ds:List Decision}(h:RightB x cuts ds)(l:List Column):∀k,k<=l.length->DP (Ed x cuts ds (l.take k)).2
 | 0,_=>apX h
 | k+1,hk=>by obtain⟨c,A⟩:=aI (show k<l.length by omega);rw[Gd A];exact QR (Yj h l k (by omega)) fun n E=>afB E
def WC{x:Instance}{o:Int}{n:Nat}{m:Int}(h:m∈fX x o n):m=0\/m=1:=by
 unfold fX at h;rcases Xat.1 h with h|h
 ·obtain⟨i,_,rfl⟩:=Xan.1 h;exact E9 _
 ·exact .inl (List.eq_of_mem_replicate h)
def ZO{x:Instance}{n:Nat}{s0:List Int×List PRow}(h:DP s0.2)(l:List Int):∀k,k<=l.length->DP (Eg x n s0 (l.take k)).2
 | 0,_=>h
 | k+1,hk=>by obtain⟨c,A⟩:=aI (show k<l.length by omega);rw[GK A];exact QR (ZO h l k (by omega)) fun n E=>WC E
def EJ{x:Instance}{d:Nat}{cols:List Column}{cuts:List Cut}{ds:List Decision}(h:(cU x d cols cuts ds).2=0)(U:RightB x cuts ds):
  Cq x d cols cuts ds=0/\(cU x d cols cuts ds).1.cost.length=(inM cols ds).length+(gI x ds).length/\(inM cols ds).length+(gI x ds).length<=8192/\(cU x d cols cuts ds).1.rows.length=eH x cuts ds/\eH x cuts ds<=64 /\
   (∀r∈(cU x d cols cuts ds).1.rows,r.coef.length=(inM cols ds).length+(gI x ds).length)/\DP (cU x d cols cuts ds).1.rows:=by
 unfold cU at h |-;split at h
 ·next h1=>exact absurd h h1
 next h1=>
 split at h
 ·cases h
 next T=>
 rw[if_neg h1,if_neg T];have O:=I0 x cuts ds (inM cols ds) _ (Xae _);have E:=Yj U (inM cols ds) _ (Xae _);rw[Xad]at O E;have J:(dI x).length<=eH x cuts ds:=by unfold eH;omega
 have F:=P9 x J O (gI x ds) _ (Xae _);have A:=ZO (x:=x) (n:=eH x cuts ds) E (gI x ds) _ (Xae _);rw[Xad]at F A;exact⟨by simpa using h1,F.1,by omega,F.2.1,by omega,F.2.2,A⟩
def agA{x:Instance}{d:Nat}{cols:List Column}{cuts:List Cut}{ds:List Decision}(h:(cU x d cols cuts ds).2=0)(A:RightB x cuts ds):LinB (cU x d cols cuts ds).1:=by obtain⟨_,h1,J,h3,O,_,E⟩:=EJ h A;exact⟨by omega,by omega,fun r A n F=>by rcases(E r A).1 n F with e|e <;> unfold nG <;> omega,fun r A=>(E r A).2⟩
end Nu
namespace Nu.Ps
open Go.Nu Go.So
open Dec (iS dR cN mG)
open Sq (EvalB BestQ kC tU pH awZ)
structure PrOk(x:Instance)(d:Nat):Prop where
 ev:EvalB x
 n8:x.orders.length<=8
 ty:x.types.length<=1000
 lo:LoadsOk x d
 ne:x.types≠[]
end Nu.Ps
namespace Nu.Ps
open Go.Nu Go.So
open Dec (iS dR cN mG)
open Sq (EvalB BestQ kC tU pH cY)
def aiP(x:Instance)(r:Route): -9223372036854775808<=(cY x r).1/\(cY x r).1<=9223372036854775807:=by
 unfold cY;split
 ·simp
 ·unfold Sq.fV;split
  ·simp
  ·split
   ·simp
   ·exact Rx.BI _
structure ColQ(x:Instance)(c:Column):Prop where
 b:ColB c
 price: -9223372036854775808<=c.price/\c.price<=9223372036854775807
def QB{x:Instance}{c:Column}(A:x.orders.length<=8)(h:c∈kC x):ColQ x c:=by
 obtain⟨k,s,h⟩:=tU A h;obtain⟨l,E,_,_,_⟩:=h.is;have h1:=h.pos;have F:=h.top;have h3:(2:Int)^x.orders.length<=256:=by
  have:2^x.orders.length<=256:=Xal (Xas (by decide) A) (by decide)
  exact_mod_cast this
 rw[E];exact⟨⟨by grind⟩,aiP _ _⟩
end Nu.Ps
namespace Nu
open Go.Nu
open Dec (iS dR cN mG)
end Nu
namespace Nu
open Go.Nu
open Dec (iS cN mG)
def UK(n:Int):rE (n:Rat)=zed n:=by unfold rE;rw[if_pos (Rat.den_intCast n),Rat.num_intCast]
def abR{n:Int}(h:n.natAbs<dA):Cz (n:Rat):=⟨by rw[Rat.num_intCast];exact h,by rw[Rat.den_intCast];exact Gh (k:=1) (by decide) (by decide)⟩
def vM{n:Int}(h:n.natAbs<dA):cO (zed n)=true:=by rw[<-UK];exact pX (abR h)
def AB(n:Int):kQ (zed n)=(n:Rat):=by rw[<-UK,iP]
def asV{a b:Int}(E:a.natAbs<dA)(A:b.natAbs<dA):DW (zed a) (zed b)=lB a b:=by unfold DW;rw[vM E,vM A,Bool.and_self,if_pos rfl,AB,AB,aqX];unfold Lw;rw[Rat.num_intCast,Rat.num_intCast,Rat.den_intCast,Rat.den_intCast];simp
def Pe{n:Int}(h:n.natAbs<=1000000000000000000000000000000000000000000):n.natAbs<dA:=Gh (k:=43) (Nat.lt_of_le_of_lt h (by decide)) (by decide)
def nV(r:PRow)(l:List (Int×List Int))(i:Nat):PRow:=⟨r.coef++l.map fun c=>c.2.getD i 0,r.kind,r.right⟩
def wT(p:List Int×List PRow)(l:List (Int×List Int)):List Int×List PRow:=l.foldl (fun s c=>kR s c.1 c.2) p
def Cy:∀(l:List (Int×List Int)) (p:List Int×List PRow),(wT p l).1=p.1++l.map (·.1)
 | [],p=>by simp[wT]
 | c::l,p=>by show(wT (kR p c.1 c.2) l).1=_;rw[Cy l];unfold kR;simp
def D6:∀(l:List (Int×List Int)) (p:List Int×List PRow),(∀c∈l,c.2.length=p.2.length)->∀i r,p.2[i]?=some r->(wT p l).2[i]?=some (nV r l i)
 | [],p,_,i,r,h=>by show p.2[i]?=_;rw[h];unfold nV;simp
 | c::l,p,hl,i,r,h=>by
  show(wT (kR p c.1 c.2) l).2[i]?=_;have A:=(List.getElem?_eq_some_iff.1 h).1;have E:(kR p c.1 c.2).2[i]?=some (BP r (c.2.getD i 0)):=by unfold kR;rw[Ah,if_pos (by rw[hl c (by simp)];exact A),h];rfl
  rw[D6 l _ (fun d F=>by rw[(yA p c.1 c.2).1];exact hl d (by simp[F])) i _ E];unfold nV BP;simp
def Kl:∀(l:List (Int×List Int)) (p:List Int×List PRow),(wT p l).2.length=p.2.length
 | [],p=>rfl
 | c::l,p=>by show(wT (kR p c.1 c.2) l).2.length=_;rw[Kl l,(yA p c.1 c.2).1]
def aBA(x:Instance)(cuts:List Cut)(ds:List Decision)(c:Column):Int×List Int:=(c.price,gG x c cuts ds)
def aAZ(x:Instance)(n:Nat)(o:Int):Int×List Int:=(lD x o,fX x o n)
def amG(x:Instance)(cuts:List Cut)(ds:List Decision)(l:List Column):Ed x cuts ds l=wT ([],jO x cuts ds) (l.map (aBA x cuts ds)):=by unfold Ed wT;rw[List.foldl_map];rfl
def anZ(x:Instance)(n:Nat)(s0:List Int×List PRow)(l:List Int):Eg x n s0 l=wT s0 (l.map (aAZ x n)):=by unfold Eg wT;rw[List.foldl_map];rfl
def LQ(x:Instance)(cuts:List Cut)(ds:List Decision)(L:List Column)(K:List Int)(i:Nat):List Int:=L.map (fun c=>(gG x c cuts ds).getD i 0)++K.map fun o=>(fX x o (eH x cuts ds)).getD i 0
def pQ{x:Instance}{d:Nat}{cols:List Column}{cuts:List Cut}{ds:List Decision}(h:(cU x d cols cuts ds).2=0):
  (cU x d cols cuts ds).1.cost=(inM cols ds).map (·.price)++(gI x ds).map (lD x) /\
  ∀(i:Nat) (r:PRow),(jO x cuts ds)[i]?=some r->(cU x d cols cuts ds).1.rows[i]?=some (⟨LQ x cuts ds (inM cols ds) (gI x ds) i,r.kind,r.right⟩:PRow):=by
 have E:(dI x).length<=eH x cuts ds:=by unfold eH;omega
 unfold cU at h |-;split at h
 ·next h1=>exact absurd h h1
 next h1=>
 split at h
 ·cases h
 next J=>
 rw[if_neg h1,if_neg J];show(Eg x (eH x cuts ds) (Ed x cuts ds (inM cols ds)) (gI x ds)).1=_/\∀(i:Nat) (r:PRow),(jO x cuts ds)[i]?=some r->(Eg x (eH x cuts ds) (Ed x cuts ds (inM cols ds)) (gI x ds)).2[i]?=some (⟨LQ x cuts ds (inM cols ds) (gI x ds) i,r.kind,r.right⟩:PRow);generalize inM cols ds=L;generalize gI x ds=K;rw[amG,anZ];refine⟨?_,fun i r F=>?_⟩
 ·rw[Cy,Cy,Xbn,List.map_map,List.map_map];rfl
 ·have A:r.coef=[]:=Xcn ((TD x cuts ds).2.2 r (Xac F));have O:=D6 (L.map (aBA x cuts ds)) ([],jO x cuts ds) (fun c A=>by obtain⟨a,_,rfl⟩:=Xan.1 A;show(gG x a cuts ds).length=(jO x cuts ds).length;rw[pM,qC]) i r F;rw[D6 (K.map (aAZ x (eH x cuts ds))) _ (fun c A=>by obtain⟨a,_,rfl⟩:=Xan.1 A;show(fX x a (eH x cuts ds)).length=_;rw[qJ x a E,Kl];exact(qC x cuts ds).symm) i _ O];unfold nV LQ;rw[A,Xbn,List.map_map,List.map_map];rfl
end Nu
namespace Nu
open Go.Proofs.Tryz
open Go.Nu
open Dec (iS dR cN mG)
open Sq (EvalB BestQ kC tU pH cY)
open Ps (PrOk)
def oN(x:Instance)(b:Bool):Row:=⟨68,9,[[.sl (x.net.places.map Go.Aw.D.dZ),.sl (x.net.arcs.map fK),.sl (x.types.map bB),.sl (x.orders.map aY),.sl (x.apart.map cZ),.sl (x.before.map cZ),.sl (if b=true then(kC x).map bO else[]),int 0,boo b]]⟩
def aBh(x:Instance){d:Nat}(h:PrOk x d)(b:Bool){j:Nat}{H:aG}{K:AV->aG->Prop}(E:H j=some (oN x b))(T:∀H',H' j=some (oN x true)->(∀k r,k≠j->H k=some r->H' k=some r)->K (.tup [.sl ((kC x).map bO),int 0]) H'):bK prog 38 [.op j 0 0] H K:=by
 have U:=Sq.NC.pc2 (Sq.awZ x h.ev h.n8 h.ty);refine bK.body (c:=f38.body.getD .skip) (fun _=>false) mixed func38 rfl (by kernel_rfl) ?_;unfold f38;simp only[Xbr];simp only[go_sem];simp only[go_sem,E,oN];refine aA (fun A=>?_) (fun A=>?_)
 ·have A:b=false:=by simpa using A
  subst A;simp only[go_sem,E,oN];refine aO (args:=[.agg (aE x)]) U ?_;simp only[go_sem];refine cC ⟨_,rfl,rfl⟩ E (by simp[oN]) ?_;simp only[go_sem];refine cC ⟨_,rfl,rfl⟩ (aB _ _ _) (by simp[oN]) ?_;simp only[go_sem];refine cC ⟨_,rfl,rfl⟩ (aB _ _ _) (by simp[oN]) ?_;generalize F:aH _ j _=G;have R:G j=some (oN x true):=by rw[<-F,aB];rfl
  have X:∀k r,k≠j->H k=some r->G k=some r:=fun k r O J=>by rw[<-F,aD _ _ _ _ O,aD _ _ _ _ O,aD _ _ _ _ O];exact J
  clear F;simp only[go_sem];refine mC (by rfl) (by kernel_rfl) ?_;simp only[go_sem,R,oN];exact T _ R X
 ·have A:b=true:=by simpa using A
  subst A;simp only[go_sem];refine mC (by rfl) (by kernel_rfl) ?_;simp only[go_sem,E,oN];exact T _ E fun k r _ J=>J
def J2(s:ByteArray)(n:Int):Bool:=(Af s).2 == 0&&decide (DW (Af s).1 (zed n)>=0)
def QE(p:PLin)(n:TNode)(price:Int):Int:=
 if(n.kind == 2)=true then(if(!tQ p n.dual)=true then 26 else 0)
 else if(!(kK p n.dual).2|| !J2 (kK p n.dual).1 price)=true then 26 else 0
def EL(x:Instance)(d:Nat)(ds:List Decision)(n:TNode)(price:Int):Int:=
 if(!n.leaf||(n.kind != 1&&n.kind != 2))=true then 28
 else if(iS x ds != 0)=true then iS x ds
 else if n.cuts.length>24 then 27
 else if(n.cuts.any fun k=>lG x d k != 0)=true then 27
 else if((cU x d (kC x) n.cuts ds).2 != 0)=true then(cU x d (kC x) n.cuts ds).2
 else QE (cU x d (kC x) n.cuts ds).1 n price
def afF(a b:ByteArray):(JI a b).1.size<=1048576:=by
 unfold JI szZ;split
 ·split
  ·next h=>exact Xal (jC h) (by decide)
  ·exact Xab _
 ·exact Xab _
def aeX(s:ByteArray)(h:s.size<=1048576):(Af s).1.size<=1048576:=by
 obtain⟨_,_,h3⟩:=Ic s h;unfold Af;split
 ·exact Xab _
 ·split
  ·exact h3
  ·exact afF _ _
structure LeafB(x:Instance)(n:TNode)(ds:List Decision)(price:Int):Prop where
 types:∀t∈x.types,nG t.count
 cuts:∀q∈n.cuts,nG q.n/\q.set<=9223372036854775807
 dsn:∀d∈ds,nG d.n
 dl:ds.length<=1048576
 cl:n.cuts.length<=1048576
 dual:VarB n.dual
 price:nG price
def abY(s:Score):nG (fV s).1:=by
 unfold fV nG;split
 ·decide
 ·split
  ·decide
  ·exact Rx.BI _
def Ef{x:Instance}{d:Nat}{cols:List Column}{cuts:List Cut}{ds:List Decision}(E:∀c∈cols,nG c.price)(h:(cU x d cols cuts ds).2=0)(i:Nat):nG ((cU x d cols cuts ds).1.cost.getD i 0):=by
 rw[(pQ h).1,List.getD];cases e:((inM cols ds).map (·.price)++(gI x ds).map (lD x))[i]? with
 | none=>exact⟨by decide,by decide⟩
 | some n=>
  rcases Xat.1 (Xac e)with hm|hm <;> obtain⟨c,A,rfl⟩:=Xan.1 hm
  ·exact E c (Xbg.1 A).1
  ·exact abY _
def azA(x:Instance){d:Nat}(h:PrOk x d)(b:Bool)(ds:List Decision)(n:TNode)(price:Int)(X:LeafB x n ds price){j:Nat}{H:aG}{K:AV->aG->Prop}(hj:H j=some (oN x b))(T:∀H' b',H' j=some (oN x b')->K (int (EL x d ds n price)) H'):bK prog 17 [.op j 0 0,.sl (ds.map aP),.agg (bR n),int price] H K:=by
 have hM:MIn x n.cuts ds:=⟨Xal h.n8 (by decide),Xal h.ty (by decide),X.cl,X.dl⟩;have an:(kC x).length<=1048576:=by have h8:2^x.orders.length<=256:=Xal (Xas (by decide) h.n8) (by decide);exact Xal (Sq.G2 x _) (Xal (Nat.mul_le_mul h.ty h8) (by decide))
 have hB:=auJ x d (kC x) n.cuts ds h.lo h.ne hM an (fun c hc=>(Ps.QB h.n8 hc).b.1.2) (fun q hq=>(X.cuts q hq).2);have hL:(cU x d (kC x) n.cuts ds).2=0->LinW (cU x d (kC x) n.cuts ds).1:=fun e=>⟨agA e ⟨X.types,fun q hq=>(X.cuts q hq).1,X.dsn⟩,fun r hr=>by obtain⟨_,h1,_,_,_,h5,_⟩:=EJ e ⟨X.types,fun q hq=>(X.cuts q hq).1,X.dsn⟩;rw[h5 r hr,h1],fun i _=>Ef (fun c hc=>(Ps.QB h.n8 hc).price) e i⟩
 obtain⟨L,hC⟩:∃L,L=EL x d ds n price:=⟨_,rfl⟩;rw[<-hC]at T;unfold EL at hC;refine bK.body (c:=f17.body.getD .skip) (fun _=>false) mixed func17 rfl (by kernel_rfl) ?_;unfold f17;simp only[Xbr];simp only[go_sem];refine aA (fun F=>?_) (fun F=>?_)
 ·rw[if_pos F]at hC;simp only[go_sem];rw[hC]at T;exact T _ _ hj
 rw[if_neg (by rw[F];simp)]at hC;simp only[go_sem,hj,oN];refine aO (args:=[.agg (aE x),.sl (ds.map aP)]) (Dec.arL x ds X.dl) ?_;simp only[go_sem];refine aA (fun F=>?_) (fun F=>?_)
 ·rw[if_pos F]at hC;simp only[go_sem];rw[hC]at T;exact T _ _ hj
 rw[if_neg (by rw[F];simp)]at hC;simp only[go_sem,Xaa];refine aA (fun F=>?_) (fun F=>?_)
 ·rw[if_pos (by simp at F;omega)]at hC;simp only[go_sem];rw[hC]at T;exact T _ _ hj
 rw[if_neg (by simp at F;omega)]at hC;simp only[go_sem,Xaa];refine⟨fun ρ H=>∃(k:Nat),k<=n.cuts.length/\ρ 0=.op j 0 0/\ρ 1=.sl (ds.map aP)/\ρ 3=int price/\ρ 6=.rp (bR n) 0/\ρ 44=.sl (n.cuts.map fZ)/\ρ 45=int (n.cuts.length:Nat)/\ρ 46=int k/\H j=some (oN x b)/\(∀q∈n.cuts.take k,lG x d q=0),fun ρ _=>n.cuts.length-aU (ρ 46),⟨0,Xab _,by simp only[go_sem],by simp only[go_sem],by simp only[go_sem],by simp only[go_sem],by simp only[go_sem],by simp only[go_sem,Xaa],(by simp only[go_sem];rfl),hj,by simp⟩,?_⟩;rintro ρ H ⟨k,hk,Y,Z,U,O,A,E,J,R,hz⟩;simp only[go_sem,Y,Z,U,O,A,E,J];refine aA (fun ac=>?_) (fun af=>?_)
 ·have ac:=ltB (by simpa using ac);obtain⟨q,hq⟩:=aI ac;have b1:=inB ac;simp only[go_sem,Y,Z,U,O,A,E,J,aC hq,b1,Xaa];refine aJ fun i11 aa=>?_
  simp only[go_sem,Y,Z,U,O,A,E,J,R];refine bP aa (by simp[wR]) fun ah (ak:ah i11=some (⟨102,3,[fZ q]⟩)) N=>?_
  replace R:=N R;obtain⟨ai,R⟩:=R;clear N aa;simp only[go_sem,Y,Z,U,O,A,E,J,ak,R];refine mC (by rfl) (by kernel_rfl) ?_;simp only[go_sem,Y,Z,U,O,A,E,J,R,ak,oN];refine⟨_,(RQ x d q h.lo h.ne).q rfl,?_⟩;simp only[go_sem];refine aA (fun ag=>?_) (fun ag=>?_)
  ·rw[if_pos (Xak.2 ⟨q,Xac hq,ag⟩)]at hC;simp only[go_sem];rw[hC]at T;exact T _ _ R
  simp only[go_sem,Y,Z,U,O,A,E,J,qK (show k<=4611686018427387904 by have:=X.cl;omega)];refine⟨⟨k+1,ac,rfl,R,?_⟩,by simp only[aN];omega⟩;exact gP (p:=fun q=>lG x d q=0) hq (by simpa using ag) hz
 have af:=geB hk (by simpa using af);subst af;rw[Xad]at hz;rw[if_neg (by simp only[Xak,not_exists,not_and];intro q hq;simp[hz q hq])]at hC;simp only[go_sem,Y,Z,U,O,A,E,J];refine aBh x h b R fun H2 R2 ao=>?_
 simp only[go_sem];refine aA (fun F=>by cases F) (fun F=>?_);simp only[go_sem,Y,Z,U,O,A,E,J];generalize aq:cU x d (kC x) n.cuts ds=p at *;have hB:PC prog 39 [.agg (List.take 6 ((oN x true).es.getD 0 [])),.sl ((kC x).map bO),.sl (n.cuts.map fZ),.sl (ds.map aP)] (.tup [.agg (kA p.1),int p.2]):=hB;refine nK [j] (.q 0 (.q 1 (.q 2 (.q 3 (.q 4 (.q 5 (.q 6 (.q 7 (.a2 8 (.q 9 (.q 10 (.q 11 (.a1 12 (.a1 13 (.q 14 .nil)))))) 12 (.a1 8 (.q 9 (.q 10 (.q 11 (.a1 13 (.q 14 .nil))))))))))))))) (fun ae H'=>ae 3=int price/\ae 6=.rp (bR n) 0/\ae 13=int p.2/\∃i,ae 14=.op i 0 0/\H' i=some ⟨108,2,[kA p.1]⟩/\H' j=some (oN x true)) (by simp[R2]) (by kernel_rfl) (fun K' aj Hp Hr hp hr _ ap=>?_) ?_
 ·have ab:=(hp j (by simp)).trans R2;simp only[go_sem,Y,Z,U,O,A,E,J,ab];refine⟨⟨by simp[oN],by simp[oN]⟩,lF ?_ ?_⟩
  ·simp only[go_sem,Y,Z,U,O,A,E,J,ab];refine aO hB ?_;simp only[go_sem];refine aJ fun i h0=>?_
   simp only[go_sem];refine aM (aB _ _ _) (by simp[Cw]) ?_;simp only[go_sem];refine sU hr h0 fun h1=>aj _ _ ⟨by simp only[go_sem,Y,Z,U,O,A,E,J],by simp only[go_sem,Y,Z,U,O,A,E,J],by simp only[go_sem],i,by simp only[go_sem],(aB _ _ _).trans rfl,?_⟩
   rw[aD _ _ _ _ (aV R2 h1),aD _ _ _ _ (aV R2 h1)];exact R2
  ·simp only[go_sem,Y,Z,U,O,A,E,J,ab];refine aJ fun i h0=>?_
   simp only[go_sem];refine aO hB ?_;simp only[go_sem];refine aM (aB _ _ _) (by simp[Cw]) ?_;simp only[go_sem];refine sU hr h0 fun h1=>aj _ _ ⟨by simp only[go_sem,Y,Z,U,O,A,E,J],by simp only[go_sem,Y,Z,U,O,A,E,J],by simp only[go_sem],i,by simp only[go_sem],(aB _ _ _).trans rfl,?_⟩
   rw[aD _ _ _ _ (aV R2 h1),aD _ _ _ _ (aV R2 h1)];exact R2
 clear R R2 ao;rintro ρ H ⟨U,O,al,i,am,Ri,R⟩;simp only[go_sem,al];refine aA (fun F=>?_) (fun F=>?_)
 ·rw[if_pos F]at hC;simp only[go_sem,al];rw[hC]at T;exact T _ _ R
 rw[if_neg (by rw[F];simp)]at hC;have h0:p.2=0:=by simpa using F
 unfold QE at hC;simp only[go_sem,O];refine aA (fun F=>?_) (fun F=>?_)
 ·rw[if_pos F]at hC;simp only[go_sem,O,am,Ri];refine aO (agV p.1 n.dual (hL h0) X.dual) ?_;simp only[go_sem];refine aA (fun F=>?_) (fun F=>?_)
  ·rw[if_pos F]at hC;simp only[go_sem];rw[hC]at T;exact T _ _ R
  ·rw[if_neg (by rw[F];simp)]at hC;simp only[go_sem];rw[hC]at T;exact T _ _ R
 rw[if_neg (by rw[F];simp)]at hC;simp only[go_sem,O,am,U,Ri];refine aO (apU p.1 n.dual (hL h0) X.dual) ?_;simp only[go_sem,U];have hs:(kK p.1 n.dual).1.size<=1048576:=by
  unfold kK;split
  ·decide
  ·split
   ·exact Xal Cu (by decide)
   ·decide
 unfold J2 at hC;refine⟨_,fun _=>(aAu (kK p.1 n.dual).1 price hs X.price.1 X.price.2 (aeX _ hs)).q rfl,?_⟩;simp only[go_sem];refine aA (fun F=>?_) (fun F=>?_)
 ·rw[if_pos F]at hC;simp only[go_sem];rw[hC]at T;exact T _ _ R
 ·rw[if_neg (fun h=>Bool.noConfusion (F.symm.trans h))]at hC;simp only[go_sem];rw[hC]at T;exact T _ _ R
end Nu
namespace Sq
open Go.Proofs.Tryz
open Go.Proofs.YthephioccidfgaaGreatDoor.Nu (ltB geB)
open Dec (aR)
abbrev Ag(l:List Int):Row:=⟨3,1,l.map aQ⟩
def oH(r:Route)(i:Nat):Int:=(iF r.visits).1/2^i%2
def pN(l:List Route)(i:Nat):Int:=(l.map fun r=>oH r i).sum
def lZ(n:Nat)(l:List Route):List Int:=(List.range n).map fun i=>pN l i
def wV(n:Nat)(l:List Route)(r:Route)(m:Nat):List Int:=(List.range n).map fun i=>pN l i+if i<m then oH r i else 0
def alU(l:List Route)(r:Route)(i:Nat):pN (l++[r]) i=pN l i+oH r i:=by simp[pN]
def Vt(n:Nat)(l:List Route)(r:Route):wV n l r 0=lZ n l:=by simp[wV,lZ]
def VI(n:Nat)(l:List Route)(r:Route):wV n l r n=lZ n (l++[r]):=by
 unfold wV lZ;refine List.map_congr_left fun i A=>?_
 rw[if_pos (Xai.1 A),alU]
def I2(r:Route)(i:Nat):0<=oH r i/\oH r i<=1:=by unfold oH;omega
def Pg(l:List Route)(i:Nat):0<=pN l i/\pN l i<=l.length:=by
 induction l with
 | nil=>simp[pN]
 | cons r l ih=>have:=I2 r i;unfold pN at ih |-;rw[Xaq,List.sum_cons,Xag];omega
def GV{n:Nat}{l:List Route}{r:Route}{m i:Nat}(h:i<n):(wV n l r m)[i]?=some (pN l i+if i<m then oH r i else 0):=by unfold wV;rw[List.getElem?_map,List.getElem?_range h];rfl
def acG{n:Nat}{l:List Route}{r:Route}{m:Nat}(h:m<n):(wV n l r m).set m (pN l m+oH r m)=wV n l r (m+1):=by
 refine List.ext_getElem? fun i=>?_
 have F:(wV n l r m).length=n:=by simp[wV]
 by_cases E:i<n
 ·rw[GV E,List.getElem?_set];by_cases e:m=i
  ·subst e;simp[F,h]
  ·rw[if_neg e,GV E];by_cases A:i<m
   ·rw[if_pos A,if_pos (by omega)]
   ·rw[if_neg A,if_neg (by omega)]
 ·rw[List.getElem?_eq_none (by rw[Xbm,F];omega),List.getElem?_eq_none (by simp[wV];omega)]
def asZ(l:List Visit):0<=(iF l).1/\(iF l).1<9223372036854775808:=by
 unfold iF;split
 ·rename_i h;rw[Xaj]at h;have:=EK (m:=63) l fun v A=>by have:=h v A;unfold okV at this;simp at this;omega
  have e:(2:Nat)^63=9223372036854775808:=by decide
  simp only;omega
 ·exact⟨by decide,by decide⟩
def eJ(n:Nat)(l:List Int):List Int:=(List.range n).map fun i:Nat=>(l.countP (fun u=>u == (i:Int)):Int)
def SL{n:Nat}{l:List Int}{u:Int}{i:Nat}(F:u=(i:Int))(O:i<n):(eJ n l).set i ((l.countP (fun w=>w == (i:Int)):Int)+1)=eJ n (l++[u]):=by
 subst F;refine List.ext_getElem? fun m=>?_
 have A:(eJ n l).length=n:=by simp[eJ]
 by_cases J:m<n
 ·have e:∀l',(eJ n l')[m]?=some (l'.countP (fun u=>u == (m:Int)):Int):=fun l'=>by unfold eJ;rw[List.getElem?_map,List.getElem?_range J];rfl
  rw[e,List.getElem?_set,List.countP_append];by_cases E:i=m
  ·subst E;simp[A,O]
  ·rw[if_neg E,e];simp[show ¬((i:Int)=(m:Int))by omega]
 ·rw[List.getElem?_eq_none (by rw[Xbm,A];omega),List.getElem?_eq_none (by simp[eJ];omega)]
def KN(n:Nat):(some ⟨3,1,List.replicate n [int 0]⟩:Option Row)=some (Ag (lZ n [])):=by
 have:lZ n []=List.replicate n 0:=by unfold lZ;rw[List.eq_replicate_iff];simp[pN]
 rw[this];simp[aQ]
def GI(n:Nat):(some ⟨3,1,List.replicate n [int 0]⟩:Option Row)=some (Ag (eJ n [])):=by
 have:eJ n []=List.replicate n 0:=by unfold eJ;rw[List.eq_replicate_iff];simp
 rw[this];simp[aQ]
def apI(x:Instance)(p:Plan)(hx:x.orders.length<=62)(hp:PlanB p):PC prog 30 [.agg (aE x),.agg (gK p)]
  (.tup [.sl ((if(p.unserved.any fun u=>bS u x.orders.length)=true then[]else lZ x.orders.length p.routes).map aQ),.sl ((if(p.unserved.any fun u=>bS u x.orders.length)=true then[]else eJ x.orders.length p.unserved).map aQ),boo !(p.unserved.any fun u=>bS u x.orders.length)]):=by
 have be:=hp.routes;have bh:=hp.unserved;refine pcd func30 rfl rfl ?_;simp only[go_sem];refine nK [] (.q 0 (.q 1 (.q 2 (.q 4 (.q 5 (.q 6 (.a2 3 (.q 8 (.a1 7 (.q 9 .nil))) 7 (.a1 3 (.q 8 (.q 9 .nil))))))))))
  (fun ak H'=>ak 2=.rp (aE x) 0/\ak 3=.rp (gK p) 0/\∃j4 j5,ak 4=.os j4/\ak 5=.os j5/\j4≠j5/\H' j4=some (Ag (lZ x.orders.length []))/\H' j5=some (Ag (eJ x.orders.length []))) (by simp) (by kernel_rfl) (fun K' aw Hp Hr bj hr _ bd=>?_) ?_
 ·simp only[go_sem];refine lF ?_ ?_
  ·simp only[go_sem];refine⟨by omega,aJ fun ja az=>?_⟩;simp only[go_sem];refine⟨by omega,aJ fun jb ay=>?_⟩;have ne:=aV (aB _ _ _) ay;simp only[go_sem];refine fF fun _ Hm _ h2=>aw _ _ ⟨by simp only[go_sem],by simp only[go_sem],ja,jb,by simp only[go_sem],by simp only[go_sem],ne,?_,?_⟩
   ·rw[h2 ja (by simp),aD _ _ _ _ ne,aB,KN]
   ·rw[h2 jb (by simp),aB,GI]
  ·simp only[go_sem];refine⟨by omega,aJ fun jb ay=>?_⟩;simp only[go_sem];refine⟨by omega,aJ fun ja az=>?_⟩;have ne:=aV (aB _ _ _) az;simp only[go_sem];refine fF fun _ Hm _ h2=>aw _ _ ⟨by simp only[go_sem],by simp only[go_sem],ja,jb,by simp only[go_sem],by simp only[go_sem],ne.symm,?_,?_⟩
   ·rw[h2 ja (by simp),aB,KN]
   ·rw[h2 jb (by simp),aD _ _ _ _ ne,aB,GI]
 ·rintro ρ H ⟨O,U,j4,j5,J,T,av,Y,Z⟩;simp only[go_sem,O,U,J,T];refine⟨fun ρ H=>∃(k:Nat),k<=p.routes.length/\ρ 2=.rp (aE x) 0/\ρ 3=.rp (gK p) 0/\ρ 23=.sl (p.routes.map bM)/\ρ 4=.os j4/\ρ 5=.os j5/\ρ 24=int (p.routes.length:Nat)/\ρ 25=int k/\H j4=some (Ag (lZ x.orders.length (p.routes.take k)))/\H j5=some (Ag (eJ x.orders.length [])),fun ρ _=>p.routes.length-aU (ρ 25),⟨0,Xab _,by simp only[go_sem,O,U,J,T],by simp only[go_sem,O,U,J,T],by simp only[go_sem,O,U,J,T],by simp only[go_sem,O,U,J,T],by simp only[go_sem,O,U,J,T],by simp only[go_sem,Xaa,O,U,J,T],(by simp only[go_sem,O,U,J,T];rfl),Y,Z⟩,?_⟩;rintro ρ H ⟨k,hk,O,U,F,J,T,A,E,Y,Z⟩;simp only[go_sem,O,U,F,J,T,A,E];refine aA (fun X=>?_) (fun aa=>?_)
  ·have X:=ltB (by simpa using X);obtain⟨r,hr⟩:=aI X;have b1:=inB X;have hs:=aZ hr;have bi:(p.routes.take k).length<=k:=by rw[Xav];omega
   have ba:=fun i=>Pg (p.routes.take k) i
   rw[<-Vt x.orders.length (p.routes.take k) r]at Y;generalize p.routes.take k=PR at *;simp only[go_sem,O,U,F,J,T,A,E,aC hr,b1];refine aJ fun i8 ao=>?_
   simp only[go_sem,O,U,F,J,T,A,E,aC hr,b1,Y,Z];refine bP ao (by simp[kS]) fun a0 (R8:a0 i8=some (⟨59,4,[bM r]⟩)) N=>?_
   replace Y:=N Y;obtain⟨ar,Y⟩:=Y;replace Z:=N Z;obtain⟨au,Z⟩:=Z;clear N ao;simp only[go_sem,O,U,F,J,T,A,E,aC hr,b1,R8,Y,Z];refine aO (L7 r (hp.visits r (Xac hr))) ?_;have a8:=asZ r.visits;have a4:∀i,oH r i=(iF r.visits).1/2^i%2:=fun i=>rfl
   generalize (iF r.visits)=OV at *;obtain⟨s,e⟩:=OV;simp only at a8 a4;simp only[go_sem,O,U,F,J,T,A,E,Y];have an:∀m,(wV x.orders.length PR r m).length=x.orders.length:=fun m=>by simp[wV]
   refine⟨fun ρ H=>∃m:Nat,m<=x.orders.length/\ρ 2=.rp (aE x) 0/\ρ 3=.rp (gK p) 0/\ρ 4=.os j4/\ρ 5=.os j5/\ρ 9=int s/\ρ 23=.sl (p.routes.map bM)/\ρ 24=int p.routes.length/\ρ 25=int (k:Nat)/\ρ 35=int x.orders.length/\ρ 36=int (m:Nat)/\H j4=some (Ag (wV x.orders.length PR r m))/\H j5=some (Ag (eJ x.orders.length [])),fun ρ _=>x.orders.length-aU (ρ 36),⟨0,Xab _,by simp only[go_sem,O,U,F,J,T,A,E],by simp only[go_sem,O,U,F,J,T,A,E],by simp only[go_sem,O,U,F,J,T,A,E],by simp only[go_sem,O,U,F,J,T,A,E],by simp only[go_sem,O,U,F,J,T,A,E],by simp only[go_sem,O,U,F,J,T,A,E],by simp only[go_sem,O,U,F,J,T,A,E],by simp only[go_sem,O,U,F,J,T,A,E],(by simp only[go_sem,O,U,F,J,T,A,E,Xaa,an]),(by simp only[go_sem,O,U,F,J,T,A,E];rfl),Y,Z⟩,?_⟩;clear O U J T F A E Y Z;rintro ρ H ⟨m,hm,O,U,J,T,e9,F,A,E,am,al,Y,Z⟩;simp only[go_sem,O,U,J,T,e9,F,A,E,am,al];refine tP hm (fun af=>?_) (fun bc=>?_)
   ·have aq:=GV (l:=PR) (r:=r) (m:=m) af;rw[if_neg (Nat.lt_irrefl m),Int.add_zero]at aq;have b3:=inB (show m<(wV x.orders.length PR r m).length by rw[an];exact af);have bk:=ba m;have bg:=I2 r m;have ac:=acG (l:=PR) (r:=r) af;have ax:sI .and .i64 (shV .shr .i64 s (m:Int)) 1=oH r m:=by rw[vV (by omega),a4];exact awB _
    simp only[go_sem,O,U,J,T,e9,F,A,E,am,al];refine EG [(0,true),(1,true),(4,true),(5,true),(6,true),(7,true),(2,false),(3,false),(8,false),(9,false),(10,false)] (by kernel_rfl) ?_;simp only[go_sem,O,U,J,T,e9,F,A,E,am,al,Y,aC aq,b3,Xaa,an];refine⟨by omega,by omega,by omega,?_⟩;rw[ax,bD (by omega)];refine cC so3 Y (by simp[an];omega) ?_;simp only[go_sem,O,U,J,T,e9,F,A,E,am,al,aW m];refine⟨⟨m+1,af,rfl,?_,?_⟩,msr af⟩
    ·rw[<-ac];simp[aQ,List.map_set,List.getD,aq]
    ·rw[aD _ _ _ _ av.symm];exact Z
   ·subst bc;rw[VI,<-hs]at Y;simp only[go_sem,O,U,J,T,F,A,E,aW k];exact⟨⟨k+1,X,rfl,Y,Z⟩,msr X⟩
  have aa:=geB hk (by simpa using aa);subst aa;rw[Xad]at Y;clear F A E;have a9:∀l:List Int,(eJ x.orders.length l).length=x.orders.length:=fun l=>by simp[eJ]
  simp only[go_sem,O,U,J,T];refine⟨fun ρ H=>∃(k:Nat),k<=p.unserved.length/\ρ 2=.rp (aE x) 0/\ρ 52=.sl (p.unserved.map aQ)/\ρ 4=.os j4/\ρ 5=.os j5/\ρ 53=int (p.unserved.length:Nat)/\ρ 54=int k/\H j4=some (Ag (lZ x.orders.length p.routes))/\H j5=some (Ag (eJ x.orders.length (p.unserved.take k)))/\(∀u∈p.unserved.take k,bS u x.orders.length=false),fun ρ _=>p.unserved.length-aU (ρ 54),⟨0,Xab _,by simp only[go_sem,O,U,J,T],by simp only[go_sem,O,U,J,T],by simp only[go_sem,O,U,J,T],by simp only[go_sem,O,U,J,T],by simp only[go_sem,Xaa,O,U,J,T],(by simp only[go_sem,O,U,J,T];rfl),Y,Z,by simp⟩,?_⟩;rintro ρ H ⟨k,hk,O,ai,J,T,ae,ab,Y,Z,hz⟩;simp only[go_sem,O,ai,J,T,ae,ab];refine aA (fun X=>?_) (fun aa=>?_)
  ·have X:=ltB (by simpa using X);obtain⟨u,hu⟩:=aI X;have b1:=inB X;have hs:=aZ hu;have a6:∀i:Nat,(p.unserved.take k).countP (fun w=>w == (i:Int))<=k:=fun i=>Xal List.countP_le_length (by rw[Xav];omega)
   have ac:∀i:Nat,u=(i:Int)->i<x.orders.length->(eJ x.orders.length (p.unserved.take k)).set i (((p.unserved.take k).countP (fun w=>w == (i:Int)):Int)+1)=eJ x.orders.length (p.unserved.take (k+1)):=fun i h1 h2=>by rw[hs];exact SL h1 h2
   have a5:∀i:Nat,i<x.orders.length->(eJ x.orders.length (p.unserved.take k))[i]?=some ((p.unserved.take k).countP (fun w=>w == (i:Int)):Int):=fun i hi=>by unfold eJ;rw[List.getElem?_map,List.getElem?_range hi];rfl
   have ag:=a9 (p.unserved.take k);have bb:bS u x.orders.length=false->∀w∈p.unserved.take (k+1),bS w x.orders.length=false:=fun h=>aR hu h hz
   generalize p.unserved.take k=PU at *;simp only[go_sem,O,ai,J,T,ae,ab,aC hu,b1,Xaa];refine aA (fun hb=>?_) (fun hb=>?_)
   ·have ah:(p.unserved.any fun u=>bS u x.orders.length)=true:=Xak.2 ⟨u,Xac hu,hb⟩;rw[if_pos ah,if_pos ah,ah];simp only[go_sem];exact .refl _
   ·have a7:bS u x.orders.length=false:=hb;simp only[bS,Xam,decide_eq_false_iff_not]at hb;obtain⟨i,hi⟩:=Int.eq_ofNat_of_zero_le (show 0<=u by omega);have aj:i<x.orders.length:=by omega
    have hg:=a5 i aj;have bf:=a6 i;have b3:=inB (show i<(eJ x.orders.length PU).length by rw[ag];exact aj);subst hi;simp only[go_sem,O,ai,J,T,ae,ab,Z,aC hg,b3,Xaa];refine⟨by rw[ag];exact aj,?_⟩;rw[bD (by omega)];refine cC so3 Z (by simp[ag];omega) ?_;simp only[go_sem,O,ai,J,T,ae,ab,aW k];refine⟨⟨k+1,X,rfl,?_,?_,bb a7⟩,msr X⟩
    ·rw[aD _ _ _ _ av];exact Y
    ·rw[<-ac i rfl aj];simp[aQ,List.map_set,List.getD,hg]
  have aa:=geB hk (by simpa using aa);subst aa;rw[Xad]at Z hz;have ap:(p.unserved.any fun u=>bS u x.orders.length)=false:=Xap.2 fun u hu=>by rw[hz u hu];simp
  rw[ap,if_neg (by simp),if_neg (by simp)];simp only[go_sem,O,ai,J,T,ae,ab];exact .tup _ _ (.cons _ _ _ _ (.row _ _ _ Y (ConvE.refl _)) (.cons _ _ _ _ (.row _ _ _ Z (ConvE.refl _)) (.cons _ _ _ _ (.refl _) .nil)))
def qU(x:Instance)(p:Plan):Bool:=(List.range x.types.length).any fun i=>decide ((p.routes.countP (fun r=>r.type == (i:Int)):Int)>(x.types[i]?.map (·.count)).getD 0)
def afH(x:Instance)(p:Plan)(hx:x.types.length<=1000)(hp:PlanB p)(ht:∀r∈p.routes,0<=r.type/\r.type<(x.types.length:Int)):PC prog 33 [.agg (aE x),.agg (gK p)] (boo (qU x p)):=by
 have ao:=hp.routes;refine pcd func33 rfl rfl ?_;simp only[go_sem];refine⟨by omega,aJ fun j hj=>?_⟩;simp only[go_sem];have E:aH bY j (some ⟨3,1,List.replicate x.types.length [int 0]⟩) j=some (Ag (eJ x.types.length ([].map (·.type:Route->Int)))):=by rw[aB];exact GI _
 refine⟨fun ρ H=>∃(k:Nat),k<=p.routes.length/\ρ 2=.rp (aE x) 0/\ρ 15=.sl (p.routes.map bM)/\ρ 5=.os j/\ρ 16=int (p.routes.length:Nat)/\ρ 17=int k/\H j=some (Ag (eJ x.types.length ((p.routes.take k).map (·.type)))),fun ρ _=>p.routes.length-aU (ρ 17),⟨0,Xab _,by simp only[go_sem],by simp only[go_sem],by simp only[go_sem],by simp only[go_sem,Xaa],(by simp only[go_sem];rfl),E⟩,?_⟩;rintro ρ H ⟨k,hk,J,X,e5,T,Y,E⟩;simp only[go_sem,J,X,e5,T,Y];refine aA (fun A=>?_) (fun O=>?_)
 ·have A:=ltB (by simpa using A);obtain⟨r,hr⟩:=aI A;have b1:=inB A;have hs:(p.routes.take (k+1)).map (·.type)=(p.routes.take k).map (·.type)++[r.type]:=by rw[aZ hr,Xaw];rfl
  have am:((p.routes.take k).map (·.type)).length<=k:=by rw[Xaa,Xav];omega
  obtain⟨h0,h1⟩:=ht r (Xac hr);obtain⟨i,hi⟩:=Int.eq_ofNat_of_zero_le h0;have ae:i<x.types.length:=by omega
  generalize aq:(p.routes.take k).map (·.type)=PU at *;have F:(eJ x.types.length PU).length=x.types.length:=by simp[eJ]
  have hg:(eJ x.types.length PU)[i]?=some (PU.countP (fun w=>w == (i:Int)):Int):=by unfold eJ;rw[List.getElem?_map,List.getElem?_range ae];rfl
  have ap:PU.countP (fun w=>w == (i:Int))<=k:=Xal List.countP_le_length am;have af:=SL (l:=PU) hi ae;have b3:=inB (show i<(eJ x.types.length PU).length by rw[F];exact ae);simp only[go_sem,J,X,e5,T,Y,aC hr,b1];refine aJ fun i7 ac=>?_
  simp only[go_sem,J,X,e5,T,Y,aC hr,b1,E];refine bP ac (by simp[kS]) fun aj (R7:aj i7=some (⟨59,4,[bM r]⟩)) N=>?_
  replace E:=N E;obtain⟨ah,E⟩:=E;clear N ac;simp only[go_sem,J,X,e5,T,Y,aC hr,b1,R7,E];simp only[go_sem,J,X,e5,T,Y,R7,E,hi,aC hg,b3,Xaa];refine⟨by omega,?_⟩;rw[bD (by omega)];refine cC so3 E (by simp[F];omega) ?_;simp only[go_sem,J,X,e5,T,Y,aW k];refine⟨⟨k+1,A,rfl,?_⟩,msr A⟩;rw[hs,<-af];simp[aQ,List.map_set,List.getD,hg]
 have O:=geB hk (by simpa using O);subst O;rw[Xad]at E;have F:(eJ x.types.length (p.routes.map (·.type))).length=x.types.length:=by simp[eJ]
 have ak:∀i c,(eJ x.types.length (p.routes.map (·.type)))[i]?=some c->i<x.types.length/\c=(p.routes.countP (fun r=>r.type == (i:Int)):Int):=fun i c h=>by
  have hi:i<x.types.length:=by have:=(List.getElem?_eq_some_iff.1 h).1;rw[F]at this;exact this
  unfold eJ at h;rw[List.getElem?_map,List.getElem?_range hi]at h;injection h with h;refine⟨hi,h.symm.trans ?_⟩;show((List.countP _ (List.map _ p.routes):Nat):Int)=_;rw[List.countP_map];rfl
 generalize eJ x.types.length (p.routes.map (·.type))=U at *;simp only[go_sem,J,X,e5,T,Y,E];refine⟨fun ρ H=>∃(k:Nat),k<=x.types.length/\ρ 2=.rp (aE x) 0/\ρ 29=.os j/\ρ 30=int (x.types.length:Nat)/\ρ 31=int k/\H j=some (Ag U)/\(∀i∈(List.range x.types.length).take k,decide ((p.routes.countP (fun r=>r.type == ((i:Nat):Int)):Int)>(x.types[i]?.map (·.count)).getD 0)=false),fun ρ _=>x.types.length-aU (ρ 31),⟨0,Xab _,by simp only[go_sem,J,E,F],by simp only[go_sem,J,E,F],by simp only[go_sem,Xaa,J,E,F],(by simp only[go_sem,J,E,F];rfl),E,by simp⟩,?_⟩;rintro ρ H ⟨k,hk,J,ab,aa,Z,E,hz⟩;simp only[go_sem,J,ab,aa,Z,E];refine aA (fun A=>?_) (fun O=>?_)
 ·have A:=ltB (by simpa using A);obtain⟨t,ai⟩:=aI A;obtain⟨c,hc⟩:=aI (show k<U.length by omega);have b1:=inB A;have b2:=inB (show k<U.length by omega);obtain⟨_,an⟩:=ak k c hc;have al:(List.range x.types.length)[k]?=some k:=List.getElem?_range A;simp only[go_sem,J,ab,aa,Z,E,aC ai,aC hc,b1,b2,Xaa];have ag:decide ((p.routes.countP (fun r=>r.type == (k:Int)):Int)>(x.types[k]?.map (·.count)).getD 0)=decide (c>t.count):=by rw[ai,an];rfl
  refine⟨by omega,aA (fun hb=>?_) (fun hb=>?_)⟩
  ·rw[show qU x p=true from Xak.2 ⟨k,Xac al,ag.trans hb⟩];simp only[go_sem];exact .refl _
  ·simp only[go_sem,J,ab,aa,Z,aW k];exact⟨⟨k+1,A,rfl,E,aR al (ag.trans hb) hz⟩,msr A⟩
 have O:=geB hk (by simpa using O);subst O;rw[Xbb (by rw[Xck];exact Xae _)]at hz;rw[show qU x p=false from Xap.2 fun i hi=>by rw[hz i hi];simp];simp only[go_sem,J,ab,aa,Z];exact .refl _
end Sq
namespace Sq
open Go.Proofs.Tryz
open Go.Proofs.YthephioccidfgaaGreatDoor.Nu (ltB geB)
def A9(x:Instance)(p:Nat->Order->Bool):Bool:=(List.range x.orders.length).any fun i=>(x.orders[i]?.map (p i)).getD false
def aoR(x:Instance)(fn:AV)(g:Nat)(cap:List AV)(p:Nat->Order->Bool)(hl:x.orders.length<=1048576)
  (Z:LR fn=some (g,[],cap)) (hw:∀(G:Option Bool) (k:AV->Prop),bU G fn k=k fn) (Y:aF prog g=true) (hg:∀i o,x.orders[i]?=some o->PC prog g (int (i:Nat)::.agg (aY o)::cap) (boo (p i o))):
  PC prog 31 [fn,.rp (aE x) 0] (boo (A9 x p)):=by
 have hA:A9 x p=(List.range x.orders.length).any fun i=>(x.orders[i]?.map (p i)).getD false:=rfl
 generalize A9 x p=R at *;subst hA;refine pcd func31 rfl rfl ?_;simp only[go_sem];refine⟨fun ρ _=>∃k:Nat,k<=x.orders.length/\ρ 0=fn/\ρ 7=.sl (x.orders.map aY)/\ρ 8=int x.orders.length/\ρ 9=int k/\∀q∈(List.range x.orders.length).take k,(x.orders[q]?.map (p q)).getD false=false,fun ρ _=>x.orders.length-aU (ρ 9),⟨0,Xab _,by simp only[go_sem],by simp only[go_sem],by simp only[go_sem,Xaa],rfl,by simp⟩,?_⟩;rintro ρ H ⟨k,hk,h0,T,X,U,hz⟩;simp only[go_sem,h0,T,X,U];refine aA (fun F=>?_) (fun F=>?_)
 ·have A:=ltB F;obtain⟨o,O⟩:=aI A;have b1:=inB A;simp only[go_sem,h0,T,X,U,aC O,b1,Xaa];refine aJ fun i hi=>?_
  simp only[go_sem,h0];refine aM (aB _ _ _) (by simp[lX]) ?_;simp only[go_sem,h0,hw,Z,Y,aB];refine aO (hg k o O) ?_;simp only[go_sem,h0,T,X,U];have J:(List.range x.orders.length)[k]?=some k:=List.getElem?_range A;refine aA (fun F=>?_) (fun F=>?_)
  ·simp only[go_sem];have:((List.range x.orders.length).any fun i=>(x.orders[i]?.map (p i)).getD false)=true:=Xak.2 ⟨k,Xac J,by rw[O];exact F⟩;rw[this];exact .refl _
  ·simp only[go_sem,h0,T,X,U,aW k];refine⟨⟨k+1,A,rfl,?_⟩,by simp only[aN];omega⟩;rw[aZ J];intro q E;rcases Xat.1 E with E|E
   ·exact hz q E
   ·simp at E;subst E;rw[O];exact F
 ·have:=geB hk F;subst this;simp only[go_sem];have:((List.range x.orders.length).any fun i=>(x.orders[i]?.map (p i)).getD false)=false:=by rw[Xap];intro q E;rw[hz q (by rw[Xbb (by simp)];exact E)];simp
  rw[this];exact .refl _
def KF(o:Order)(i:Nat)(A us:List Int)(h1:i<A.length)(E:i<us.length):PC prog 32 [int i,.agg (aY o),.rp [.sl (A.map aQ)] 0,.rp [.sl (us.map aQ)] 0] (boo (decide (W (A.getD i 0+us.getD i 0)>1))):=by
 refine pcd func32 rfl rfl ?_;simp only[go_sem];obtain⟨r,J⟩:=aI h1;obtain⟨u,F⟩:=aI E;have T:=inB h1;have O:=inB E;refine mC (by rfl) (by kernel_rfl) ?_;simp only[go_sem,aC J,aC F,T,O,Xaa];rw[List.getD_eq_getElem?_getD,List.getD_eq_getElem?_getD,J,F]
 repeat' (first|exact .refl _|(refine⟨by omega,?_⟩))
def ayH(o:Order)(i:Nat)(us:List Int)(A:i<us.length):PC prog 34 [int i,.agg (aY o),.rp [.sl (us.map aQ)] 0] (boo (o.off&&decide (us.getD i 0>0))):=by
 refine pcd func34 rfl rfl ?_;simp only[go_sem];obtain⟨u,E⟩:=aI A;have F:=inB A;simp only[go_sem,aC E,F,Xaa];rw[List.getD_eq_getElem?_getD,E]
 repeat' (first|exact .refl _|(refine⟨fun _=>by omega,?_⟩))
def azL(o:Order)(i:Nat)(A us:List Int)(h1:i<A.length)(E:i<us.length):PC prog 35 [int i,.agg (aY o),.rp [.sl (A.map aQ)] 0,.rp [.sl (us.map aQ)] 0] (boo (!o.off&&(W (A.getD i 0+us.getD i 0) == 0||(decide (us.getD i 0>0)&&o.penalty == -1)))):=by refine pcd func35 rfl rfl ?_;simp only[go_sem];obtain⟨r,J⟩:=aI h1;obtain⟨u,F⟩:=aI E;have T:=inB h1;have O:=inB E;refine mC (by rfl) (by kernel_rfl) ?_;simp only[go_sem,aC J,aC F,T,O,Xaa];rw[List.getD_eq_getElem?_getD,List.getD_eq_getElem?_getD,J,F];exact .refl _
def sO:List Int->Int
 | []=>0
 | e::r=>if(e != 0)=true then e else sO r
def RN:∀{l:List Int} {k:Nat} {e:Int},(∀d∈l.take k,d=0)->l[k]?=some e->(e != 0)=true->sO l=e
 | [],k,e,_,h,_=>by simp at h
 | a::l,0,e,_,h,he=>by
  have:a=e:=by simpa using h
  subst this;rw[sO,if_pos he]
 | a::l,k+1,e,h0,h,he=>by have E:a=0:=h0 a (by simp);rw[sO,if_neg (by rw[E];simp)];exact RN (k:=k) (fun d A=>h0 d (by simp[A])) (by simpa using h) he
def NP:∀{l:List Int},(∀d∈l,d=0)->sO l=0
 | [],_=>rfl
 | a::l,h=>by rw[sO,if_neg (by rw[h a (by simp)];simp)];exact NP fun d A=>h d (by simp[A])
def G7(r u:List Int)(i:Nat)(_:Order):Bool:=decide (W (r.getD i 0+u.getD i 0)>1)
def uL(u:List Int)(i:Nat)(o:Order):Bool:=o.off&&decide (u.getD i 0>0)
def Bl(r u:List Int)(i:Nat)(o:Order):Bool:= !o.off&&(W (r.getD i 0+u.getD i 0) == 0||(decide (u.getD i 0>0)&&o.penalty == -1))
def dK(x:Instance)(p:Plan):Int:=
 if(sO (p.routes.map fun r=>(cG x r).2.2) != 0)=true then sO (p.routes.map fun r=>(cG x r).2.2)
 else if(p.unserved.any fun u=>bS u x.orders.length)=true then 2
 else if A9 x (G7 (lZ x.orders.length p.routes) (eJ x.orders.length p.unserved))=true then 6
 else if qU x p=true then 22
 else if A9 x (uL (eJ x.orders.length p.unserved))=true then 9
 else if A9 x (Bl (lZ x.orders.length p.routes) (eJ x.orders.length p.unserved))=true then 23
 else 0
def Fu(x:Instance)(p:Plan)(hx:EvalB x)(hn:x.orders.length<=62)(ae:x.types.length<=1000)(hp:PlanB p)(hv:∀r∈p.routes,r.visits.length<=1048575)(ht:sO (p.routes.map fun r=>(cG x r).2.2)=0->∀r∈p.routes,0<=r.type/\r.type<(x.types.length:Int)):
  PC prog 15 [.agg (aE x),.agg (gK p)] (int (dK x p)):=by
 obtain⟨R,hC⟩:∃R,R=dK x p:=⟨_,rfl⟩;rw[<-hC];unfold dK at hC;refine pcd func15 rfl rfl ?_;simp only[go_sem];refine⟨fun ρ _=>∃k:Nat,k<=p.routes.length/\ρ 2=.rp (aE x) 0/\ρ 3=.rp (gK p) 0/\ρ 13=.sl (p.routes.map bM)/\ρ 14=int p.routes.length/\ρ 15=int k/\∀d∈(p.routes.map fun r=>(cG x r).2.2).take k,d=0,fun ρ _=>p.routes.length-aU (ρ 15),⟨0,Xab _,by simp only[go_sem],by simp only[go_sem],by simp only[go_sem],by simp only[go_sem,Xaa],rfl,by simp⟩,?_⟩;rintro ρ H ⟨k,hk,E,h3,J,U,O,hz⟩;simp only[go_sem,E,h3,J,U,O];refine aA (fun A=>?_) (fun A=>?_)
 ·have T:=ltB A;obtain⟨r,hr⟩:=aI T;have b1:=inB T;have aa:(p.routes.map fun r=>(cG x r).2.2)[k]?=some (cG x r).2.2:=by rw[List.getElem?_map,hr];rfl
  simp only[go_sem,E,h3,J,U,O,aC hr,b1,Xaa];refine aJ fun i hi=>?_
  simp only[go_sem,E];refine aM (aB _ _ _) (by simp[kS]) ?_;simp only[go_sem,E,aB];refine aO (auV x r hx (hv r (Xac hr))) ?_;simp only[go_sem,E];refine aA (fun A=>?_) (fun A=>?_)
  ·simp only[go_sem];have e:=RN hz aa A;rw[hC,e,if_pos A];exact .refl _
  ·simp only[go_sem,E,h3,J,U,O,qK (show k<=4611686018427387904 by have:=hp.routes;omega)];refine⟨⟨k+1,T,rfl,?_⟩,by simp only[aN];omega⟩;rw[aZ aa];intro d hd;rcases Xat.1 hd with hd|hd
   ·exact hz d hd
   ·simp at hd;subst hd;simpa using A
 have ac:=geB hk A;subst ac;have he:sO (p.routes.map fun r=>(cG x r).2.2)=0:=NP (by rw[Xbb (by simp)]at hz;exact hz);rw[he,if_neg (by simp)]at hC;simp only[go_sem,E,h3];refine aO (apI x p hn hp) ?_;simp only[go_sem,E,h3];by_cases F:(p.unserved.any fun u=>bS u x.orders.length)=true
 ·rw[if_pos F]at hC;rw[F];simp only[if_true,List.map_nil];refine aJ fun i8 h8=>?_
  simp only[go_sem];refine aJ fun i9 h9=>?_
  simp only[go_sem];refine cC ⟨_,rfl,rfl⟩ (r:=⟨32,1,[[.sl []]]⟩) (by rw[aD _ _ _ _ (aV (aB _ _ _) h9)];exact aB _ _ _) (by simp) ?_;simp only[go_sem];refine cC ⟨_,rfl,rfl⟩ (r:=⟨32,1,[[.sl []]]⟩) (by rw[aD _ _ _ _ (Ne.symm (aV (aB _ _ _) h9))];exact aB _ _ _) (by simp) ?_;simp only[go_sem];refine aA (fun A=>?_) (fun A=>by cases A);simp only[go_sem];rw[hC];exact .refl _
 rw[if_neg F]at hC;have Z:(p.unserved.any fun u=>bS u x.orders.length)=false:=by simpa using F
 rw[Z];simp only[Xbi,if_false];refine aJ fun i8 h8=>?_
 simp only[go_sem];refine aJ fun i9 h9=>?_
 simp only[go_sem];refine cC ⟨_,rfl,rfl⟩ (r:=⟨32,1,[[.sl []]]⟩) (by rw[aD _ _ _ _ (aV (aB _ _ _) h9)];exact aB _ _ _) (by simp) ?_;simp only[go_sem];refine cC ⟨_,rfl,rfl⟩ (r:=⟨32,1,[[.sl []]]⟩) (by rw[aD _ _ _ _ (Ne.symm (aV (aB _ _ _) h9))];exact aB _ _ _) (by simp) ?_;simp only[go_sem];refine aA (fun A=>by cases A) (fun A=>?_);have ab:=aV (show aH H i8 (some ⟨32,1,[[.sl []]]⟩) i8=_ from aB _ _ _) h9;generalize hP:aH (aH _ i8 _) i9 _=G;have R9:G i9=some ⟨32,1,[[.sl ((eJ x.orders.length p.unserved).map aQ)]]⟩:=by rw[<-hP,aB]
 have R8:G i8=some ⟨32,1,[[.sl ((lZ x.orders.length p.routes).map aQ)]]⟩:=by rw[<-hP,aD _ _ _ _ ab,aB]
 clear hP h8 h9;simp only[go_sem,E,h3];have lr:(lZ x.orders.length p.routes).length=x.orders.length:=by simp[lZ]
 have lu:(eJ x.orders.length p.unserved).length=x.orders.length:=by simp[eJ]
 have Y:x.orders.length<=1048576:=by omega
 have A2:=aoR x (.fn 32 [.rp [.sl ((lZ x.orders.length p.routes).map aQ)] 0,.rp [.sl ((eJ x.orders.length p.unserved).map aQ)] 0]) 32 _ (G7 (lZ x.orders.length p.routes) (eJ x.orders.length p.unserved)) Y rfl (fun _ _=>rfl) (by kernel_rfl) (fun i o X=>KF o i _ _ (by rw[lr];exact(List.getElem?_eq_some_iff.1 X).1) (by rw[lu];exact(List.getElem?_eq_some_iff.1 X).1));have A3:=aoR x (.fn 34 [.rp [.sl ((eJ x.orders.length p.unserved).map aQ)] 0]) 34 _ (uL (eJ x.orders.length p.unserved)) Y rfl (fun _ _=>rfl) (by kernel_rfl) (fun i o X=>ayH o i _ (by rw[lu];exact(List.getElem?_eq_some_iff.1 X).1));have A4:=aoR x (.fn 35 [.rp [.sl ((lZ x.orders.length p.routes).map aQ)] 0,.rp [.sl ((eJ x.orders.length p.unserved).map aQ)] 0]) 35 _ (Bl (lZ x.orders.length p.routes) (eJ x.orders.length p.unserved)) Y rfl (fun _ _=>rfl) (by kernel_rfl) (fun i o X=>azL o i _ _ (by rw[lr];exact(List.getElem?_eq_some_iff.1 X).1) (by rw[lu];exact(List.getElem?_eq_some_iff.1 X).1));have C8:Conv G (.op i8 0 0) (.rp [.sl ((lZ x.orders.length p.routes).map aQ)] 0):=.ptr _ _ _ _ _ R8 (Nat.zero_lt_succ 0) (ConvL.refl _);have C9:Conv G (.op i9 0 0) (.rp [.sl ((eJ x.orders.length p.unserved).map aQ)] 0):=.ptr _ _ _ _ _ R9 (Nat.zero_lt_succ 0) (ConvL.refl _);refine Be.use ⟨_,.cons _ _ _ _ (.fn _ _ _ (.cons _ _ _ _ C8 (.cons _ _ _ _ C9 .nil))) (ConvL.refl _),A2,rfl⟩ ?_;simp only[go_sem,E,h3];refine aA (fun A=>?_) (fun A=>?_)
 ·rw[if_pos A]at hC;simp only[go_sem];rw[hC];exact .refl _
 rw[if_neg (by rw[A];simp)]at hC;simp only[go_sem,E,h3];refine aO (afH x p ae hp (ht he)) ?_;simp only[go_sem,E,h3];refine aA (fun A=>?_) (fun A=>?_)
 ·rw[if_pos A]at hC;simp only[go_sem];rw[hC];exact .refl _
 rw[if_neg (by rw[A];simp)]at hC;simp only[go_sem,E,h3];refine Be.use ⟨_,.cons _ _ _ _ (.fn _ _ _ (.cons _ _ _ _ C9 .nil)) (ConvL.refl _),A3,rfl⟩ ?_;simp only[go_sem,E,h3];refine aA (fun A=>?_) (fun A=>?_)
 ·rw[if_pos A]at hC;simp only[go_sem];rw[hC];exact .refl _
 rw[if_neg (by rw[A];simp)]at hC;simp only[go_sem,E,h3];refine Be.use ⟨_,.cons _ _ _ _ (.fn _ _ _ (.cons _ _ _ _ C8 (.cons _ _ _ _ C9 .nil))) (ConvL.refl _),A4,rfl⟩ ?_;simp only[go_sem,E,h3];refine aA (fun A=>?_) (fun A=>?_)
 ·rw[if_pos A]at hC;simp only[go_sem];rw[hC];exact .refl _
 rw[if_neg (by rw[A];simp)]at hC;simp only[go_sem];rw[hC];exact .refl _
end Sq
namespace Sq
open Go.Proofs.Tryz
def arS(s:Score):PC prog 83 [.agg (bE s)] (.agg (bE s)):=by
 refine pcd func83 rfl rfl ?_;simp only[go_sem];refine aJ fun j A=>?_
 simp only[go_sem]
 repeat' (first|(refine⟨by decide,?_⟩)|(simp only[go_sem]))
 refine aM (aB _ _ _) (by simp) ?_;simp only[go_sem];exact .refl _
def ahZ(a b:Score)(k:Nat):List AV:=[int (if 0<k then W (a.cost+b.cost)else a.cost),int (if 1<k then W (a.moved+b.moved)else a.moved),int (if 2<k then W (a.other+b.other)else a.other),int (if 3<k then W (a.work+b.work)else a.work)]
abbrev FM(l:List AV):Row:=⟨131,4,[l]⟩
def akU(a b:Score):PC prog 44 [.agg (bE a),.agg (bE b)] (.agg (bE (kN a b))):=by
 refine pcd func44 rfl rfl ?_;simp only[go_sem];refine aJ fun Z h4=>?_
 generalize hP:aH bY Z _=G;have O:G Z=some ⟨82,4,[[int 0,int 0,int 0,int 0]]⟩:=by rw[<-hP];exact aB _ _ _
 clear hP h4;simp only[go_sem];refine nK [] (.q 0 (.q 1 (.q 2 (.q 3 (.a2 4 (.a1 5 (.a1 6 (.a1 7 .nil))) 5 (.a1 4 (.a1 6 (.a1 7 .nil)))))))) (fun Y H'=>∃i5 i6:Nat,i5≠i6/\Z≠i5/\Y 4=.op Z 0 0/\Y 5=.op i5 0 0/\Y 6=.op i6 0 0/\H' Z=some ⟨82,4,[[int 0,int 0,int 0,int 0]]⟩/\H' i5=some (FM (bE a))/\H' i6=some (FM (bE b))) (by simp) (by kernel_rfl) (fun K' aa Hp Hr _ hr _ _=>?_) ?_
 ·obtain rfl:Hr=G:=funext fun k=>hr k (by simp)
  simp only[go_sem];refine⟨_,(BN a).q rfl,?_⟩;simp only[go_sem];refine⟨_,(BN b).q rfl,?_⟩;simp only[go_sem];refine lF ?_ ?_
  all_goals
   simp only[go_sem];refine aJ fun x hx=>?_
   have n1:=aV O hx;simp only[go_sem];refine aJ fun y hy=>?_
   have X:=aV (jW O hx) hy;have T:x≠y:=fun e=>by subst e;rw[aB]at hy;cases hy
   simp only[go_sem]
  ·refine aM (r:=⟨131,4,[[int 0,int 0,int 0,int 0]]⟩) (by rw[aD _ _ _ _ T];exact aB _ _ _) (by simp[cE]) ?_;simp only[go_sem];refine aM (r:=⟨131,4,[[int 0,int 0,int 0,int 0]]⟩) (by rw[aD _ _ _ _ (Ne.symm T)];exact aB _ _ _) (by simp[cE]) ?_;simp only[go_sem];refine fF fun _ Hm _ hm=>?_
   obtain rfl:Hm=_:=funext fun k=>hm k (by simp)
   refine aa _ _ ⟨x,y,T,n1,by simp only[go_sem],by simp only[go_sem],by simp only[go_sem],?_,?_,aB _ _ _⟩
   ·rw[aD _ _ _ _ X,aD _ _ _ _ n1,aD _ _ _ _ X,aD _ _ _ _ n1];exact O
   ·rw[aD _ _ _ _ T];exact aB _ _ _
  ·refine aM (r:=⟨131,4,[[int 0,int 0,int 0,int 0]]⟩) (aB _ _ _) (by simp[cE]) ?_;simp only[go_sem];refine aM (r:=⟨131,4,[[int 0,int 0,int 0,int 0]]⟩) (by rw[aD _ _ _ _ T,aD _ _ _ _ T];exact aB _ _ _) (by simp[cE]) ?_;simp only[go_sem];refine fF fun _ Hm _ hm=>?_
   obtain rfl:Hm=_:=funext fun k=>hm k (by simp)
   refine aa _ _ ⟨y,x,Ne.symm T,X,by simp only[go_sem],by simp only[go_sem],by simp only[go_sem],?_,?_,aB _ _ _⟩
   ·rw[aD _ _ _ _ n1,aD _ _ _ _ X,aD _ _ _ _ X,aD _ _ _ _ n1];exact O
   ·rw[aD _ _ _ _ (Ne.symm T)];exact aB _ _ _
 ·rintro ρ H ⟨i5,i6,n1,X,A,J,F,O,U,R6⟩;simp only[go_sem,A,J,F];refine⟨fun ρ H=>∃k:Nat,k<=4/\ρ 4=.op Z 0 0/\ρ 5=.op i5 0 0/\ρ 6=.op i6 0 0/\ρ 12=int k/\H Z=some ⟨82,4,[[int 0,int 0,int 0,int 0]]⟩/\H i5=some (FM (ahZ a b k))/\H i6=some (FM (bE b)),fun ρ _=>4-aU (ρ 12),⟨0,by omega,by simp only[go_sem,A],by simp only[go_sem,J],by simp only[go_sem,F],rfl,O,U,R6⟩,?_⟩;clear A J F O U R6;rintro ρ H ⟨k,hk,A,J,F,E,O,U,R6⟩;simp only[go_sem,A,J,F,E];refine aA (fun hb=>?_) (fun hb=>?_)
  ·have ab:k<4:=by simp at hb;omega
   obtain rfl|rfl|rfl|rfl:k=0\/k=1\/k=2\/k=3:=by omega
   all_goals
    simp only[go_sem,A,J,F,E];refine C3 [] (.q 0 (.q 1 (.q 3 (.q 4 (.a2 2 (.a1 5 (.q 6 (.q 7 (.a1 8 .nil)))) 5 (.a1 2 (.q 6 (.q 7 (.a1 8 .nil))))))))) (by simp) (by kernel_rfl) fun Hp Hr _ hr _ _=>?_
    obtain rfl:Hr=H:=funext fun k=>hr k (by simp)
    simp only[go_sem,A,J,F,E,U,R6,ahZ,bE];refine⟨by decide,by decide,?_⟩;refine lF ?_ ?_
    all_goals
     simp only[go_sem,A,J,F,E,U,R6,ahZ,bE]
     repeat' (first|(refine⟨by decide,?_⟩)|(simp only[go_sem,A,J,F,E,U,R6,ahZ,bE]))
     refine cC so3 U (by simp[ahZ]) ?_;simp only[go_sem];refine fF fun _ Hm _ hm=>?_
     obtain rfl:Hm=_:=funext fun k=>hm k (by simp)
     simp only[go_sem,A,J,F,E];refine⟨⟨_,ab,rfl,?_,?_,?_⟩,by decide⟩
     ·rw[aD _ _ _ _ X];exact O
     ·rfl
     ·rw[aD _ _ _ _ (Ne.symm n1)];exact R6
  ·have h4:k=4:=by simp at hb;omega
   subst h4;simp only[go_sem,A,J,F,U];refine aO (arS (kN a b)) ?_;simp only[go_sem,A];refine aM O (by simp[cE]) ?_;simp only[go_sem,A,aB];exact .refl _
end Sq
namespace Sq
open Go.Proofs.Tryz
open Go.Proofs.YthephioccidfgaaGreatDoor.Nu (ltB geB)
abbrev kP(s:Score):Row:=⟨82,4,[bE s]⟩
def nH(x:Instance)(l:List Route):Score:=(l.map fun r=>(cG x r).2.1).foldl kN aX
def Dg(x:Instance)(s:Score)(l:List Int):Score:=(l.map fun u=>(bH x u).1).foldl kN s
def X3(x:Instance)(u:Int):PC prog 45 [.agg (aE x),int u] (.tup [.agg (bE (bH x u).1),int (bH x u).2]):=by
 have h:=Nu.HL x u;have J:Go.Aw.D.bE (Nu.bH x u).1=bE (bH x u).1/\(Nu.bH x u).2=(bH x u).2:=by
  unfold Nu.bH bH;by_cases F:bS u x.orders.length=true
  ·have A:Nu.bS u x.orders.length=true:=F;rw[if_pos F,if_pos A];exact⟨rfl,rfl⟩
  ·have A:¬Nu.bS u x.orders.length=true:=F;rw[if_neg F,if_neg A];cases x.orders[u.toNat]? with
   | none=>exact⟨rfl,rfl⟩
   | some o=>
    show Go.Aw.D.bE (Nu.cX o).1=bE (cX o).1/\(Nu.cX o).2=(cX o).2;unfold Nu.cX cX;by_cases h1:o.off=true
    ·rw[if_pos h1,if_pos h1];exact⟨rfl,rfl⟩
    ·rw[if_neg h1,if_neg h1];by_cases E:(o.penalty == -1)=true
     ·rw[if_pos E,if_pos E];exact⟨rfl,rfl⟩
     ·rw[if_neg E,if_neg E];exact⟨rfl,rfl⟩
 rw[J.1,J.2]at h;exact h
def atW(x:Instance)(p:Plan)(hx:EvalB x)(hn:x.orders.length<=62)(aw:x.types.length<=1000)(hp:PlanB p)(hv:∀r∈p.routes,r.visits.length<=1048575)(ht:sO (p.routes.map fun r=>(cG x r).2.2)=0->∀r∈p.routes,0<=r.type/\r.type<(x.types.length:Int))
  (h0:dK x p=0) (ay:∀r∈p.routes,(cG x r).2.2=0) (az:∀u∈p.unserved,(bH x u).2=0):PC prog 20 [.agg (aE x),.agg (gK p)] (.tup [.agg (bE (Dg x (nH x p.routes) p.unserved)),int 0]):=by
 have a5:=hp.routes;have a4:=hp.unserved;refine pcd func20 rfl rfl ?_;simp only[go_sem];refine fR fun i4 aq av (O:aq i4=some (kP aX)) N=>?_
 clear N av;simp only[go_sem,O];refine aO (Fu x p hx hn aw hp hv ht) ?_;rw[h0];simp only[go_sem];refine aA (fun hb=>by cases hb) (fun hb=>?_);simp only[go_sem];refine fR fun i7 au ao (X:au i7=some (kP aX)) N=>?_
 replace O:=N O;obtain⟨ac,O⟩:=O;clear N ao;simp only[go_sem,X,O];refine⟨fun ρ H=>∃(k:Nat),k<=p.routes.length/\ρ 2=.rp (aE x) 0/\ρ 3=.rp (gK p) 0/\ρ 4=.op i4 0 0/\ρ 7=.op i7 0 0/\ρ 25=.sl (p.routes.map bM)/\ρ 26=int (p.routes.length:Nat)/\ρ 27=int k/\H i4=some (kP aX)/\H i7=some (kP (nH x (p.routes.take k))),fun ρ _=>p.routes.length-aU (ρ 27),⟨0,Xab _,by simp only[go_sem],by simp only[go_sem],by simp only[go_sem],by simp only[go_sem],by simp only[go_sem],by simp only[go_sem,Xaa],(by simp only[go_sem];rfl),O,X⟩,?_⟩;rintro ρ H ⟨k,hk,U,e3,J,T,F,A,E,O,X⟩;simp only[go_sem,U,e3,J,T,F,A,E];refine aA (fun Y=>?_) (fun ae=>?_)
 ·have Y:=ltB (by simpa using Y);obtain⟨r,hr⟩:=aI Y;have b1:=inB Y;have he:=ay r (Xac hr);simp only[go_sem,U,e3,J,T,F,A,E,aC hr,b1,Xaa];refine aJ fun i9 ag=>?_
  simp only[go_sem,U,e3,J,T,F,A,E,O,X];refine bP ag (by simp[kS]) fun ap (R9:ap i9=some (⟨59,4,[bM r]⟩)) N=>?_
  replace O:=N O;obtain⟨am,O⟩:=O;replace X:=N X;obtain⟨an,X⟩:=X;clear N ag;simp only[go_sem,U,e3,J,T,F,A,E,R9,O,X];refine aO (DV x r hx (hv r (Xac hr))) ?_;rw[he];simp only[go_sem,U,e3,J,T,F,A,E];refine aJ fun al ai=>?_
  have n4:=aV O ai;have n7:=aV X ai;simp only[go_sem,U,e3,J,T,F,A,E];refine aJ fun i11 af=>?_
  have m4:i4≠i11:=fun e=>by rw[<-e,aD _ _ _ _ n4,O]at af;cases af
  have m7:i7≠i11:=fun e=>by rw[<-e,aD _ _ _ _ n7,X]at af;cases af
  have ar:al≠i11:=fun e=>by rw[<-e,aB]at af;cases af
  simp only[go_sem,U,e3,J,T,F,A,E];refine aM (by rw[aD _ _ _ _ ar];exact aB _ _ _) (by simp[fW]) ?_;simp only[go_sem,U,e3,J,T,F,A,E];refine aM (by rw[aD _ _ _ _ (Ne.symm ar)];exact aB _ _ _) (by simp[cE]) ?_;generalize hP:aH (aH (aH (aH _ al _) i11 _) al _) i11 _=HP;replace O:HP i4=some (kP aX):=by rw[<-hP,aD _ _ _ _ m4,aD _ _ _ _ n4,aD _ _ _ _ m4,aD _ _ _ _ n4];exact O
  replace X:HP i7=some (kP (nH x (p.routes.take k))):=by rw[<-hP,aD _ _ _ _ m7,aD _ _ _ _ n7,aD _ _ _ _ m7,aD _ _ _ _ n7];exact X
  have ax:HP i11=some (kP (cG x r).2.1):=by rw[<-hP];exact aB _ _ _
  clear hP ai af;simp only[go_sem,U,e3,J,T,F,A,E];refine aA (fun hb=>by cases hb) (fun hb=>?_);simp only[go_sem,U,e3,J,T,F,A,E,X,ax];refine aO (akU _ _) ?_;simp only[go_sem,U,e3,J,T,F,A,E];refine aM X (by simp[cE]) ?_;generalize hQ:aH HP i7 _=HQ;have aj:i4≠i7:=by first|exact ac|exact ne_i7_i4.symm
  replace O:HQ i4=some (kP aX):=by rw[<-hQ,aD _ _ _ _ aj];exact O
  replace X:HQ i7=some (kP (kN (nH x (p.routes.take k)) (cG x r).2.1)):=by rw[<-hQ,aB];rfl
  clear hQ;simp only[go_sem,U,e3,J,T,F,A,E,aW k];refine⟨⟨k+1,Y,rfl,O,?_⟩,by simp only[aN];omega⟩;rw[aZ hr];unfold nH;rw[Xaw,Xbq];exact X
 have ae:=geB hk (by simpa using ae);subst ae;rw[Xad]at X;simp only[go_sem,U,e3,J,T,F,A,E];generalize nH x p.routes=S0 at *;refine⟨fun ρ H=>∃(k:Nat),k<=p.unserved.length/\ρ 2=.rp (aE x) 0/\ρ 4=.op i4 0 0/\ρ 7=.op i7 0 0/\ρ 47=.sl (p.unserved.map aQ)/\ρ 48=int (p.unserved.length:Nat)/\ρ 49=int k/\H i4=some (kP aX)/\H i7=some (kP (Dg x S0 (p.unserved.take k))),fun ρ _=>p.unserved.length-aU (ρ 49),⟨0,Xab _,by simp only[go_sem,U,e3,J,T,F,A,E],by simp only[go_sem,U,e3,J,T,F,A,E],by simp only[go_sem,U,e3,J,T,F,A,E],by simp only[go_sem,U,e3,J,T,F,A,E],by simp only[go_sem,Xaa,U,e3,J,T,F,A,E],(by simp only[go_sem,U,e3,J,T,F,A,E];rfl),O,X⟩,?_⟩;rintro ρ H ⟨k,hk,U,J,T,ab,aa,Z,O,X⟩;simp only[go_sem,U,J,T,ab,aa,Z];refine aA (fun Y=>?_) (fun ae=>?_)
 ·have Y:=ltB (by simpa using Y);obtain⟨u,hu⟩:=aI Y;have b1:=inB Y;have he:=az u (Xac hu);simp only[go_sem,U,J,T,ab,aa,Z,aC hu,b1,Xaa];have hU:=X3 x u;rw[he]at hU;refine aO hU ?_;simp only[go_sem,U,J,T,ab,aa,Z];refine aJ fun ak ah=>?_
  have m4:=aV O ah;have m7:=aV X ah;simp only[go_sem,U,J,T,ab,aa,Z];refine aM (aB _ _ _) (by simp[cE]) ?_;generalize hP:aH (aH _ ak _) ak _=HP;replace O:HP i4=some (kP aX):=by rw[<-hP,aD _ _ _ _ m4,aD _ _ _ _ m4];exact O
  replace X:HP i7=some (kP (Dg x S0 (p.unserved.take k))):=by rw[<-hP,aD _ _ _ _ m7,aD _ _ _ _ m7];exact X
  have a0:HP ak=some (kP (bH x u).1):=by rw[<-hP];exact aB _ _ _
  clear hP ah;simp only[go_sem,U,J,T,ab,aa,Z];refine aA (fun hb=>by cases hb) (fun hb=>?_);simp only[go_sem,U,J,T,ab,aa,Z,X,a0];refine aO (akU _ _) ?_;simp only[go_sem,U,J,T,ab,aa,Z];refine aM X (by simp[cE]) ?_;generalize hQ:aH HP i7 _=HQ;have aj:i4≠i7:=by first|exact ac|exact ne_i7_i4.symm
  replace O:HQ i4=some (kP aX):=by rw[<-hQ,aD _ _ _ _ aj];exact O
  replace X:HQ i7=some (kP (kN (Dg x S0 (p.unserved.take k)) (bH x u).1)):=by rw[<-hQ,aB];rfl
  clear hQ;simp only[go_sem,U,J,T,ab,aa,Z,aW k];refine⟨⟨k+1,Y,rfl,O,?_⟩,by simp only[aN];omega⟩;rw[aZ hu];unfold Dg;rw[Xaw,Xbq];exact X
 have ae:=geB hk (by simpa using ae);subst ae;rw[Xad]at X;simp only[go_sem,U,J,T,ab,aa,Z,X];refine aM O (by simp[cE]) ?_;simp only[go_sem,U,J,T,ab,aa,Z,aB];exact .refl _
end Sq
namespace Sq
open Go.Proofs.Tryz
def PN(x:Instance)(p:Plan)(X:EvalB x)(Z:x.orders.length<=62)(E:x.types.length<=1000)(O:PlanB p)(Y:∀r∈p.routes,r.visits.length<=1048575)(U:sO (p.routes.map fun r=>(cG x r).2.2)=0->∀r∈p.routes,0<=r.type/\r.type<(x.types.length:Int))
  (h0:dK x p=0) (A:∀r∈p.routes,(cG x r).2.2=0) (F:∀u∈p.unserved,(bH x u).2=0):PC prog 9 [.agg (aE x),.agg (gK p)] (.tup [int (fV (Dg x (nH x p.routes) p.unserved)).1,int (fV (Dg x (nH x p.routes) p.unserved)).2]):=by
 have T:=atW x p X Z E O Y U h0 A F;generalize Dg x (nH x p.routes) p.unserved=S at *;refine pcd func9 rfl rfl ?_;simp only[go_sem];refine aO T ?_;simp only[go_sem];refine aJ fun i hi=>?_
 simp only[go_sem];refine aM (aB _ _ _) (by simp[cE]) ?_;simp only[go_sem];refine aA (fun J=>by cases J) (fun J=>?_);simp only[go_sem,aB];refine aO (CQ S) ?_;simp only[go_sem];exact .refl _
end Sq
namespace Nu
open Go.Proofs.Tryz
open Go.Nu
open Dec (iS dR cN mG oV)
open Sq (EvalB kC dK cG Dg nH bH sO PlanB)
open Ps (PrOk)
open Go.Proofs.YthephioccidfgaaGreatDoor.Ve (rX PathsOf Dl)
def lvW(x:Instance)(d:Nat)(no:Bool)(price:Int):List TNode->List (List Decision)->Int
 | n::l,ds::D=>if n.leaf=false then lvW x d no price l D else if(no&&n.kind == 1)=true then 28 else if(EL x d ds n price != 0)=true then EL x d ds n price else lvW x d no price l D
 | _,_=>0
def vB(x:Instance)(n:TNode):Bool:= !n.leaf&&iS x [n.choice,oV n.choice] != 0
def gN(x:Instance)(p:Plan):Int×Int:=Sq.fV (Dg x (nH x p.routes) p.unserved)
def nA(x:Instance)(d:Nat)(p:Proof)(b:Bool)(D:List (List Decision)):Int:=
 if b=false then 29
 else if(p.nodes.any (vB x))=true then 29
 else if(!p.noPlan&&dK x p.plan != 0)=true then dK x p.plan
 else if(!p.noPlan&&(gN x p.plan).2 != 0)=true then(gN x p.plan).2
 else lvW x d p.noPlan (if p.noPlan=true then 0 else(gN x p.plan).1) p.nodes D
structure PlanW(x:Instance)(p:Plan):Prop where
 b:PlanB p
 visits:∀r∈p.routes,r.visits.length<=1048575
 type:sO (p.routes.map fun r=>(cG x r).2.2)=0->∀r∈p.routes,0<=r.type/\r.type<(x.types.length:Int)
 ev:dK x p=0->∀r∈p.routes,(cG x r).2.2=0
 un:dK x p=0->∀u∈p.unserved,(Sq.bH x u).2=0
def zQ(x:Instance)(d:Nat)(p:Proof)(h:PrOk x d)(b:Bool)(av:b=true↔rX p.nodes)(D:List (List Decision))(hD:b=true->PathsOf p.nodes D)(hl:p.nodes.length<=1048576)(hp:p.noPlan=false->PlanW x p.plan)
  (hL:∀n ds,n∈p.nodes->ds∈D->LeafB x n ds (if p.noPlan=true then 0 else(gN x p.plan).1)):PC prog 7 [.agg (aE x),.agg (dY p)] (int (nA x d p b D)):=by
 obtain⟨R,U⟩:∃R,R=nA x d p b D:=⟨_,rfl⟩;rw[<-U];unfold nA at U;refine pcb (fun t=>t == 65) func7 rfl rfl ?_;simp only[go_sem];refine aO (Ve.amA p.nodes b av hl) ?_;simp only[go_sem];refine aA (fun O=>?_) (fun O=>?_)
 ·rw[if_pos (by simpa using O)]at U;subst U;simp only[go_sem];exact .refl _
 have aw:b=true:=by simpa using O
 subst aw;rw[if_neg (by decide)]at U;have ht:=av.1 rfl;have hP:=hD rfl;simp only[go_sem,Xaa];refine⟨fun ρ H=>∃(k:Nat),k<=p.nodes.length/\ρ 2=.rp (aE x) 0/\ρ 3=.rp (dY p) 0/\ρ 21=.sl (p.nodes.map bR)/\ρ 22=int (p.nodes.length:Nat)/\ρ 23=int k/\(∀n∈p.nodes.take k,vB x n=false),fun ρ _=>p.nodes.length-aU (ρ 23),⟨0,Xab _,by simp only[go_sem],by simp only[go_sem],by simp only[go_sem],by simp only[go_sem,Xaa],(by simp only[go_sem];rfl),by simp⟩,?_⟩;rintro ρ H ⟨k,hk,X,J,A,E,F,Z⟩;simp only[go_sem,X,J,A,E,F];refine aA (fun T=>?_) (fun ae=>?_)
 ·have T:=ltB (by simpa using T);obtain⟨n,hn⟩:=aI T;have b1:=inB T;simp only[go_sem,X,J,A,E,F,aC hn,b1,Xaa];refine aJ fun i6 ai=>?_
  simp only[go_sem,X,J,A,E,F];refine bP ai (by simp[jG]) fun ar (R6:ar i6=some (⟨54,10,[bR n]⟩)) N=>?_
  clear N ai;simp only[go_sem,X,J,A,E,F,R6];refine jI [i6] [(0,true),(1,true),(2,true),(3,true),(4,true),(5,true),(6,true),(7,true),(8,true),(9,true),(10,false),(11,true),(12,true),(13,true)] (by simp[R6]) (by kernel_rfl) fun Hp Hr hp hr _ ay=>?_
  have au:=(hp i6 (by simp)).trans R6;simp only[go_sem,X,J,A,E,F,au];refine⟨_,fun _=>(Dec.aiW n.choice).q rfl,?_⟩;simp only[go_sem];refine⟨_,fun _=>(Dec.arL x [n.choice,oV n.choice] (by simp)).q rfl,?_⟩;simp only[go_sem];refine qF hr ?_;simp only[go_sem];refine aA (fun am=>?_) (fun am=>?_)
  ·rw[if_pos (Xak.2 ⟨n,Xac hn,am⟩)]at U;subst U;simp only[go_sem];exact .refl _
  simp only[go_sem,X,J,A,E,F,aW k];exact⟨⟨k+1,T,rfl,gP (p:=fun n=>vB x n=false) hn am Z⟩,by simp only[aN];omega⟩
 have ae:=geB hk (by simpa using ae);subst ae;rw[Xad]at Z;rw[if_neg (by simp only[Xak,not_exists,not_and];intro q hq;simp[Z q hq])]at U;simp only[go_sem,X,J,A,E,F];generalize ag:(if p.noPlan=true then(0:Int)else(gN x p.plan).1)=pr at *;refine bQ (fun ak H'=>ak 2=.rp (aE x) 0/\ak 3=.rp (dY p) 0/\ak 7=int pr/\R=lvW x d p.noPlan pr p.nodes D) ?_ fun K hK=>aA (fun O=>?_) (fun O=>?_)
 rotate_left
 ·have af:p.noPlan=false:=by simpa using O
  have hW:=hp af;rw[af]at U ag;simp only[Xcg,Xbc]at U;rw[if_neg (by decide)]at ag;simp only[go_sem,X,J,A,E,F];refine aO (Sq.Fu x p.plan h.ev (Xal h.n8 (by decide)) h.ty hW.b hW.visits hW.type) ?_;simp only[go_sem,X,J,A,E,F];refine aA (fun O=>?_) (fun O=>?_)
  ·rw[if_pos O]at U;subst U;simp only[go_sem];exact .refl _
  rw[if_neg (by rw[O];simp)]at U;have h0:dK x p.plan=0:=by simpa using O
  simp only[go_sem,X,J,A,E,F];refine aO (Sq.PN x p.plan h.ev (Xal h.n8 (by decide)) h.ty hW.b hW.visits hW.type h0 (hW.ev h0) (hW.un h0)) ?_;simp only[go_sem,X,J,A,E,F];refine aA (fun O=>?_) (fun O=>?_)
  ·rw[if_pos (show((gN x p.plan).2 != 0)=true from O)]at U;subst U;simp only[go_sem];exact .refl _
  rw[if_neg (show ¬((gN x p.plan).2 != 0)=true from fun h=>Bool.noConfusion (O.symm.trans h))]at U;simp only[go_sem,X,J,A,E,F];refine hK _ _ ⟨by simp only[go_sem,X,J,A,E,F],by simp only[go_sem,X,J,A,E,F],?_,by rw[af];exact U⟩;simp only[go_sem,X,J,A,E,F];exact congrArg int ag
 ·have af:p.noPlan=true:=by simpa using O
  rw[af]at U ag;rw[if_pos rfl]at ag;rw[if_neg (by simp),if_neg (by simp)]at U;simp only[go_sem,X,J,A,E,F];exact hK _ _ ⟨by simp only[go_sem,X,J,A,E,F],by simp only[go_sem,X,J,A,E,F],by simp only[go_sem,X,J,A,E,F];rw[<-ag],by rw[af];exact U⟩
 clear X J A E F U;rintro ρ H ⟨X,J,e7,U⟩;simp only[go_sem,X];refine⟨by simp,aJ fun j hj=>?_⟩;have R0:=aB H j (some (oN x false));generalize hG:aH H j _=G;replace R0:G j=some (oN x false):=hG▸R0;clear hG hj;simp only[go_sem,J];refine aO (Go.Proofs.YthephioccidfgaaGreatDoor.Ve.Z7 p.nodes D ht hP) ?_;simp only[go_sem,Xaa];refine⟨fun ρ H=>∃(k:Nat),k<=D.length/\ρ 3=.rp (dY p) 0/\ρ 7=int pr/\ρ 11=.op j 0 0/\ρ 68=.sl (D.map Dl)/\ρ 69=int (D.length:Nat)/\ρ 70=int k/\(∃b,H j=some (oN x b))/\R=lvW x d p.noPlan pr (p.nodes.drop k) (D.drop k),fun ρ _=>D.length-aU (ρ 70),⟨0,Xab _,by simp only[go_sem,J,e7],by simp only[go_sem,J,e7],by simp only[go_sem,J,e7],by simp only[go_sem,J,e7],by simp only[go_sem,Xaa,J,e7],(by simp only[go_sem,J,e7];rfl),⟨false,R0⟩,U⟩,?_⟩;rintro ρ H ⟨k,hk,J,e7,aa,ab,ac,Y,Rj,Z⟩;simp only[go_sem,J,e7,aa,ab,ac,Y];refine aA (fun T=>?_) (fun ae=>?_)
 ·have T:=ltB (by simpa using T);obtain⟨b,Rj⟩:=Rj;obtain⟨ds,an⟩:=aI T;have aq:k<p.nodes.length:=by rw[<-hP.len];exact T
  obtain⟨n,hn⟩:=aI aq;have b1:=inB T;have b2:=inB aq;rw[Sq.Ez hn,Sq.Ez an,lvW]at Z;simp only[go_sem,J,e7,aa,ab,ac,Y,aC hn,aC an,b1,b2,Xaa,Dl];refine aJ fun ax ah=>?_
  simp only[go_sem,J,e7,aa,ab,ac,Y,Rj];refine bP ah (by simp[jG]) fun al (aj:al ax=some (⟨54,10,[bR n]⟩)) N=>?_
  replace Rj:=N Rj;obtain⟨ao,Rj⟩:=Rj;clear N ah;simp only[go_sem,J,e7,aa,ab,ac,Y,aj,Rj];have ap:k<=4611686018427387904:=by omega
  refine aA (fun O=>?_) (fun O=>?_)
  ·rw[if_pos (by simpa using O)]at Z;simp only[go_sem,J,e7,aa,ab,ac,Y,qK ap];exact⟨⟨k+1,T,rfl,⟨b,Rj⟩,Z⟩,by simp only[aN];omega⟩
  have hlf:n.leaf=true:=by simpa using O
  rw[if_neg (by rw[hlf];decide)]at Z;simp only[go_sem,J,e7,aa,ab,ac,Y,aj];refine aA (fun O=>?_) (fun O=>?_)
  ·rw[if_pos O]at Z;subst Z;simp only[go_sem];exact .refl _
  rw[if_neg (fun h=>Bool.noConfusion (O.symm.trans h))]at Z;simp only[go_sem,J,e7,aa,ab,ac,Y,aj];refine azA x h b ds n pr (hL n ds (Xac hn) (Xac an)) Rj fun H2 b' R2=>?_
  simp only[go_sem];refine aA (fun O=>?_) (fun O=>?_)
  ·rw[if_pos O]at Z;subst Z;simp only[go_sem];exact .refl _
  rw[if_neg (fun h=>Bool.noConfusion (O.symm.trans h))]at Z;simp only[go_sem,J,e7,aa,ab,ac,Y,qK ap];exact⟨⟨k+1,T,rfl,⟨b',R2⟩,Z⟩,by simp only[aN];omega⟩
 have ae:=geB hk (by simpa using ae);subst ae;rw[Xca,hP.len,Xca]at Z;simp only[go_sem];rw[Z];exact .refl _
end Nu
namespace Vy
open Go.Proofs.YthephioccidfgaaGreatDoor.Nu (vB)
open Dec (iS kV mT oV lM fE kF YB FK)
open Sq (dK cG oF sO G7 uL Bl A9 lZ eJ pN oH iF jF okV W qU)
open Go.Proofs.YthephioccidfgaaGreatDoor.Ve (rX PathsOf Dl fN F7)
def CZ:∀{l:List Int},sO l=0->∀e∈l,e=0
 | [],_,e,A=>by cases A
 | a::l,h,e,A=>by
  unfold sO at h;split at h
  ·next h1=>subst h;simp at h1
  ·next h1=>
   rcases Xba.1 A with rfl|A
   ·simpa using h1
   ·exact CZ h e A
structure PlanA(x:Instance)(p:Plan):Prop where
 ev:∀r∈p.routes,(cG x r).2.2=0
 un:∀u∈p.unserved,bS u x.orders.length=false
 two:A9 x (G7 (lZ x.orders.length p.routes) (eJ x.orders.length p.unserved))=false
 crowd:qU x p=false
 gone:A9 x (uL (eJ x.orders.length p.unserved))=false
 miss:A9 x (Bl (lZ x.orders.length p.routes) (eJ x.orders.length p.unserved))=false
def nJ{x:Instance}{p:Plan}(h:dK x p=0):PlanA x p:=by
 unfold dK at h;split at h
 ·next h1=>rw[h]at h1;simp at h1
 next h1=>
 have h0:sO (p.routes.map fun r=>(cG x r).2.2)=0:=by simpa using h1
 repeat (split at h;· cases h)
 next h2 h3 h4 h5 h6=>
 exact⟨fun r E=>CZ h0 _ (Xan.2 ⟨r,E,rfl⟩),fun u A=>by simpa using(Xap.1 (by simpa using h2)) u A,by simpa using h3,by simpa using h4,by simpa using h5,by simpa using h6⟩
def Bo{x:Instance}{r:Route}(h:(cG x r).2.2=0):(0<=r.type/\r.type<(x.types.length:Int))/\∀v∈r.visits,0<=v.order/\v.order<(x.orders.length:Int):=by
 unfold cG at h;split at h
 ·cases h
 next h1=>
 split at h
 ·next A=>rw[show oF x r.visits=0 from h]at A;simp at A
 next A=>
 have A:oF x r.visits=0:=by simpa using A
 refine⟨by simp[bS]at h1;omega,fun v E=>?_⟩;unfold oF at A;split at A
 ·cases A
 next h3=>
 simp only[Xax,not_or,Xbu,Xap]at h3;have:=h3.2 v E;simp[bS]at this;omega
def Bp{x:Instance}{f:Nat->Order->Bool}(h:A9 x f=false){i:Nat}{o:Order}(A:x.orders[i]?=some o):f i o=false:=by have:=Xap.1 h i (Xai.2 (List.getElem?_eq_some_iff.1 A).1);rw[A]at this;simpa using this
def AH{r:Route}(h:kF r)(i:Nat):oH r i=if fE r (i:Nat)=true then 1 else 0:=by
 have F:r.visits.all okV=true:=Xaj.2 fun v E=>by have:=h v E;simp[okV];omega
 have e:(iF r.visits).1=((jF r.visits:Nat):Int):=by unfold iF;rw[if_pos F]
 unfold oH;rw[e,<-Dec.OW h (Int.natCast_nonneg i)];unfold Dec.mG;rw[Xao];generalize ((jF r.visits:Nat):Int)/2^i=q;by_cases A:q%2=1
 ·rw[if_pos (by simpa using A)];exact A
 ·rw[if_neg (by simpa using A)];omega
def sum_one{α:Type}(f:α->Int):∀(l:List α),(∀a∈l,0<=f a)->0<=(l.map f).sum/\∀(i:Nat) (a:α),l[i]?=some a->f a<=(l.map f).sum
 | [],_=>⟨Xaz _,fun i a h=>by simp at h⟩
 | b::l,h=>by
  obtain⟨h1,E⟩:=sum_one f l fun a F=>h a (by simp[F])
  have J:=h b (by simp);simp only[Xaq,List.sum_cons];refine⟨by omega,fun i a A=>?_⟩;cases i with
  | zero=>simp at A;subst A;omega
  | succ i=>have:=E i a (by simpa using A);omega
def Js{α:Type}(f:α->Int):∀(l:List α),(∀a∈l,0<=f a)->∀(i j:Nat) (a b:α),i<j->l[i]?=some a->l[j]?=some b->f a+f b<=(l.map f).sum
 | [],_,i,j,a,b,_,hi,_=>by simp at hi
 | c::l,h,i,j,a,b,hij,hi,A=>by
  obtain⟨h1,F⟩:=sum_one f l fun a E=>h a (by simp[E])
  have J:=h c (by simp);simp only[Xaq,List.sum_cons];cases j with
  | zero=>omega
  | succ j=>
   have A:l[j]?=some b:=by simpa using A
   cases i with
   | zero=>simp at hi;subst hi;have:=F j b A;omega
   | succ i=>have:=Js f l (fun a E=>h a (by simp[E])) i j a b (by omega) (by simpa using hi) A;omega
def PlanA.single{x:Instance}{p:Plan}(h:PlanA x p)(hn:x.orders.length<=62)(hl:p.routes.length<=1048576)(hu:p.unserved.length<=1048576)(i j:Nat)(r s:Route)(hi:p.routes[i]?=some r)(X:p.routes[j]?=some s)(o:Int)(h0:0<=o)(h1:o<(x.orders.length:Int))(O:fE r o=true)(hs:fE s o=true):i=j:=by
 obtain⟨k,rfl⟩:=Int.eq_ofNat_of_zero_le h0;have T:k<x.orders.length:=by omega
 obtain⟨od,J⟩:=aI T;have F:=Bp h.two J;have E:∀r∈p.routes,kF r:=fun r O v hv=>by have:=(Bo (h.ev r O)).2 v hv;omega
 have e1:(lZ x.orders.length p.routes).getD k 0=pN p.routes k:=by unfold lZ;simp[List.getD,T]
 have e2:(eJ x.orders.length p.unserved).getD k 0=(p.unserved.countP (fun u=>u == (k:Int)):Int):=by unfold eJ;simp[List.getD,T]
 have aa:=Sq.Pg p.routes k;have ab:=List.countP_le_length (p:=fun u=>u == (k:Int)) (l:=p.unserved);have Z:pN p.routes k<=1:=by unfold G7 at F;rw[e1,e2]at F;simp only[decide_eq_false_iff_not]at F;have:W (pN p.routes k+(p.unserved.countP (fun u=>u == (k:Int)):Int))=pN p.routes k+(p.unserved.countP (fun u=>u == (k:Int)):Int):=bD (by omega);rw[this]at F;omega
 have A:∀r∈p.routes,0<=oH r k:=fun r _=>(Sq.I2 r k).1
 have b1:oH r k=1:=by rw[AH (E r (Xac hi)),if_pos O]
 have b2:oH s k=1:=by rw[AH (E s (Xac X)),if_pos hs]
 unfold pN at Z;rcases Nat.lt_trichotomy i j with U|he|Y
 ·have:=Js (fun r=>oH r k) p.routes A i j r s U hi X;rw[b1,b2]at this;omega
 ·exact he
 ·have:=Js (fun r=>oH r k) p.routes A j i s r Y X hi;rw[b1,b2]at this;omega
def avS{x:Instance}{c e:Decision}(h:iS x [c,e]=0):Dec.dR x c=0/\Dec.dR x e=0:=by unfold iS at h;rw[if_neg (by simp)]at h;exact⟨mT h _ (by simp),mT h _ (by simp)⟩
def MM:∀{l:List TNode} {D:List (List Decision)} {i:Nat} {a:TNode} {d:List Decision},l[i]?=some a->D[i]?=some d->a.leaf=true->d∈fN l D
 | [],_,_,_,_,h,_,_=>by simp at h
 | _::_,[],_,_,_,_,h,_=>by simp at h
 | b::l,e::D,0,a,d,h1,h2,h3=>by simp at h1 h2;subst h1;subst h2;unfold fN;rw[if_pos h3];exact List.mem_cons_self
 | b::l,e::D,i+1,a,d,h1,h2,h3=>by
  have:=MM (l:=l) (D:=D) (i:=i) (by simpa using h1) (by simpa using h2) h3;unfold fN;split
  ·exact List.mem_cons_of_mem _ this
  ·exact this
def aAw{x:Instance}{l:List TNode}{D:List (List Decision)}{q:Plan}(ht:rX l)(hP:PathsOf l D)(hb:∀n∈l,vB x n=false)(h:PlanA x q)(hn:x.orders.length<=62)(hl:q.routes.length<=1048576)(hu:q.unserved.length<=1048576):∃d∈fN l D,lM x d q=true:=by
 have aa:∀r∈q.routes,kF r:=fun r A v hv=>by have:=(Bo (h.ev r A)).2 v hv;omega
 obtain⟨ac,_,A,hc,_⟩:=ht;have F:l≠[]:=by rintro rfl;simp at ac
 have Y:∀m:Nat,(∃d∈fN l D,lM x d q=true)\/∃(i:Nat) (d:List Decision),F7 l i d/\lM x d q=true/\d.length=m:=by
  intro m;induction m with
  | zero=>exact .inr ⟨0,[],.root,rfl,rfl⟩
  | succ m ih=>
   rcases ih with ih|⟨i,d,E,X,Z⟩
   ·exact .inl ih
   have hi:=Go.Ve.aiT A E F;obtain⟨a,J⟩:=aI hi;cases O:a.leaf with
   | true=>left;obtain⟨e,he⟩:=aI (show i<D.length by rw[hP.len];exact hi);have:e=d:=Go.Ve.Ap hc A (hP.way i e he) E;subst this;exact⟨e,MM J he O,X⟩
   | false=>
    right;have T:=hb a (Xac J);unfold vB at T;rw[O]at T;obtain⟨k1,k2⟩:=avS (show iS x [a.choice,oV a.choice]=0 by simpa using T);obtain⟨y,n,hy,ab⟩:=Ve.zW A J O;rcases YB hn k1 k2 aa hl (h.single hn hl hu)with U|U
    ·exact⟨n,d++[oV a.choice],.no E J O ab,by unfold lM at *;rw[List.all_append,X];exact U,by simp[Z]⟩
    ·exact⟨y,d++[a.choice],.yes E J O hy,by unfold lM at *;rw[List.all_append,X];exact U,by simp[Z]⟩
 rcases Y l.length with h|⟨i,d,E,_,Z⟩
 ·exact h
 ·have:=Ve.adA A hc F E;omega
end Vy
namespace Nu.Ps
open Go.Nu Go.So
open Dec (iS dR cN mG)
open Sq (EvalB BestQ kC tU pH cY)
end Nu.Ps
namespace Nu.Ps
open Go.Nu Go.So
open Dec (iS dR cN mG)
open Sq (EvalB BestQ kC tU pH cY gL)
def C6{x:Instance}(h:Acc x)(U:x.orders.length<=8):PrOk x (gX x.types).toNat:=by
 obtain⟨A,E⟩:=Kg h;have h1:=h.arcs;have X:=h.types;have h3:=h.apart;have Z:=h.before;refine⟨⟨⟨by omega,fun a F=>(h.arc a F).travel,fun a F=>by have:=(h.arc a F).slow;omega⟩,?_,by omega,by omega⟩,U,by omega,A,E⟩;obtain⟨t,r,Y⟩:=List.exists_cons_of_ne_nil E;have J:gL x=(t.cap.length:Nat):=by grind[gL]
 have hc:=(A.cap t (by grind)).1;have T:=A.dims;exact⟨by omega,fun o O=>by rw[J,(A.load o O).1];omega,by omega⟩
def aA2(a:Ask3):Bool:=(((((decide ((a.x.orders.length:Int)>3)||decide ((a.x.types.length:Int)>3))||decide ((a.cuts.length:Int)>8))||decide ((a.d.length:Int)>8))||decide ((a.dual.length:Int)>40))||decide (((kZ a.x).length:Int)>0))
def VL(a:Ask3):Bool:= !aA2 a&&a.dual.all fun s=> !decide ((s.size:Int)>60)
end Nu.Ps
namespace Vy
open Go.Proofs.YthephioccidfgaaGreatDoor.Nu (LeafB PlanW)
open Sq (dK cG sO G7 uL Bl A9 lZ eJ bH PlanB W)
def PlanA.unserved{x:Instance}{p:Plan}(h:PlanA x p)(u:Int)(O:u∈p.unserved):(bH x u).2=0:=by
 have J:=h.un u O;have h0:0<=u/\u<(x.orders.length:Int):=by simp[bS]at J;omega
 obtain⟨i,rfl⟩:=Int.eq_ofNat_of_zero_le h0.1;have T:i<x.orders.length:=by omega
 obtain⟨o,F⟩:=aI T;have E:=Bp h.gone F;have A:=Bp h.miss F;have e:(eJ x.orders.length p.unserved).getD i 0=(p.unserved.countP (fun u=>u == (i:Int)):Int):=by unfold eJ;simp[List.getD,T]
 have U:0<p.unserved.countP (fun u=>u == (i:Int)):=List.countP_pos_iff.2 ⟨_,O,by simp⟩;unfold uL at E;unfold Bl at A;rw[e]at E A;rw[decide_eq_true (show(p.unserved.countP (fun u=>u == (i:Int)):Int)>0 by omega),Xbo]at E;rw[decide_eq_true (show(p.unserved.countP (fun u=>u == (i:Int)):Int)>0 by omega),E]at A;simp only[Xcg,Xbc,Xam]at A;unfold bH;rw[if_neg (by rw[show bS (i:Int) x.orders.length=false from J];decide),Xao,F];show(Sq.cX o).2=0;unfold Sq.cX;rw[if_neg (by rw[E];decide),if_neg (by rw[A.2];decide)]
def KR{x:Instance}{p:Plan}(h1:p.routes.length<=1048576)(E:p.unserved.length<=1048576)(h3:∀r∈p.routes,r.visits.length<=1048575):PlanW x p where
 b:=⟨h1,fun r A=>by have:=h3 r A;omega,E⟩
 visits:=h3
 type:=fun h r A=>(Bo (CZ h _ (Xan.2 ⟨r,A,rfl⟩))).1
 ev:=fun h=>(nJ h).ev
 un:=fun h=>(nJ h).unserved
def aaX{x:Instance}{p:Plan}:Nu.nG (Nu.gN x p).1:=by
 unfold Nu.gN Sq.fV Nu.nG;split
 ·decide
 ·split
  ·decide
  ·exact Rx.BI _
end Vy
namespace Nu
open Go.Proofs.Tryz
open Go.Nu
open Dec (iS dR cN mG oV)
open Sq (EvalB kC dK cG Dg nH sO PlanB)
open Ps (PrOk)
open Go.Proofs.YthephioccidfgaaGreatDoor.Ve (rX PathsOf Dl fN F7)
def vxO:Order:=⟨⟨#[111]⟩,[1],⟨-1,0,0,0⟩,⟨1,0,40,0⟩,0,-1,1,-1,-1,false⟩
def vxT:VType:=⟨⟨#[118]⟩,1,0,0,[1],0,0,0,60,100,0,20,1,0⟩
def vxN:Network:=⟨[⟨#[65]⟩,⟨#[66]⟩],[⟨0,1,0,20,[⟨0,10⟩],[]⟩,⟨1,0,0,20,[⟨0,10⟩],[]⟩]⟩
def vxX(c:Int):Instance:=⟨vxN,[vxT],[{ vxO with drop:=⟨1,0,c,0⟩ }],[],[]⟩
def vxL(k:Int)(d:List ByteArray):TNode:=⟨true,k,[],d,⟨0,0,0,0⟩,0,0⟩
def vxP(s:ByteArray):Proof:=⟨false,⟨[⟨0,0,[],[⟨0,true⟩]⟩],[]⟩,[vxL 1 [s,⟨#[48]⟩]]⟩
def s60:ByteArray:=⟨#[49,48,48,54,54,51,50,57,54,48]⟩
def s59:ByteArray:=⟨#[49,48,48,54,54,51,50,57,53,57]⟩
def vxQ:Proof:=⟨true,⟨[],[]⟩,[vxL 2 [⟨#[49]⟩,⟨#[48]⟩]]⟩
def vx_1:nA (vxX 40) 1 (vxP s60) true [[]]=0:=by decide +kernel
def vx_2:nA (vxX 40) 1 (vxP s59) true [[]]=26:=by decide +kernel
def vx_3:nA (vxX 5) 1 vxQ true [[]]=0:=by decide +kernel
abbrev T2(p a t:List (List AV))(o:AV):Row:=⟨30,6,[[.sl p,.sl a,.sl t,o,.sl [],.sl []]]⟩
abbrev Xk(r n:List (List AV)):Row:=⟨37,4,[[boo false,.sl r,.sl [],.sl n]]⟩
abbrev aoH(l:List Order):Row:=⟨78,16,l.map aY⟩
def ahC{H:aG}{K:AV->aG->Prop}(hK:∀j H',H' j=some (aoH [vxO])->K (.tup [.agg [.sl (vxN.places.map Go.Aw.D.dZ),.sl (vxN.arcs.map fK),.sl [bB vxT],.os j,.sl [],.sl []],.agg (dY (vxP s60))]) H'):bK prog 18 [] H K:=by
 refine bK.body (c:=f18.body.getD .skip) (fun t=>t == 24) mixed func18 rfl (by kernel_rfl) ?_;unfold f18;simp only[Xbr];simp only[go_sem];refine fR fun i0 am aj (F:am i0=some (T2 [] [] [] (.sl []))) N=>?_
 clear N aj;simp only[go_sem,F];refine fR fun i1 ap al (J:ap i1=some (Xk [] [])) N=>?_
 replace F:=N F;obtain⟨aa,F⟩:=F;clear N al;simp only[go_sem,J,F];refine aJ fun i2 ag=>?_
 simp only[go_sem,F,J];refine bP ag (by simp) fun ao (U:ao i2=some (T2 (vxN.places.map Go.Aw.D.dZ) [] [] (.sl []))) N=>?_
 replace F:=N F;obtain⟨E,F⟩:=F;replace J:=N J;obtain⟨A,J⟩:=J;clear N ag;simp only[go_sem,U,F,J];refine cC ⟨_,rfl,rfl⟩ U (by simp) ?_;generalize Z:aH _ i2 _=HP;replace F:=kpA Z (by first|exact E|exact ne_i2_i0.symm) F;replace J:=kpA Z (by first|exact A|exact ne_i2_i1.symm) J;replace U:HP i2=some (T2 (vxN.places.map Go.Aw.D.dZ) (vxN.arcs.map fK) [] (.sl [])):=upS Z;clear Z;simp only[go_sem,U,F,J];refine cC ⟨_,rfl,rfl⟩ U (by simp) ?_;generalize Z:aH _ i2 _=HP;replace F:=kpA Z (by first|exact E|exact ne_i2_i0.symm) F;replace J:=kpA Z (by first|exact A|exact ne_i2_i1.symm) J;replace U:HP i2=some (T2 (vxN.places.map Go.Aw.D.dZ) (vxN.arcs.map fK) [bB vxT] (.sl [])):=upS Z;clear Z;simp only[go_sem,U,F,J];refine fR fun j au ar (Rj:au j=some (aoH [vxO])) N=>?_
 replace F:=N F;obtain⟨ac,F⟩:=F;replace J:=N J;obtain⟨ae,J⟩:=J;replace U:=N U;obtain⟨X,U⟩:=U;clear N ar;simp only[go_sem,Rj,F,J,U];refine cC ⟨_,rfl,rfl⟩ U (by simp) ?_;generalize Z:aH _ i2 _=HP;replace F:=kpA Z (by first|exact E|exact ne_i2_i0.symm) F;replace J:=kpA Z (by first|exact A|exact ne_i2_i1.symm) J;replace Rj:=kpA Z (by first|exact ne_j_i2|exact X.symm) Rj;replace U:HP i2=some (T2 (vxN.places.map Go.Aw.D.dZ) (vxN.arcs.map fK) [bB vxT] (.os j)):=upS Z;clear Z;simp only[go_sem,U,F,J,Rj];refine aJ fun i3 ah=>?_
 simp only[go_sem,F,J,U,Rj];refine bP ah (by simp) fun aq (R3:aq i3=some (Xk [bM ⟨0,0,[],[⟨0,true⟩]⟩] [])) N=>?_
 replace F:=N F;obtain⟨T,F⟩:=F;replace J:=N J;obtain⟨O,J⟩:=J;replace U:=N U;obtain⟨ab,U⟩:=U;replace Rj:=N Rj;obtain⟨Y,Rj⟩:=Rj;clear N ah;simp only[go_sem,R3,F,J,U,Rj];refine cC ⟨_,rfl,rfl⟩ R3 (by simp) ?_;generalize Z:aH _ i3 _=HP;replace F:=kpA Z (by first|exact T|exact ne_i3_i0.symm) F;replace J:=kpA Z (by first|exact O|exact ne_i3_i1.symm) J;replace U:=kpA Z (by first|exact ab|exact ne_i3_i2.symm) U;replace Rj:=kpA Z (by first|exact Y|exact ne_i3_j.symm) Rj;replace R3:HP i3=some (Xk [bM ⟨0,0,[],[⟨0,true⟩]⟩] [bR (vxL 1 [s60,⟨#[48]⟩])]):=upS Z;clear Z;simp only[go_sem,R3,F,J,U,Rj];refine jI [i2,i3] [(0,true),(1,true),(2,false),(3,false)] (by simp[U,R3]) (by kernel_rfl) fun Hp Hr hp hr _ av=>?_
 have ak:=(hp i2 (by simp)).trans U;have an:=(hp i3 (by simp)).trans R3;have af:=(hr i0 (by simp[E,T])).trans F;have ai:=(hr i1 (by simp[A,O])).trans J;simp only[go_sem,ak,an,af,ai];refine aM af (by simp) ?_;simp only[go_sem];refine aM ((aD _ _ _ _ aa.symm).trans ai) (by simp) ?_;simp only[go_sem];refine fF fun _ Hm _ h2=>?_
 have M0:Hm i0=some (T2 (vxN.places.map Go.Aw.D.dZ) (vxN.arcs.map fK) [bB vxT] (.os j)):=by rw[h2 i0 (by simp[E,T]),aD _ _ _ _ aa,aB]
 have M1:Hm i1=some (Xk [bM ⟨0,0,[],[⟨0,true⟩]⟩] [bR (vxL 1 [s60,⟨#[48]⟩])]):=by rw[h2 i1 (by simp[A,O]),aB]
 have Mj:Hm j=some (aoH [vxO]):=by rw[h2 j (by simp[X.symm,Y]),aD _ _ _ _ ae.symm,aD _ _ _ _ ac.symm,hr j (by simp[X.symm,Y])];exact Rj
 simp only[go_sem,M0,M1];exact hK j Hm Mj
def apF(c:Int):LoadsOk (vxX c) 1 where
 dims:=by decide
 orders:=by simp[vxX]
 types:=by simp[vxX]
 load:=by intro o A;simp[vxX]at A;subst A;simp[vxO]
 cap:=by intro t E;simp[vxX]at E;subst E;simp[vxT]
def aAJ:Sq.NetOk vxN where
 arcs:=by decide
 travel:=by intro a A;simp[vxN]at A;rcases A with rfl|rfl <;> decide +kernel
 slow:=by intro a A;simp[vxN]at A;rcases A with rfl|rfl <;> decide
def axY(c:Int):PrOk (vxX c) 1 where
 ev:=⟨aAJ,⟨by simp[vxX,vxT,Sq.gL],by intro o A;simp[vxX]at A;subst A;rfl,by simp[vxX]⟩,by simp[vxX],by simp[vxX]⟩
 n8:=by simp[vxX]
 ty:=by simp[vxX]
 lo:=apF c
 ne:=by simp[vxX]
def SM{n:TNode}(h:n.leaf=true):rX [n]:=⟨by simp,by simp,by simp[Ve.tY,Go.Ve.nC,h],by simp[Go.Ve.qX,Go.Ve.cnt,Go.Ve.qQ,h],fun k A=>⟨[],by
 obtain rfl:k=0:=by simp at A;omega
 exact .root⟩⟩
def Mm(n:TNode):PathsOf [n] [[]]:=⟨rfl,fun k d h=>by
 cases k with
 | zero=>cases h;exact .root
 | succ k=>simp at h,fun d A=>by simp at A;subst A;simp⟩
def Zl(c:Int)(k E:Int)(d:List ByteArray)(J:VarB d)(O:nG E):LeafB (vxX c) (vxL k d) [] E where
 types:=by intro t F;simp[vxX]at F;subst F;exact⟨by decide,by decide⟩
 cuts:=by intro q A;cases A
 dsn:=by intro q A;cases A
 dl:=by simp
 cl:=by simp[vxL]
 dual:=J
 price:=O
def aiC:PlanW (vxX 40) (vxP s60).plan where
 b:=⟨by decide,by decide,by decide⟩
 visits:=by decide
 type:=fun _=>by decide
 ev:=fun _=>by decide +kernel
 un:=fun _=>by decide +kernel
def axE(s:ByteArray)(J:s.size<=1048576):PC prog 7 [.agg (aE (vxX 40)),.agg (dY (vxP s))] (int (nA (vxX 40) 1 (vxP s) true [[]])):=
 zQ (vxX 40) 1 (vxP s) (axY 40) true ⟨fun _=>SM rfl,fun _=>rfl⟩ [[]] (fun _=>Mm _) (by simp[vxP]) (fun _=>aiC) fun n ds F A=>by
  simp[vxP]at F;simp at A;subst F;subst A;refine Zl 40 1 _ _ ⟨by simp,fun t E=>?_⟩ (show nG (gN (vxX 40) (vxP s60).plan).1 from⟨by decide +kernel,by decide +kernel⟩);simp at E;rcases E with rfl|rfl
  ·exact J
  ·decide
def aBu:PC prog 7 [.agg (aE (vxX 5)),.agg (dY vxQ)] (int 0):=by
 have h:=zQ (vxX 5) 1 vxQ (axY 5) true ⟨fun _=>SM rfl,fun _=>rfl⟩ [[]] (fun _=>Mm _) (by simp[vxQ]) (fun h=>by cases h) fun n ds E A=>by simp[vxQ]at E;simp at A;subst E;subst A;refine Zl 5 2 _ _ ⟨by simp,by decide⟩ ⟨by decide,by decide⟩
 rw[vx_3]at h;exact h
def vxC:Decision:=⟨5,0,0,0⟩
def vxA:Proof:=⟨false,⟨[],[]⟩,[⟨false,0,[],[],vxC,2,1⟩,vxL 0 [],vxL 0 []]⟩
def vxB:Proof:=⟨false,⟨[],[]⟩,[⟨false,0,[],[],⟨0,0,0,0⟩,1,1⟩,vxL 0 []]⟩
def Y8:∀k,k<3->F7 vxA.nodes k (([[],[oV vxC],[vxC]]:List (List Decision)).getD k [])
 | 0,_=>.root
 | 1,_=>.no (d:=[]) .root (rfl:vxA.nodes[0]?=some _) rfl rfl
 | 2,_=>.yes (d:=[]) .root (rfl:vxA.nodes[0]?=some _) rfl rfl
def agW:PC prog 19 [.agg (dY vxA)] (.tup [.sl ([[oV vxC],[vxC]].map Dl),int 0]):=
 Go.Proofs.YthephioccidfgaaGreatDoor.Ve.ZI vxA true ⟨fun _=>⟨by decide,by decide,by decide,by decide,fun k A=>⟨_,Y8 k A⟩⟩,fun _=>rfl⟩ [[],[oV vxC],[vxC]] (fun _=>⟨rfl,fun k d h=>by have A:k<3:=(List.getElem?_eq_some_iff.1 h).1;have:=Y8 k A;rw[List.getD,h]at this;exact this,by decide⟩) (by decide)
def agY:PC prog 19 [.agg (dY vxB)] (.tup [.sl [],int 29]):=
 Go.Proofs.YthephioccidfgaaGreatDoor.Ve.ZI vxB false ⟨fun h=>(by cases h),fun h=>absurd h.2.2.2.1 (by decide)⟩ [] (fun h=>(by cases h)) (by decide)
def Qz{H:aG}{j:Nat}(c:Int)(A:H j=some (aoH (vxX c).orders))(p:AV):ConvL H [.agg [.sl (vxN.places.map Go.Aw.D.dZ),.sl (vxN.arcs.map fK),.sl [bB vxT],.os j,.sl [],.sl []],p] [.agg (aE (vxX c)),p]:=
 .cons _ _ _ _ (.agg _ _ (.cons _ _ _ _ (.refl _) (.cons _ _ _ _ (.refl _) (.cons _ _ _ _ (.refl _) (.cons _ _ _ _ (.row _ _ _ A (ConvE.refl _)) (ConvL.refl _)))))) (ConvL.refl _)
def Az:PC prog 8 [] (boo true):=by
 have h1:=axE s60 (by decide);rw[vx_1]at h1;have h2:=axE s59 (by decide);rw[vx_2]at h2;have h3:=aBu;have h4:PC prog 19 [.agg (dY vxA)] (.tup [.sl [[.sl [[int 6,int 0,int 0,int 0]]],[.sl [[int 5,int 0,int 0,int 0]]]],int 0]):=agW;have h5:=agY;refine pcd func8 rfl rfl ?_;simp only[go_sem];refine ahC fun j H E=>?_
 simp only[go_sem];refine fR fun i1 Z aa (J:Z i1=some (T2 [] [] [] (.sl []))) N=>?_
 replace E:=N E;obtain⟨T,E⟩:=E;clear N aa;simp only[go_sem,J,E];refine fR fun i2 Y X (U:Y i2=some (Xk [] [])) N=>?_
 replace J:=N J;obtain⟨A,J⟩:=J;replace E:=N E;obtain⟨F,E⟩:=E;clear N X;simp only[go_sem,U,J,E];refine aM J (by simp) ?_;generalize O:aH _ i1 _=HP;replace U:=kpA O (by first|exact ne_i2_i1|exact A.symm) U;replace E:=kpA O (by first|exact T|exact ne_i1_j.symm) E;replace J:HP i1=some (T2 (vxN.places.map Go.Aw.D.dZ) (vxN.arcs.map fK) [bB vxT] (.os j)):=upS O;clear O;simp only[go_sem,J,U,E];refine aM U (by simp[EM]) ?_;generalize O:aH _ i2 _=HP;replace J:=kpA O (by first|exact A|exact ne_i2_i1.symm) J;replace E:=kpA O (by first|exact F|exact ne_i2_j.symm) E;replace U:HP i2=some (Xk [bM ⟨0,0,[],[⟨0,true⟩]⟩] [bR (vxL 1 [s60,⟨#[48]⟩])]):=upS O;clear O;simp only[go_sem,U,J,E];refine dS.use ⟨_,Qz 40 E _,h1,rfl⟩ ?_;simp only[go_sem];refine cC ⟨_,rfl,rfl⟩ U (by simp) ?_;generalize O:aH _ i2 _=HP;replace J:=kpA O (by first|exact A|exact ne_i2_i1.symm) J;replace E:=kpA O (by first|exact F|exact ne_i2_j.symm) E;replace U:HP i2=some (Xk [bM ⟨0,0,[],[⟨0,true⟩]⟩] [bR (vxL 1 [s59,⟨#[48]⟩])]):=upS O;clear O;simp only[go_sem,U,J,E];refine dS.use ⟨_,Qz 40 E _,h2,rfl⟩ ?_;simp only[go_sem,J,E];refine⟨⟨by decide,by decide⟩,?_⟩;refine cC so3 E (by simp[lX]) ?_;generalize O:aH _ j _=HP;replace J:=kpA O (by first|exact ne_i1_j|exact T.symm) J;replace U:=kpA O (by first|exact ne_i2_j|exact F.symm) U;replace E:HP j=some (aoH (vxX 5).orders):=upS O;clear O;simp only[go_sem,E,J,U];refine dS.use ⟨_,Qz 5 E _,h3,rfl⟩ ?_;simp only[go_sem];refine aO h4 ?_;simp only[go_sem];refine aO h5 ?_;simp only[go_sem]
 iterate 6 (refine⟨fun _=>⟨by decide,by decide⟩,?_⟩)
 exact .refl _
end Nu
namespace Vy
open Go.Proofs.Tryz
open Go.Proofs.YthephioccidfgaaGreatDoor.Nu (ltB geB cB LeafB PlanW)
open Nu.Ps (PrOk)
open Go.Proofs.YthephioccidfgaaGreatDoor.Ve (rX PathsOf Dl fN F7)
def Qn(x:Instance):Bool:=(decide ((x.orders.length:Int)<=3)&&decide ((x.types.length:Int)<=2))&&((kZ x).length:Int) == 0
def Fc(x:Instance)(A:InB x):PC prog 4 [.agg (aE x)] (boo (Qn x)):=by refine pcd func4 rfl rfl ?_;simp only[go_sem];refine⟨_,fun _=>(NC.pc (avU x A)).qn,?_⟩;simp only[go_sem,Xaa];exact cB rfl
def Gx{x:Instance}(h:Qn x=true):Acc x/\x.orders.length<=3/\x.types.length<=2:=by unfold Qn at h;simp only[Xah,decide_eq_true_eq,Xay]at h;exact⟨GY (List.length_eq_zero_iff.1 (by omega)),by omega,by omega⟩
def Ig(n:TNode):Bool:= !(decide ((n.cuts.length:Int)>30)||decide ((n.dual.length:Int)>30))&&n.dual.all fun s=> !decide ((s.size:Int)>60)
def ayT(n:TNode):PC prog 11 [.agg (bR n)] (boo (Ig n)):=by
 refine pcd func11 rfl rfl ?_;simp only[go_sem];refine aA (fun X=>?_) (fun X=>?_)
 ·simp only[go_sem];exact cB (by unfold Ig;rw[X];rfl)
 have Z:Ig n=n.dual.all fun s=> !decide ((s.size:Int)>60):=by unfold Ig;rw[X];rfl
 have hl:n.dual.length<=30:=by simp at X;omega
 rw[Z];simp only[go_sem,Xaa];refine⟨fun ρ H=>∃(k:Nat),k<=n.dual.length/\ρ 16=.sl (n.dual.map Go.Aw.D.dZ)/\ρ 17=int (n.dual.length:Nat)/\ρ 18=int k/\(∀s∈n.dual.take k,decide ((s.size:Int)>60)=false),fun ρ _=>n.dual.length-aU (ρ 18),⟨0,Xab _,by simp only[go_sem],by simp only[go_sem,Xaa],(by simp only[go_sem];rfl),by simp⟩,?_⟩;rintro ρ H ⟨k,hk,F,J,E,Y⟩;simp only[go_sem,F,J,E];refine aA (fun A=>?_) (fun O=>?_)
 ·have A:=ltB (by simpa using A);obtain⟨s,U⟩:=aI A;have b1:=inB A;simp only[go_sem,F,J,E,aC U,b1];refine aA (fun T=>?_) (fun T=>?_)
  ·simp only[go_sem];refine cB ?_;exact(List.all_eq_false.2 ⟨s,Xac U,by have T:decide ((s.size:Int)>60)=true:=T;rw[T];simp⟩).symm
  ·simp only[go_sem,F,J,E,aW k];exact⟨⟨k+1,A,rfl,Nu.gP (p:=fun s:ByteArray=>decide ((s.size:Int)>60)=false) U T Y⟩,by simp only[aN];omega⟩
 have O:=geB hk (by simpa using O);subst O;rw[Xad]at Y;simp only[go_sem];exact cB (Xaj.2 fun s U=>by rw[Y s U];rfl).symm
def Jc(n:TNode):Bool:= !(!Ig n||decide (n.choice.n< -1073741824)||decide (n.choice.n>1073741824))
def VL(p:Proof):Bool:= !(decide ((p.nodes.length:Int)>20)||decide ((p.plan.routes.length:Int)>6))&&(p.nodes.all Jc&&p.plan.routes.all fun r=> !decide ((r.visits.length:Int)>6))
def aAY(p:Proof):PC prog 5 [.agg (dY p)] (boo (VL p)):=by
 refine pcd func5 rfl rfl ?_;simp only[go_sem];refine aA (fun hb=>?_) (fun hb=>?_)
 ·simp only[go_sem];exact cB (by unfold VL;rw[hb];rfl)
 have hF:VL p=(p.nodes.all Jc&&p.plan.routes.all fun r=> !decide ((r.visits.length:Int)>6)):=by unfold VL;rw[hb];rfl
 have hl:p.nodes.length<=20/\p.plan.routes.length<=6:=by simp at hb;omega
 rw[hF];simp only[go_sem,Xaa];refine⟨fun ρ H=>∃(k:Nat),k<=p.nodes.length/\ρ 1=.rp (dY p) 0/\ρ 19=.sl (p.nodes.map bR)/\ρ 20=int (p.nodes.length:Nat)/\ρ 21=int k/\(∀n∈p.nodes.take k,Jc n=true),fun ρ _=>p.nodes.length-aU (ρ 21),⟨0,Xab _,by simp only[go_sem],by simp only[go_sem],by simp only[go_sem,Xaa],(by simp only[go_sem];rfl),by simp⟩,?_⟩;rintro ρ H ⟨k,hk,e1,F,O,J,hz⟩;simp only[go_sem,e1,F,O,J];refine aA (fun A=>?_) (fun E=>?_)
 ·have A:=ltB (by simpa using A);obtain⟨n,hn⟩:=aI A;have b1:=inB A;simp only[go_sem,e1,F,O,J,aC hn,b1,Xaa];refine aJ fun i4 aa=>?_
  simp only[go_sem,e1,F,O,J];refine bP aa (by simp[jG]) fun ab (R4:ab i4=some (⟨54,10,[bR n]⟩)) N=>?_
  clear N aa;simp only[go_sem,e1,F,O,J,R4];refine aO (ayT n) ?_;simp only[go_sem,R4];refine aA (fun T=>?_) (fun T=>?_)
  ·simp only[go_sem];refine cB ?_;rw[List.all_eq_false.2 ⟨n,Xac hn,by have T:(!Ig n||decide (n.choice.n< -1073741824)||decide (n.choice.n>1073741824))=true:=T;unfold Jc;rw[T];simp⟩];rfl
  ·simp only[go_sem,e1,F,O,J,aW k];exact⟨⟨k+1,A,rfl,Dec.tR (p:=Jc) hn (by have T:(!Ig n||decide (n.choice.n< -1073741824)||decide (n.choice.n>1073741824))=false:=T;unfold Jc;rw[T];rfl) hz⟩,by simp only[aN];omega⟩
 have E:=geB hk (by simpa using E);subst E;rw[Xad]at hz;rw[Xaj.2 hz,Xbc];simp only[go_sem,e1,F,O,J,Xaa];refine⟨fun ρ H=>∃(k:Nat),k<=p.plan.routes.length/\ρ 43=.sl (p.plan.routes.map bM)/\ρ 44=int (p.plan.routes.length:Nat)/\ρ 45=int k/\(∀r∈p.plan.routes.take k,decide ((r.visits.length:Int)>6)=false),fun ρ _=>p.plan.routes.length-aU (ρ 45),⟨0,Xab _,by simp only[go_sem],by simp only[go_sem,Xaa],(by simp only[go_sem];rfl),by simp⟩,?_⟩;rintro ρ H ⟨k,hk,U,X,Y,hy⟩;simp only[go_sem,U,X,Y];refine aA (fun A=>?_) (fun E=>?_)
 ·have A:=ltB (by simpa using A);obtain⟨r,hr⟩:=aI A;have b1:=inB A;simp only[go_sem,U,X,Y,aC hr,b1,Xaa];refine aJ fun i6 Z=>?_
  simp only[go_sem,U,X,Y];refine bP Z (by simp[kS]) fun ac (R6:ac i6=some (⟨59,4,[bM r]⟩)) N=>?_
  clear N Z;simp only[go_sem,U,X,Y,R6];refine aA (fun T=>?_) (fun T=>?_)
  ·simp only[go_sem];refine cB ?_;exact(List.all_eq_false.2 ⟨r,Xac hr,by have T:decide ((r.visits.length:Int)>6)=true:=T;rw[T];simp⟩).symm
  ·simp only[go_sem,U,X,Y,aW k];exact⟨⟨k+1,A,rfl,Nu.gP (p:=fun r:Route=>decide ((r.visits.length:Int)>6)=false) hr T hy⟩,by simp only[aN];omega⟩
 have E:=geB hk (by simpa using E);subst E;rw[Xad]at hy;simp only[go_sem];exact cB (Xaj.2 fun s hs=>by rw[hy s hs];rfl).symm
end Vy
namespace Vy
open Go.Proofs.Tryz
open Go.Proofs.YthephioccidfgaaGreatDoor.Nu (ltB geB cB LeafB PlanW VarB nA zQ gN vB nG Az)
open Nu.Ps (PrOk C6)
open Dec (oV lM)
open Sq (dK Fu)
open Go.Proofs.YthephioccidfgaaGreatDoor.Ve (rX PathsOf Dl fN F7)
structure FewB(p:Proof):Prop where
 nodes:p.nodes.length<=20
 routes:p.plan.routes.length<=6
 visits:∀r∈p.plan.routes,r.visits.length<=6
 leaf:∀n∈p.nodes,n.cuts.length<=30/\n.dual.length<=30/\∀s∈n.dual,s.size<=60
def akQ{p:Proof}(h:VL p=true):FewB p:=by unfold VL at h;simp only[Xah,Xau,Xam,decide_eq_false_iff_not,Xaj]at h;obtain⟨⟨h1,U⟩,h3,J⟩:=h;refine⟨by omega,by omega,fun r O=>by have:=J r O;omega,fun n E=>?_⟩;have:=h3 n E;unfold Jc Ig at this;simp only[Xah,Xau,Xam,Xbj,decide_eq_false_iff_not,Xaj]at this;obtain⟨⟨⟨⟨X,T⟩,A⟩,_⟩,_⟩:=this;exact⟨by omega,by omega,fun s F=>by have:=A s F;omega⟩
def aBG{l:List TNode}(F:∀n∈l,nG n.choice.n){k:Nat}{d:List Decision}(h:F7 l k d):∀c∈d,nG c.n:=by
 induction h with
 | root=>intro c A;cases A
 | yes h1 E h3 h4 ih=>
  intro c A;rcases Xat.1 A with A|A
  ·exact ih c A
  ·simp at A;subst A;exact F _ (Xac E)
 | @no i k d a h1 E h3 h4 ih=>
  intro c A;rcases Xat.1 A with A|A
  ·exact ih c A
  ·simp at A;subst A;have h0:=F _ (Xac E);have h1:=Rx.BI (a.choice.n+1);have E:=Rx.BI (a.choice.n-1);unfold nG at *;unfold oV
   repeat' split
   all_goals first|exact h0|exact h1|exact E
def Ut{x:Instance}{p:Proof}{D:List (List Decision)}{price:Int}(hx:sK 1048576 x)(Y:Gm 1048576 p)(U:FewB p)(X:PathsOf p.nodes D)(F:nG price)(n:TNode)(ds:List Decision)(A:n∈p.nodes)(J:ds∈D):LeafB x n ds price:=by have E:=Y.2.2.2;obtain⟨c1,c2,c3⟩:=U.leaf n A;obtain⟨k,hk⟩:=List.getElem?_of_mem J;have T:=X.short ds J;have:=U.nodes;exact⟨fun t Z=>(hx.2.1.2 t Z).2.1,fun q O=>⟨((E n A).2.2.1.2 q O).2.2,((E n A).2.2.1.2 q O).2.1.2⟩,aBG (fun n A=>(E n A).2.2.2.2.1.2.2.2) (X.way k ds hk),by omega,by omega,⟨by omega,fun s T=>by have:=c3 s T;omega⟩,F⟩
def XZ{x:Instance}{p:Proof}(Z:sK 1048576 x)(T:Gm 1048576 p):∃(b:Bool) (D:List (List Decision)),(b=true↔rX p.nodes)/\(b=true->PathsOf p.nodes D)/\∀(F:Acc x) (h3:x.orders.length<=3) (A:FewB p),PC prog 7 [.agg (aE x),.agg (dY p)] (int (nA x (gX x.types).toNat p b D)):=by
 by_cases h:rX p.nodes
 ·obtain⟨D,X⟩:=Ve.ahB h;refine⟨true,D,⟨fun _=>h,fun _=>rfl⟩,fun _=>X,fun F h3 A=>?_⟩;have U:=A.visits;have E:=A.routes;exact zQ x _ p (C6 F (by omega)) true ⟨fun _=>h,fun _=>rfl⟩ D (fun _=>X) (by have:=A.nodes;omega) (fun _=>KR (by omega) T.2.1.2.1 fun r E=>by have:=U r E;omega) fun n ds Y O=>Ut Z T A X (by split;exact⟨by decide,by decide⟩;exact aaX) n ds Y O
 ·refine⟨false,[],⟨fun h=>(by cases h),fun J=>absurd J h⟩,fun h=>(by cases h),fun F h3 A=>?_⟩;have U:=A.visits;have E:=A.routes;exact zQ x _ p (C6 F (by omega)) false ⟨fun h=>(by cases h),fun J=>absurd J h⟩ [] (fun h=>(by cases h)) (by have:=A.nodes;omega) (fun _=>KR (by omega) T.2.1.2.1 fun r E=>by have:=U r E;omega) fun n ds Y O=>(by cases O)
def agI{x:Instance}{d:Nat}{p:Proof}{b:Bool}{D:List (List Decision)}(h:nA x d p b D=0):b=true/\(∀n∈p.nodes,vB x n=false)/\(p.noPlan=false->dK x p.plan=0/\(gN x p.plan).2=0)/\Nu.lvW x d p.noPlan (if p.noPlan=true then 0 else(gN x p.plan).1) p.nodes D=0:=by
 unfold nA at h;split at h
 ·cases h
 next h1=>
 split at h
 ·cases h
 next F=>
 split at h
 ·next h3=>rw[h]at h3;simp at h3
 next h3=>
 split at h
 ·next A=>rw[h]at A;simp at A
 next A=>
 refine⟨by simpa using h1,fun n E=>by simpa using(Xap.1 (by simpa using F)) n E,fun E=>?_,h⟩;rw[E]at h3 A;exact⟨by simpa using h3,by simpa using A⟩
end Vy
namespace Rx
open Sq
open Go.Nu
def Dis:List Visit->Prop
 | []=>True
 | v::l=>¬v∈l/\Dis l
def Xz:∀(l U:List Visit),Dis l->(∀v∈l,v∈U)->l.length<=U.length
 | [],U,_,_=>Xab _
 | v::l,U,hd,hs=>by
  obtain⟨a,b,rfl⟩:=List.append_of_mem (hs v (by simp));have:=Xz l (a++b) hd.2 fun u A=>by
   have:=hs u (by grind);rcases Xat.1 this with h|h
   ·grind
   ·rcases Xba.1 h with rfl|h
    ·exact absurd A hd.1
    grind
  grind
def nH(f:Visit->Rat):List Visit->Rat
 | []=>0
 | v::l=>f v+nH f l
def Oo(f:Visit->Rat)(v:Visit)(l:List Visit):nH f (v::l)=f v+nH f l:=rfl
theorem Sy(f:Visit->Rat):∀a b:List Visit,nH f (a++b)=nH f a+nH f b
 | [],b=>(Rat.zero_add _).symm
 | v::a,b=>by rw[List.cons_append,Oo,Oo,Sy f a b,Rat.add_assoc]
def Zn(f:Visit->Rat):∀(l U:List Visit),Dis l->(∀v∈l,v∈U)->l.length=U.length->nH f l=nH f U/\∀v∈U,v∈l
 | [],U,_,_,h=>by grind
 | v::l,U,hd,hs,h=>by
  obtain⟨a,b,rfl⟩:=List.append_of_mem (hs v (by simp));have A:∀u∈l,u∈a++b:=fun u E=>by
   have:=hs u (by grind);rcases Xat.1 this with h|h
   ·grind
   ·rcases Xba.1 h with rfl|h
    ·exact absurd E hd.1
    grind
  obtain⟨h1,F⟩:=Zn f l (a++b) hd.2 A (by grind)
  grind[Sy,nH]
def aAV{l:List Visit}(h:∀j v,l[j]?=some v->¬v∈l.take j):Dis l:=by
 suffices ∀(b a:List Visit),(∀j v,(a++b)[j]?=some v->¬v∈(a++b).take j)->Dis b from this l [] (by grind)
 intro b;induction b with
 | nil=>intro a _;trivial
 | cons v b ih=>
  intro a h;refine⟨fun A=>?_,ih (a++[v]) (by grind)⟩;obtain⟨c,d,rfl⟩:=List.append_of_mem A;have:=h (a.length+1+c.length) v (by
   rw[show a++v::(c++v::d)=(a++v::c)++v::d by simp,List.getElem?_append_right (by grind)]
   grind)
  refine this ?_;rw[show a++v::(c++v::d)=(a++v::c)++v::d by simp,List.take_append_of_le_length (by grind),Xbb (by grind)];simp
theorem Jv{v u:Visit}:tO v u=true↔u=v:=by unfold tO;obtain⟨a,b⟩:=v;obtain⟨c,d⟩:=u;simp
theorem Z9{l:List Visit}{v:Visit}(h:¬v∈l):cD l v= -1:=by
 unfold cD;refine lO (fun y A=>?_) 0;rw[Xbz]
 grind[Jv]
theorem K6{l:List Visit}{v:Visit}{j:Nat}(h:l[j]?=some v)(A:¬v∈l.take j):cD l v=j:=by
 unfold cD;rw[nQ (k:=j) (fun y E=>?_) h (Jv.2 rfl) 0]
 ·omega
 ·rw[Xbz]
  grind[Jv]
theorem zD{v:Visit}:∀{l:List Visit},v∈l->∃j,l[j]?=some v/\¬v∈l.take j
 | u::l,h=>by
  by_cases e:v=u
  ·subst e;exact⟨0,rfl,by simp⟩
  ·have h : v ∈ l := by
    rcases Xba.1 h with h|h
    ·exact absurd h e
    ·exact h
   obtain⟨j,h1,E⟩:=zD h;refine⟨j+1,h1,fun A=>?_⟩;rw[List.take_succ_cons]at A;rcases Xba.1 A with A|A
   ·exact e A
   ·exact E A
theorem Z6{l:List Visit}{v:Visit}(h:cD l v>=0):v∈l:=by grind[Z9]
structure SeqB(x:Instance)(l:List Visit):Prop where
 ne:l≠[]
 vis:∀v∈l,Vis x v
 twice:∀j v,l[j]?=some v->¬v∈l.take j
 pair:∀i,i<x.orders.length->Aa (cT x i)=true->∀d,(⟨(i:Nat),d⟩:Visit)∈l->(⟨(i:Nat),false⟩:Visit)∈l/\(⟨(i:Nat),true⟩:Visit)∈l/\cD l ⟨(i:Nat),false⟩<cD l ⟨(i:Nat),true⟩
def xP{O:Order}{i:Nat}(h:Aa O=true):fL O (i:Nat)=[⟨(i:Nat),false⟩,⟨(i:Nat),true⟩]:=by simp_all[Aa,fL]
def Gq{x:Instance}{l:List Visit}(h:oF x l=0):SeqB x l:=by
 unfold oF at h;split at h
 ·cases h
 next T=>
 split at h
 ·cases h
 next c2=>
 split at h
 ·cases h
 next c3=>
 split at h
 ·cases h
 next J=>
 clear h;simp only[Xax,not_or,Xay,Xak,not_exists,not_and,Xbu]at T c2 c3;have J:l.all (xN x.orders l)=true:=by grind
 rw[Xaj]at J;have Z:∀j v,l[j]?=some v->¬v∈l.take j:=fun j v hj Y=>by
  have X:=(List.getElem?_eq_some_iff.1 hj).1;have:=c3 j (Xai.2 X)
  grind[rH,zD,K6]
 have F:∀v∈l,∃i:Nat,v.order=(i:Nat)/\i<x.orders.length:=fun v E=>by have:=T.2 v E;simp only[bS,Xam,decide_eq_false_iff_not]at this;exact⟨v.order.toNat,by omega,by omega⟩
 refine⟨fun e=>T.1 (by grind),fun v E=>?_,Z,fun i O hb d E=>?_⟩
 ·obtain⟨i,e,O⟩:=F v E;have A:=J v E;unfold xN at A;rw[Xah]at A;have Y:v∈eN x.orders v.order:=by have:=A.1;unfold inV at this;exact Z6 (of_decide_eq_true this)
  rw[e,tD O]at Y;obtain⟨d,e2,U⟩:=asX Y;refine⟨i,d,e2,O,U,?_⟩
  grind[uN,jQ]
 ·have A:=J _ E;unfold xN at A;rw[Xah]at A;have hq:=A.2;rw[tD O,xP hb]at hq;simp only[sQ,Xah,decide_eq_true_eq,Xbo]at hq
  grind[Z6]
section
variable{x:Instance}{l:List Visit}{i j:Nat}{d:Bool}
end
end Rx
namespace Rx
open Sq
open Go.Nu
section
variable{x:Instance}{k:Nat}{near:List Int}{l:List Visit}{j c i:Nat}{d:Bool}
end
end Rx
namespace Rx
open Sq
open Go.Nu
section
variable{x:Instance}{k:Nat}{near:List Int}{du:Option (List ByteArray)}{dl:List ByteArray}{M:Nat}{p:Part}{q:RP}{l:List Visit}{r:Route}{i j:Nat}{d:Bool}
end
end Rx
namespace Rx
open Sq
open Go.Nu
section
variable{x:Instance}{k:Nat}{near:List Int}{du:Option (List ByteArray)}{dl:List ByteArray}{M:Nat}{p:Part}{q:RP}{l:List Visit}{r:Route}{i j:Nat}{d:Bool}
end
end Rx
namespace Rx
open Sq
open Go.Nu
section
variable{x:Instance}{k:Nat}{near:List Int}{du:Option (List ByteArray)}{dl:List ByteArray}{M:Nat}{p:Part}{q:RP}{l:List Visit}{r:Route}{i j:Nat}{d:Bool}
def akP{set:Int}(A:i<=62)(h:If x set i=false):cR set (i:Int)=true/\OJ x i=false:=by grind[If,vV,awB,cR]
def apA{set:Int}{E:List Visit}{v:Visit}(J:x.orders.length<=60)(h:v∈oM x set E):∃i,i<x.orders.length/\cR set ((i:Nat):Int)=true/\v∈eN x.orders (i:Nat):=by
 unfold oM wN at h;obtain⟨i,A,h⟩:=Xbp.1 h;have A:=Xai.1 A;unfold AW at h;split at h
 ·cases h
 next F=>
 exact⟨i,A,(akP (by omega) (by simpa using F)).1,(Xbg.1 h).1⟩
def afG(f:Int->List Visit):∀M:List Int,(M.flatMap f).length=(M.map fun i=>(f i).length).sum
 | []=>rfl
 | i::M=>by simp
def Wd(h:kZ x=[])(F:i<x.orders.length):(cT x i).pick.place>=0\/(cT x i).drop.place>=0:=by
 unfold kZ at h;simp only[Xbe,Xbx]at h;obtain⟨⟨⟨_,_⟩,A⟩,_⟩:=h;unfold tE at A;rw[Xbe]at A;have h:=Xcd.1 A.2 i (Xai.2 F);unfold gQ at h;rw[Xbx,Lb (List.getElem?_eq_getElem F)]at h;unfold lI at h;simp only[Xbn,Xbe]at h;have e:x.orders[i]=cT x i:=by grind[cT]
 rw[e]at h;obtain⟨⟨⟨⟨⟨_,O⟩,J⟩,_⟩,_⟩,_⟩:=h;have E:=fU O;have T:=fU J;simp only[Xam]at E;have a1:=iM.1 (pY E.1);have a2:=iM.1 (pY E.2)
 grind
end
end Rx
end Go.Proofs.YthephioccidfgaaGreatDoor
