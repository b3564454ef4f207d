import Derived.Lib.SmallJoins
import Derived.Test.YtmhpdppobocokaaGreatDoorTs11
import Derived.Test.YtmhpdppobocokaaGreatDoorTs13
set_option linter.unusedSimpArgs false
set_option linter.unusedVariables false
set_option linter.defProp false
set_option maxRecDepth 100000
namespace Go.Proofs.YtmhpdppobocokaaGreatDoor
open Go.Aw Go.Aw.D Go.Proofs Ty
namespace Nu
open Go.Proofs.Tryz
open Go.Nu
open Dec (yH lH iV)
abbrev CI:Row:=⟨173,2,[[.sl [],.sl []]]⟩
structure BldS(H:aD)(i8 i11 jc jr:Nat)(f:Nat->Nat)(cost:List Int)(rows:List PRow):Prop where
 r8:H i8=some CI
 p:H i11=some (zY jc jr)
 c:H jc=some (fC cost)
 lin:LinH H jr f rows
 fc:∀i,i<rows.length->f i≠jc
 ne:i8≠i11
def LinH.mono{H H':aD}{jr:Nat}{f:Nat->Nat}{rows:List PRow}(h:LinH H jr f rows)(u:∀k row,H k=some row->H' k=some row):LinH H' jr f rows:=
 ⟨u _ _ h.row,fun i r E=>u _ _ (h.coef i r E),h.inj⟩
def BldS.mono{H H':aD}{i8 i11 jc jr:Nat}{f:Nat->Nat}{cost:List Int}{rows:List PRow}(h:BldS H i8 i11 jc jr f cost rows)(u:∀k row,H k=some row->H' k=some row):BldS H' i8 i11 jc jr f cost rows:=
 ⟨u _ _ h.r8,u _ _ h.p,u _ _ h.c,h.lin.mono u,h.fc,h.ne⟩
def AR{H:aD}{i:Nat}(hi:H i=none)(a:Option Row):∀k row,H k=some row->aE H i a k=some row:=fun k row u=>by rw[aC _ _ _ _ (fun e=>by subst e;rw[hi]at u;cases u)];exact u
def tT{H:aD}{i:Nat}(hi:H i=none)(a b:Option Row):∀k row,H k=some row->aE (aE H i a) i b k=some row:=fun k row u=>by rw[aC _ _ _ _ (fun e=>by subst e;rw[hi]at u;cases u)];exact AR hi a k row u
def BldS.add{H J:aD}{i8 i11 jc jr:Nat}{f:Nat->Nat}{cost:List Int}{rows:List PRow}(h:BldS H i8 i11 jc jr f cost rows){jc':Nat}{f':Nat->Nat}{E:List Int}{u:List PRow}{k:Nat}
  (S:AddS H J i11 jc jr f rows.length jc' f' E u k):BldS J i8 i11 jc' jr f' E u:=by
 refine⟨S.keep i8 _ h.ne (fun e=>?_) (fun e=>?_) (fun i hi e=>?_) h.r8,S.p,S.c,S.lin,S.fc,h.ne⟩
 ·have h1:=h.r8;rw[e,h.c]at h1;have F:(fC cost).e=CI.e:=congrArg Row.e (Option.some.inj h1);exact absurd (show(3:Nat)=173 from F) (by decide)
 ·have h1:=h.r8;rw[e,h.lin.row]at h1;have F:(pZ f rows).e=CI.e:=congrArg Row.e (Option.some.inj h1);exact absurd (show(235:Nat)=173 from F) (by decide)
 ·have h1:=h.r8;obtain⟨r,L⟩:=bG hi;rw[e,h.lin.coef i r L]at h1;have F:(fC r.coef).e=CI.e:=congrArg Row.e (Option.some.inj h1);exact absurd (show(3:Nat)=173 from F) (by decide)
def kV(p:List Int×List PRow)(cost:Int)(col:List Int):List Int×List PRow:=(p.1++[cost],lO p.2 col col.length)
def gJ(x:Instance)(o:Int)(n k:Nat):List Int:=((gR x).take k).map (fun i=>vI (i == o))++List.replicate (n-k) 0
def rD(x:Instance)(o:Int)(n:Nat):List Int:=(gR x).map (fun i=>vI (i == o))++List.replicate (n-(gR x).length) 0
def wL(x:Instance)(o:Int):Int:=(tP (gA x o).1).1
def CF(x:Instance)(cuts:List Cut)(ds:List Decision)(l:List Column):List Int×List PRow:=l.foldl (fun s c=>kV s c.price (xV x c cuts ds)) ([],mU x cuts ds)
def vE(x:Instance)(n:Nat)(s0:List Int×List PRow)(l:List Int):List Int×List PRow:=l.foldl (fun s o=>kV s (wL x o) (rD x o n)) s0
def EU(x:Instance)(d:Nat)(cols:List Column)(cuts:List Cut)(ds:List Decision):PLin×Int:=
 if vD x d cols cuts ds≠0 then(⟨[],[]⟩,vD x d cols cuts ds)
 else if iQ x cuts ds>64\/(inM cols ds).length+(qA x ds).length>8192 then(⟨[],[]⟩,4)
 else(⟨(vE x (iQ x cuts ds) (CF x cuts ds (inM cols ds)) (qA x ds)).1,(vE x (iQ x cuts ds) (CF x cuts ds (inM cols ds)) (qA x ds)).2⟩,0)
def zF(p:List Int×List PRow)(cost:Int)(col:List Int):(kV p cost col).2.length=p.2.length/\(kV p cost col).1.length=p.1.length+1:=by unfold kV;exact⟨kP _ _ _,by simp⟩
def Sz(p:List Int×List PRow)(n k:Nat):Prop:=p.1.length=k/\p.2.length=n/\∀r∈p.2,r.coef.length=k
def Sz.add{p:List Int×List PRow}{n k:Nat}(h:Sz p n k)(cost:Int){col:List Int}(L:col.length=n):Sz (kV p cost col) n (k+1):=by obtain⟨h1,J,F⟩:=h;refine⟨by rw[(zF p cost col).2,h1],by rw[(zF p cost col).1,J],fun r E=>?_⟩;obtain⟨i,hi,rfl⟩:=List.getElem_of_mem E;have u:=List.getElem?_eq_getElem hi;unfold kV at u hi;rw[yB]at u;rw[kP]at hi;rw[if_pos (by omega),List.getElem?_eq_getElem (by omega)]at u;have:(kV p cost col).2[i]=AF (p.2[i]'(by omega)) (col.getD i 0):=(Option.some.inj u).symm;rw[this];unfold AF;rw[Xac,F _ (List.getElem_mem _)];rfl
def PH(x:Instance)(cuts:List Cut)(ds:List Decision):Sz ([],mU x cuts ds) (iQ x cuts ds) 0:=by
 refine⟨rfl,Db x cuts ds,fun r u=>?_⟩;unfold mU xB oZ pG nH at u;simp only[Xbj,List.mem_map,List.mem_filterMap]at u;rcases u with((h|⟨t,_,rfl⟩)|⟨t,_,rfl⟩)|⟨t,_,h⟩
 ·rw[List.eq_of_mem_replicate h];rfl
 ·rfl
 ·rfl
 ·unfold EQ at h;split at h
  ·cases h;rfl
  ·split at h
   ·cases h;rfl
   ·cases h
def DR{x:Instance}{cuts:List Cut}{ds:List Decision}{l:List Column}{k:Nat}{c:Column}(h:l[k]?=some c):CF x cuts ds (l.take (k+1))=kV (CF x cuts ds (l.take k)) c.price (xV x c cuts ds):=by unfold CF;rw[bK h,List.foldl_append];rfl
def D6{x:Instance}{n:Nat}{s0:List Int×List PRow}{l:List Int}{k:Nat}{o:Int}(h:l[k]?=some o):vE x n s0 (l.take (k+1))=kV (vE x n s0 (l.take k)) (wL x o) (rD x o n):=by unfold vE;rw[bK h,List.foldl_append];rfl
def Fv(x:Instance)(cuts:List Cut)(ds:List Decision)(l:List Column):∀k,k<=l.length->Sz (CF x cuts ds (l.take k)) (iQ x cuts ds) k
 | 0,_=>PH x cuts ds
 | k+1,hk=>by obtain⟨c,u⟩:=bG (show k<l.length by omega);rw[DR u];exact(Fv x cuts ds l k (by omega)).add _ (AI x c cuts ds)
def zG(x:Instance)(o:Int){n:Nat}(h:(gR x).length<=n):(rD x o n).length=n:=by unfold rD;rw[Xac,Xaa,Xas];omega
def My(x:Instance){n m:Nat}{s0:List Int×List PRow}(u:(gR x).length<=n)(h0:Sz s0 n m)(l:List Int):∀k,k<=l.length->Sz (vE x n s0 (l.take k)) n (m+k)
 | 0,_=>h0
 | k+1,hk=>by obtain⟨c,E⟩:=bG (show k<l.length by omega);rw[D6 E];exact(My x u h0 l k (by omega)).add _ (zG x c u)
def Ns{H:aD}(f:Nat->Nat)(rows:List PRow)(h:∀(i:Nat) (r:PRow),rows[i]?=some r->H (f i)=some (fC r.coef)):ConvE H (rows.mapIdx (iS f)) (rows.map cR):=by
 induction rows generalizing f with
 | nil=>exact .nil
 | cons r l ih=>rw[List.mapIdx_cons,Xar];refine .cons _ _ _ _ (.cons _ _ _ _ (.row _ _ _ (h 0 r rfl) (ConvE.refl _)) (ConvL.refl _)) ?_;exact ih (fun i=>f (i+1)) fun i u E=>h (i+1) u (by rw[List.getElem?_cons_succ];exact E)
def Lj{x:Instance}{d:Nat}{cols:List Column}{cuts:List Cut}{ds:List Decision}(h:vD x d cols cuts ds=0):yH x ds=0/\(∀q∈cuts,oR x d q=0)/\∀c∈cols,Bg x c=false:=by
 unfold vD at h;split at h
 ·next h1=>exact absurd h h1
 next h1=>
 split at h
 ·next u=>exact absurd h u
 next u=>
 split at h
 ·cases h
 next L=>
 refine⟨by simpa using h1,fun q F=>Dec.Cs (by simpa using u) _ (List.mem_map.2 ⟨q,F,rfl⟩),fun c J=>?_⟩;exact Bool.eq_false_iff.2 fun E=>L (List.any_eq_true.2 ⟨c,J,E⟩)
def JX{x:Instance}{d:Nat}{q:Cut}(h:oR x d q=0):0<=q.set:=by
 unfold oR qJ at h;refine Decidable.byContradiction fun u=>?_
 rw[decide_eq_false (show ¬q.set>=0 by omega)]at h;simp at h;split at h
 ·cases h
 ·split at h
  ·cases h
  ·cases h
def Rz{x:Instance}{c:Column}(h:Bg x c=false):0<c.set:=by unfold Bg at h;simp only[Xbq,decide_eq_false_iff_not]at h;omega
def ML{α:Type}(a b:α)(R:List α):∀A:List α,(A++a::R).set A.length b=A++b::R
 | []=>rfl
 | c::A=>by rw[Xaw,Xae,List.set_cons_succ,ML a b R A];rfl
def GK{x:Instance}{o:Int}{n k:Nat}{i:Int}(h:(gR x)[k]?=some i)(E:k<n):gJ x o n (k+1)=(gJ x o n k).set k (vI (i == o)):=by have u:=(List.getElem?_eq_some_iff.1 h).1;unfold gJ;rw[bK h,Xak,show n-k=(n-(k+1))+1 by omega,List.replicate_succ,Xah];have:=ML (0:Int) (vI (i == o)) (List.replicate (n-(k+1)) 0) (((gR x).take k).map fun i=>vI (i == o));rw[Xaa,Xaj,show min k (gR x).length=k by omega]at this;rw[this];rfl
def Kv{x:Instance}{o:Int}{n k:Nat}(h:k<=(gR x).length)(u:(gR x).length<=n):(gJ x o n k).length=n:=by unfold gJ;rw[Xac,Xaa,Xaj,Xas];omega
def O1(H:aD)(i:Nat)(a:Option Row)(h:H i=none):aE (aE H i a) i none=H:=by
 funext k;by_cases e:k=i
 ·subst e;rw[aB,h]
 ·rw[aC _ _ _ _ e,aC _ _ _ _ e]
def Ti(H:aD)(i:Nat)(a b:Option Row):aE (aE H i a) i b=aE H i b:=by
 funext k;by_cases e:k=i
 ·subst e;rw[aB,aB]
 ·rw[aC _ _ _ _ e,aC _ _ _ _ e,aC _ _ _ _ e]
def Te(x:Instance)(d:Nat)(cols:List Column)(cuts:List Cut)(ds:List Decision)(bs:LoadsOk x d)(bi:x.types≠[])(h:MIn x cuts ds)(hl:cols.length<=1048576)(hs:∀c∈cols,c.set<=9223372036854775807)(hq:∀q∈cuts,q.set<=9223372036854775807):
  PC prog 73 [.agg (aH x),.sl (cols.map bF),.sl (cuts.map cU),.sl (ds.map aT)] (.tup [.agg (eS (EU x d cols cuts ds).1),int (EU x d cols cuts ds).2]):=by
 have h1:=h.orders;have h2:=h.types;have h3:=h.cl;have h4:=h.dl;have b0:=AQ x;refine pcb (fun t=>t == 39) func73 rfl rfl ?_;simp only[go_sem];refine aL fun i8 h8=>?_
 have R8:=aB bJ i8 (some CI);generalize aE bJ i8 _=HGi8 at R8 |-;clear h8;simp only[go_sem];refine aN (Td x d cols cuts ds bs bi h hl hs) ?_;unfold EU;simp only[go_sem];refine aA (fun hb=>?_) (fun hb=>?_)
 ·rw[if_pos (by simpa using hb)];simp only[go_sem];refine aZ R8 (by simp) ?_;simp only[go_sem];exact .refl _
 rw[if_neg (by simpa using hb)];simp only[go_sem];refine RG x cuts ds h _ _ fun jr f H1 S=>?_
 have R8:=S.keep i8 _ R8;have Sl:=S.lin;have bg:=Db x cuts ds;simp only[go_sem];refine aL fun ia ha=>?_
 refine aL fun ib ba=>?_
 refine aL fun i11 ax=>?_
 simp only[go_sem];refine aZ (aB _ _ _) (by simp) ?_;have B:BldS (aE (aE (aE (aE H1 ia (some (⟨3,1,[]⟩:Row))) ib (some ⟨235,3,[]⟩)) i11 (some CI)) i11 (some (zY ia jr))) i8 i11 ia jr f [] (mU x cuts ds):=by
  have m1:=AR ha (some (⟨3,1,[]⟩:Row));have m2:=AR ba (some (⟨235,3,[]⟩:Row));have m3:=tT ax (some CI) (some (zY ia jr));refine⟨m3 _ _ (m2 _ _ (m1 _ _ R8)),aB _ _ _,m3 _ _ (m2 _ _ (aB _ _ _)),((Sl.mono m1).mono m2).mono m3,fun i hi e=>?_,fun e=>?_⟩
  ·obtain⟨r,hr⟩:=bG hi;have:=Sl.coef i r hr;rw[e,ha]at this;cases this
  ·have:=m2 _ _ (m1 _ _ R8);rw[e,ax]at this;cases this
 generalize hG:aE (aE (aE (aE H1 ia _) ib _) i11 _) i11 _=G;replace B:BldS G i8 i11 ia jr f [] (mU x cuts ds):=by rw[<-hG];exact B
 clear hG ax ba ha Sl R8 S;simp only[go_sem];refine aN (NV cols ds hl h4) ?_;simp only[go_sem];refine aN (Tn x ds h1 h4) ?_;have bu:(inM cols ds).length<=cols.length:=Xbe _ _;have bt:(qA x ds).length<=(gR x).length:=Xbe _ _;have bp:∀c∈inM cols ds,c∈cols:=fun c hc=>(List.mem_filter.1 hc).1
 obtain⟨_,br,bd⟩:=Lj (show vD x d cols cuts ds=0 by simpa using hb);have bf:CutsB cuts:=⟨fun q a8=>⟨JX (br q a8),hq q a8⟩⟩;have bv:∀o∈qA x ds,o∈gR x:=fun o ho=>(List.mem_filter.1 ho).1
 generalize inM cols ds=L at *;generalize qA x ds=K at *;have w:IntKind.i64.wrap ((L.length:Int)+(K.length:Int))=((L.length+K.length:Nat):Int):=by rw[aV (by omega)];omega
 simp only[go_sem,B.p,B.lin.row,List.length_mapIdx,Xaa,bg,w];refine aA (fun hb=>?_) (fun hb=>?_)
 ·rw[if_pos (by simp at hb;omega)];simp only[go_sem];refine aZ B.r8 (by simp) ?_;simp only[go_sem];exact .refl _
 have bw:iQ x cuts ds<=64/\L.length+K.length<=8192:=by simp at hb;omega
 rw[if_neg (by omega)];have aw:(gR x).length<=iQ x cuts ds:=by unfold iQ;omega
 simp only[go_sem];refine⟨fun ρ H=>∃(k:Nat) (jc:Nat) (f:Nat->Nat),k<=L.length/\ρ 2=.sl (cuts.map cU)/\ρ 3=.sl (ds.map aT)/\ρ 4=.rp (aH x) 0/\ρ 8=.op i8 0 0/\ρ 11=.op i11 0 0/\ρ 12=.sl (K.map aP)/\ρ 13=.fn 124 [.op i11 0 0]/\ρ 60=.sl (L.map bF)/\ρ 61=int (L.length:Nat)/\ρ 62=int k/\BldS H i8 i11 jc jr f (CF x cuts ds (L.take k)).1 (CF x cuts ds (L.take k)).2,fun ρ _=>L.length-aW (ρ 62),⟨0,ia,f,Xab _,by simp only[go_sem],by simp only[go_sem],by simp only[go_sem],by simp only[go_sem],by simp only[go_sem],by simp only[go_sem],by simp only[go_sem],by simp only[go_sem],by simp only[go_sem,Xaa],(by simp only[go_sem];rfl),B⟩,?_⟩;rintro ρ H ⟨k,jc,f,hk,e2,e3,e4,Z,E,ah,u,ac,ae,ag,B⟩;simp only[go_sem,e2,e3,e4,Z,E,ah,u,ac,ae,ag];refine aA (fun ab=>?_) (fun ai=>?_)
 ·have ab:=ltB (by simpa using ab);obtain⟨c,hc⟩:=bG ab;have b1:=inB ab;have bc:=bp c (Xaf hc);have hz:=Fv x cuts ds L k (by omega);have a4:=DR (x:=x) (cuts:=cuts) (ds:=ds) hc;generalize CF x cuts ds (L.take k)=p at *;simp only[go_sem,e2,e3,e4,Z,E,ah,u,ac,ae,ag,aJ hc,b1];refine aL fun aq ar=>?_
  simp only[go_sem,e2,e3,e4,Z,E,ah,u,ac,ae,ag];refine aZ (aB _ _ _) (by simp[kZ]) ?_;have B1:=B.mono (tT ar (some (⟨90,7,[[int 0,int 0,int 0,int 0,int 0,.sl [],.sl []]]⟩:Row)) (some (⟨90,7,[bF c]⟩:Row)));generalize hG:aE (aE H aq _) aq _=HG;replace B1:BldS HG i8 i11 jc jr f p.1 p.2:=by rw[<-hG];exact B1
  have a7:HG aq=some (⟨90,7,[bF c]⟩:Row):=by rw[<-hG,aB];rfl
  have a6:∀q row,H q=some row->q≠aq/\HG q=some row:=fun q row ak=>⟨(fun e=>by subst e;rw[ar]at ak;cases ak),(by rw[<-hG];exact tT ar _ _ q row ak)⟩
  clear hG ar;simp only[go_sem,e2,e3,e4,Z,E,ah,u,ac,ae,ag];refine eN [aq] [(0,true),(1,true),(2,true),(3,true),(4,true),(5,true),(6,true),(7,false),(8,false)] (by simp[a7]) (by kernel_rfl) fun Hp Hr hp be _ b3=>?_
  have Pp:=(hp aq (by simp)).trans a7;simp only[go_sem,e2,e3,e4,Z,E,ah,u,ac,ae,ag,Pp];refine aN (TC x c cuts ds h ⟨by have:=Rz (bd c bc);omega,hs c bc⟩ bf) ?_;have B2:BldS Hr i8 i11 jc jr f p.1 p.2:=B.mono fun q row ak=>(be q (by simpa using(a6 q row ak).1)).trans (a6 q row ak).2
  have ay:=AI x c cuts ds;generalize xV x c cuts ds=C at *;simp only[go_sem,e2,e3,e4,Z,E,ah,u,ac,ae,ag];refine TI c.price C i11 jc jr f p.1 p.2 Hr _ B2.p B2.c B2.lin B2.fc (by rw[ay,hz.2.1]) (by omega) (by rw[hz.1];omega) (fun r hr=>by rw[hz.2.2 r hr];omega) fun a jc' f' Hn S=>?_
  have B3:=B2.add S;simp only[go_sem,e2,e3,e4,Z,E,ah,u,ac,ae,ag];refine eK fun hd Hm _ bq=>?_
  have B4:BldS Hm i8 i11 jc' jr f' (p.1++[c.price]) (lO p.2 C C.length):=B3.mono fun q row ak=>by
   have:q≠aq:=fun e=>by subst e;rw[hd q (by simp)]at ak;cases ak
   rw[bq q (by simpa using this)];exact ak
  simp only[go_sem,e2,e3,e4,Z,E,ah,u,ac,ae,ag,aY k];refine⟨⟨k+1,jc',f',ab,rfl,?_⟩,by simp only[aF];omega⟩;rw[a4];exact B4
 have ai:=geB hk (by simpa using ai);subst ai;rw[Xai]at B;have hz:=Fv x cuts ds L L.length (Xad _);rw[Xai]at hz;generalize CF x cuts ds L=s1 at *;simp only[go_sem,e2,e3,e4,Z,E,ah,u,ac,ae,ag];refine aN (zD x h1) ?_;simp only[go_sem,e2,e3,e4,Z,E,ah,u,ac,ae,ag];refine aN (iG _) ?_;rw[F4 x h1];simp only[go_sem,e2,e3,e4,Z,E,ah,u,ac,ae,ag,Xaa];refine⟨fun ρ H=>∃(k:Nat) (jc:Nat) (f:Nat->Nat),k<=K.length/\ρ 4=.rp (aH x) 0/\ρ 8=.op i8 0 0/\ρ 11=.op i11 0 0/\ρ 13=.fn 124 [.op i11 0 0]/\ρ 16=.sl ((gR x).map aP)/\ρ 79=.sl (K.map aP)/\ρ 80=int (K.length:Nat)/\ρ 81=int k/\BldS H i8 i11 jc jr f (vE x (iQ x cuts ds) s1 (K.take k)).1 (vE x (iQ x cuts ds) s1 (K.take k)).2,fun ρ _=>K.length-aW (ρ 81),⟨0,jc,f,Xab _,by simp only[go_sem,e4,Z,E,u],by simp only[go_sem,e4,Z,E,u],by simp only[go_sem,e4,Z,E,u],by simp only[go_sem,e4,Z,E,u],by simp only[go_sem,e4,Z,E,u],by simp only[go_sem,e4,Z,E,u],by simp only[go_sem,Xaa,e4,Z,E,u],(by simp only[go_sem,e4,Z,E,u];rfl),B⟩,?_⟩;rintro ρ H ⟨k,jc,f,hk,e4,Z,E,u,F,M,J,O,B⟩;simp only[go_sem,e4,Z,E,u,F,M,J,O];refine aA (fun ab=>?_) (fun ai=>?_)
 ·have ab:=ltB (by simpa using ab);obtain⟨o,ho⟩:=bG ab;have b1:=inB ab;have au:=My x aw hz K k (by omega);have a4:=D6 (x:=x) (n:=iQ x cuts ds) (s0:=s1) ho;generalize vE x (iQ x cuts ds) s1 (K.take k)=p at *;simp only[go_sem,e4,Z,E,u,F,M,J,O,aJ ho,b1,B.p,B.lin.row,List.length_mapIdx,au.2.1];refine⟨by omega,aL fun aa a9=>?_⟩;have a5:aE H aa (some (⟨3,1,List.replicate (iQ x cuts ds) [int 0]⟩:Row)) aa=some (fC (gJ x o (iQ x cuts ds) 0)):=by rw[aB];exact congrArg (fun l=>some (⟨3,1,l⟩:Row)) (by unfold gJ;rw[List.take_zero,Xay,Xau,Nat.sub_zero,List.map_replicate];rfl)
  have B1:BldS (aE (aE H aa (some (⟨3,1,List.replicate (iQ x cuts ds) [int 0]⟩:Row))) aa none) i8 i11 jc jr f p.1 p.2:=by rw[O1 _ _ _ a9];exact B
  generalize aE H aa (some _)=HG at a5 B1 |-;generalize bz:iQ x cuts ds=N at *;clear a9;simp only[go_sem,e4,Z,E,u,F,M,J,O,Xaa];generalize k=k0 at *;refine⟨fun ρ H=>∃(k:Nat),k<=(gR x).length/\ρ 4=.rp (aH x) 0/\ρ 8=.op i8 0 0/\ρ 11=.op i11 0 0/\ρ 13=.fn 124 [.op i11 0 0]/\ρ 16=.sl ((gR x).map aP)/\ρ 18=int o/\ρ 19=.os aa/\ρ 79=.sl (K.map aP)/\ρ 80=int (K.length:Nat)/\ρ 81=int (k0:Nat)/\ρ 89=.sl ((gR x).map aP)/\ρ 90=int ((gR x).length:Nat)/\ρ 91=int k/\H aa=some (fC (gJ x o N k))/\BldS (aE H aa none) i8 i11 jc jr f p.1 p.2,fun ρ _=>(gR x).length-aW (ρ 91),⟨0,Xab _,by simp only[go_sem,e4,Z,E,u,F,M,J,O],by simp only[go_sem,e4,Z,E,u,F,M,J,O],by simp only[go_sem,e4,Z,E,u,F,M,J,O],by simp only[go_sem,e4,Z,E,u,F,M,J,O],by simp only[go_sem,e4,Z,E,u,F,M,J,O],by simp only[go_sem,e4,Z,E,u,F,M,J,O],by simp only[go_sem,e4,Z,E,u,F,M,J,O],by simp only[go_sem,e4,Z,E,u,F,M,J,O],by simp only[go_sem,e4,Z,E,u,F,M,J,O],by simp only[go_sem,e4,Z,E,u,F,M,J,O],by simp only[go_sem,e4,Z,E,u,F,M,J,O],by simp only[go_sem,Xaa,e4,Z,E,u,F,M,J,O],(by simp only[go_sem,e4,Z,E,u,F,M,J,O];rfl),a5,B1⟩,?_⟩;rintro ρ H ⟨k,hk,e4,Z,E,u,F,aj,ao,M,J,O,al,am,an,R,B⟩;simp only[go_sem,e4,Z,E,u,F,aj,ao,M,J,O,al,am,an];refine aA (fun ab=>?_) (fun ai=>?_)
  ·have ab:=ltB (by simpa using ab);obtain⟨i,hi⟩:=bG ab;have b2:=inB ab;have bx:=Kv (x:=x) (o:=o) hk aw;simp only[go_sem,e4,Z,E,u,F,aj,ao,M,J,O,al,am,an,aJ hi,b2];refine aN (LM _) ?_;simp only[go_sem,e4,Z,E,u,F,aj,ao,M,J,O,al,am,an,R,Xaa];have az:((gJ x o N k).map aP).set k (kI (((gJ x o N k).map aP).getD k []) 0 [int (vI (i == o))])=(gJ x o N (k+1)).map aP:=by obtain⟨v,hv⟩:=bG (l:=gJ x o N k) (k:=k) (by omega);rw[aJ hv,GK hi (by omega),List.map_set];rfl
   refine⟨by omega,cC so3 R ⟨by rw[Xaa];omega,rfl,by simp⟩ ?_⟩;have R2:aE H aa (some (⟨3,1,((gJ x o N k).map aP).set k (kI (((gJ x o N k).map aP).getD k []) 0 [int (vI (i == o))])⟩:Row)) aa=some (fC (gJ x o N (k+1))):=by rw[aB,az]
   have B2:BldS (aE (aE H aa (some (⟨3,1,((gJ x o N k).map aP).set k (kI (((gJ x o N k).map aP).getD k []) 0 [int (vI (i == o))])⟩:Row))) aa none) i8 i11 jc jr f p.1 p.2:=by rw[Ti];exact B
   simp only[go_sem,e4,Z,E,u,F,aj,ao,M,J,O,al,am,an,aY k];exact⟨⟨k+1,ab,rfl,(aB _ _ _).symm.trans R2,B2⟩,by simp only[aF];omega⟩
  have ai:=geB hk (by simpa using ai);subst ai;have bo:gJ x o N (gR x).length=rD x o N:=by unfold gJ rD;rw[Xai]
  rw[bo]at R;have ay:=zG x o aw;generalize rD x o N=C at *;simp only[go_sem,e4,Z,E,u,F,aj,ao,M,J,O,al,am,an];refine aN (Gz x o) ?_;have bj:(tP (gA x o).1).1=wL x o:=rfl;generalize gA x o=U at *;obtain⟨U,eU⟩:=U;simp only[go_sem,e4,Z,E,u,F,aj,ao,M,J,O,al,am,an];refine aL fun af a0=>?_
  simp only[go_sem,e4,Z,E,u,F,aj,ao,M,J,O,al,am,an];refine aZ (aB _ _ _) (by simp[iK]) ?_;have ap:aa≠af:=aO R a0;have bb:∀a b:Option Row,aE (aE (aE H af a) af b) aa none=aE (aE (aE H aa none) af a) af b:=by
   intro a b;funext q;simp only[aE];by_cases e1:q=aa
   ·subst e1;rw[if_pos rfl,if_neg ap,if_neg ap,if_pos rfl]
   ·rw[if_neg e1,if_neg e1]
  have av:aE H aa none af=none:=by rw[aC _ _ _ _ ap.symm];exact a0
  have B1:BldS (aE (aE (aE H af (some (⟨208,4,[[int 0,int 0,int 0,int 0]]⟩:Row))) af (some (⟨208,4,[bY U]⟩:Row))) aa none) i8 i11 jc jr f p.1 p.2:=by rw[bb];exact B.mono (tT av _ _)
  generalize hG:aE (aE H af _) af _=HG;have R1:HG aa=some (fC C):=by rw[<-hG,aC _ _ _ _ ap,aC _ _ _ _ ap];exact R
  replace B1:BldS (aE HG aa none) i8 i11 jc jr f p.1 p.2:=by rw[<-hG];exact B1
  have bk:HG af=some (⟨208,4,[bY U]⟩:Row):=by rw[<-hG,aB];rfl
  clear hG a0 av bb;simp only[go_sem,e4,Z,E,u,F,aj,ao,M,J,O,al,am,an,bk];refine aN (Nf U) ?_;rw[bj];simp only[go_sem,e4,Z,E,u,F,aj,ao,M,J,O,al,am,an];refine aI.frz [aa] (args':=[int (wL x o),.sl (C.map aP),.op i11 0 0]) (.cons _ _ _ _ (.refl _) (.cons _ _ _ _ (.row _ _ _ (by simp;exact R1) (ConvE.refl _)) (.cons _ _ _ _ (.refl _) .nil))) ?_;rw[show(fun q=>if q∈[aa]then none else HG q)=aE HG aa none from funext fun q=>by simp only[aE,Xap]];refine TI (wL x o) C i11 jc jr f p.1 p.2 _ _ B1.p B1.c B1.lin B1.fc (by rw[ay,au.2.1]) (by omega) (by rw[au.1];omega) (fun r hr=>by rw[au.2.2 r hr];omega) fun a jc' f' Hn S=>?_
  have B3:=B1.add S;simp only[go_sem,e4,Z,E,u,F,aj,ao,M,J,O,al,am,an,aY k0];refine⟨⟨k0+1,jc',f',by omega,rfl,?_⟩,by simp only[aF];omega⟩;rw[a4];exact B3
 have ai:=geB hk (by simpa using ai);subst ai;rw[Xai]at B;generalize vE x (iQ x cuts ds) s1 K=s2 at *;simp only[go_sem,e4,Z,E,u,B.p];refine aZ B.r8 (by simp) ?_;have bh:jc≠i8:=fun e=>by have h1:=B.r8;rw[<-e,B.c]at h1;have h2:(fC s2.1).e=CI.e:=congrArg Row.e (Option.some.inj h1);exact absurd (show(3:Nat)=173 from h2) (by decide)
 have bm:jr≠i8:=fun e=>by have h1:=B.r8;rw[<-e,B.lin.row]at h1;have h2:(pZ f s2.2).e=CI.e:=congrArg Row.e (Option.some.inj h1);exact absurd (show(235:Nat)=173 from h2) (by decide)
 have bn:∀(i:Nat) (r:PRow),s2.2[i]?=some r->f i≠i8:=fun i r hr e=>by have h1:=B.r8;rw[<-e,B.lin.coef i r hr]at h1;have h2:(fC r.coef).e=CI.e:=congrArg Row.e (Option.some.inj h1);exact absurd (show(3:Nat)=173 from h2) (by decide)
 simp only[go_sem,e4,Z,E,u];refine .tup _ _ (.cons _ _ _ _ (.agg _ _ (.cons _ _ _ _ (.row _ _ _ (by rw[aC _ _ _ _ bh];exact B.c) (ConvE.refl _)) (.cons _ _ _ _ (.row _ _ _ (by rw[aC _ _ _ _ bm];exact B.lin.row) (Ns f s2.2 fun i r hr=>(aC _ _ _ _ (bn i r hr)).trans (B.lin.coef i r hr))) .nil))) (.cons _ _ _ _ (.refl _) .nil))
end Nu
namespace Si
open Go.Proofs.Tryz
open Go.Nu
open Go.Proofs.YtmhpdppobocokaaGreatDoor.Nu (ltB geB cB LinB VarB pP)
def exI:Instance:=⟨⟨[⟨#[72,117,98]⟩],[]⟩,[⟨⟨#[97]⟩,1,0,0,[5],0,0,0,100,50,0,0,0,0⟩],[],[],[]⟩
def exL:PLin:=⟨[],[⟨[],1,1⟩]⟩
def exT:Tab:=⟨[[one,one,one]],[z0,one,z0],[0],[1],[false],1,0,0⟩
def exU:Tab:=⟨[[one,one,one]],[z0,z0,z0],[0],[1],[false],1,0,0⟩
def QH:Nu.EU exI 1 [] [] []=(exL,0):=by kernel_rfl
def T6:SolH exL 9 9 exT exU (-1):=⟨by kernel_rfl,by kernel_rfl,by kernel_rfl,by kernel_rfl,by kernel_rfl,by kernel_rfl,by kernel_rfl⟩
def T7:dQ exU=[]:=by kernel_rfl
def UO:(KO exU z0).1=[z0]:=by kernel_rfl
def U0:(gE exL.cost (dQ exU)).1=z0:=by kernel_rfl
def Sv:LinB exL:=⟨by decide,by decide,fun r u n E=>(by
 obtain rfl:=Xap.1 u;exact absurd E List.not_mem_nil),fun r u=>(by
 obtain rfl:=Xap.1 u;exact⟨by decide,by decide⟩)⟩
def RN:LinC exL:=⟨by decide,by decide,fun r u=>(by
 obtain rfl:=Xap.1 u;rfl),fun r u=>(by
 obtain rfl:=Xap.1 u;exact⟨by decide,by decide⟩)⟩
def Pt{H0:aD}{K:AV->aD->Prop}(J:∀u id H',H0 u=none->H0 id=none->H' u=some (aQ [])->H' id=some (aQ [z0])->aU H0 H'->K (.tup [.agg [int 1,.os u,.os id,.sl [],str z0],int 0]) H'):aI prog 74 [.agg (eS exL)] H0 K:=by
 refine Tq Sv RN (fun x L=>by cases L) T6 fun u id H' h1 M F E h5=>?_
 rw[U0];rw[T7]at F;rw[UO]at E;exact J u id H' h1 M F E h5
def OP:Nu.LoadsOk exI 1:=⟨by decide,by decide,by decide,fun o F=>absurd F List.not_mem_nil,fun t u=>(by obtain rfl:=Xap.1 u;exact⟨rfl,fun n E=>(by obtain rfl:=Xap.1 E;decide)⟩)⟩
def U5:Nu.MIn exI [] []:=⟨by decide,by decide,by decide,by decide⟩
def Od:PC prog 73 [.agg (aH exI),.sl [],.sl [],.sl []] (.tup [.agg (eS exL),int 0]):=by have:=Nu.Te exI 1 [] [] [] OP (by decide) U5 (by decide) (fun c u=>by cases u) (fun c u=>by cases u);rw[QH]at this;exact this
end Si
namespace Si
open Go.Proofs.Tryz
open Go.Nu
open Go.Proofs.YtmhpdppobocokaaGreatDoor.Nu (ltB geB cB)
def Nz(g:FuncId)(cs:List AV):PC prog 118 [.sl [],.fn g cs] (int (-1)):=by
 refine pcd func118 rfl rfl ?_;simp only[go_sem];refine⟨fun ρ H=>∃(k:Nat),k<=0/\ρ 0=.sl []/\ρ 7=int (0:Nat)/\ρ 8=int k,fun ρ _=>0-aW (ρ 8),⟨0,Xab _,by simp only[go_sem],by simp only[go_sem,Xaa],(by simp only[go_sem];rfl)⟩,?_⟩;rintro ρ H ⟨k,M,E,F,J⟩;simp only[go_sem,E,F,J];refine aA (fun u=>?_) (fun L=>?_)
 ·exact absurd u (by simp)
 simp only[go_sem,E,F,J];exact .refl _
def Kd(g:FuncId)(cs:List AV):PC prog 70 [.sl [],.fn g cs] (.sl []):=by refine pcd func70 rfl rfl ?_;simp only[go_sem];refine aN (Nz g cs) ?_;simp only[go_sem];refine aA (fun _=>?_) (fun h=>absurd h (by decide));simp only[go_sem];exact .refl _
def Nl:PC prog 34 [.sl []] (.sl []):=by
 refine pcb (fun t=>t == 5) func34 rfl rfl ?_;simp only[go_sem];refine⟨aA (fun _=>?_) (fun h=>by cases h),aA (fun h=>by cases h) (fun _=>?_)⟩
 ·simp only[go_sem];exact .refl _
 ·simp only[go_sem];refine aL fun i hi=>?_
  simp only[go_sem];refine cD (aB _ _ _) ⟨rfl,rfl⟩ trivial (by decide) (fun j u=>?_);simp only[go_sem];exact .row j _ [] (aB _ _ _) .nil
def J5:PC prog 16 [.agg (aH exI),.sl []] (int 0):=by have h:=Dec.TU exI [] (by decide);rw[show Dec.yH exI []=0 by kernel_rfl]at h;exact h
def Uh:PC prog 69 [.agg (aH exI)] (.tup [.sl [],int 0]):=by
 refine pcd func69 rfl rfl ?_;simp only[go_sem];refine⟨fun ρ H=>∃(k:Nat),k<=exI.types.length/\ρ 1=.rp (aH exI) 0/\ρ 4=.sl []/\ρ 11=int (exI.types.length:Nat)/\ρ 12=int k,fun ρ _=>exI.types.length-aW (ρ 12),⟨0,Xab _,by simp only[go_sem],by simp only[go_sem],by simp only[go_sem,Xaa],(by simp only[go_sem];rfl)⟩,?_⟩;rintro ρ H ⟨k,Z,J,F,u,E⟩;simp only[go_sem,J,F,u,E];refine aA (fun L=>?_) (fun O=>?_)
 ·have L:=ltB (by simpa using L);have h1:exI.types.length=1:=rfl;obtain rfl:k=0:=by omega
  simp only[go_sem,J,F,u,E];refine⟨fun ρ H=>ρ 1=.rp (aH exI) 0/\ρ 4=.sl []/\ρ 5=int (0:Nat)/\ρ 6=int 1/\ρ 11=int (exI.types.length:Nat)/\ρ 12=int (0:Nat),fun _ _=>0,⟨by simp only[go_sem,J,F,u,E],by simp only[go_sem,J,F,u,E],by simp only[go_sem,J,F,u,E],by simp only[go_sem,J,F,u,E],by simp only[go_sem,J,F,u,E],by simp only[go_sem,J,F,u,E]⟩,?_⟩;rintro ρ H ⟨J,F,e5,M,u,E⟩;simp only[go_sem,J,F,e5,M,u,E];refine⟨by decide,aA (fun h=>absurd h (by decide +kernel)) (fun _=>?_)⟩;simp only[go_sem,J,F,e5,M,u,E];exact⟨⟨1,by omega,rfl⟩,by decide⟩
 simp only[go_sem,J,F,u,E];exact .refl _
def Kq:PC prog 33 [.agg (aH exI),.sl []] (.tup [.sl [],int 0]):=by refine pcd func33 rfl rfl ?_;simp only[go_sem];refine aN J5 ?_;simp only[go_sem];refine aA (fun h=>absurd h (by decide)) (fun _=>?_);simp only[go_sem];refine aN Uh ?_;simp only[go_sem];refine aA (fun h=>absurd h (by decide)) (fun _=>?_);simp only[go_sem];refine aN (Kd _ _) ?_;simp only[go_sem];exact .refl _
def HH:PC prog 32 [.agg (aH exI),.sl [],.sl []] (int 0):=by
 refine pcd func32 rfl rfl ?_;simp only[go_sem];refine aN J5 ?_;simp only[go_sem];refine aA (fun h=>absurd h (by decide)) (fun _=>?_);simp only[go_sem];refine aA (fun h=>absurd h (by decide)) (fun _=>?_);simp only[go_sem];refine⟨fun ρ H=>∃(k:Nat),k<=0/\ρ 3=.rp (aH exI) 0/\ρ 21=int (0:Nat)/\ρ 22=int k,fun ρ _=>0-aW (ρ 22),⟨0,Xab _,by simp only[go_sem],by simp only[go_sem,Xaa],(by simp only[go_sem];rfl)⟩,?_⟩;rintro ρ H ⟨k,M,J,u,E⟩;simp only[go_sem,J,u,E];refine aA (fun F=>?_) (fun L=>?_)
 ·exact absurd F (by simp)
 simp only[go_sem,J,u,E];exact .refl _
end Si
namespace Si
open Go.Proofs.Tryz
open Go.Nu
open Go.Proofs.YtmhpdppobocokaaGreatDoor.Nu (ltB geB cB)
def Ur{H0:aD}{K:AV->aD->Prop}(g:AV)(u:∀r,K r H0):aI prog 203 [.sl [],int 0,int 0,g] H0 K:=by refine aI.body (c:=f203.body.getD .skip) (fun _=>false) mixed func203 rfl (by kernel_rfl) ?_;unfold f203;simp only[Xag];simp only[go_sem];refine⟨fun ρ H=>ρ 2=int 0/\ρ 8=int 1/\H=H0,fun _ _=>0,⟨by simp only[go_sem],by simp only[go_sem];rfl,rfl⟩,?_⟩;rintro ρ H ⟨e2,E,rfl⟩;simp only[go_sem,e2,E];refine aA (fun h=>absurd h (by decide)) (fun _=>?_);simp only[go_sem];exact u _
def SM{H0:aD}{K:AV->aD->Prop}(g:FuncId)(M:∀r,K r H0):aI prog 140 [.sl [],int 0,.v (.func (.func g) #[] #[])] H0 K:=by
 refine aI.body (c:=f140.body.getD .skip) (fun _=>false) mixed func140 rfl (by kernel_rfl) ?_;unfold f140;simp only[Xag];simp only[go_sem];refine⟨fun ρ H=>ρ 0=.sl []/\ρ 1=int 0/\ρ 2=.v (.func (.func g) #[] #[])/\ρ 6=int 20/\ρ 7=int 0/\ρ 8=int 20/\H=H0,fun _ _=>0,⟨by simp only[go_sem],by simp only[go_sem],by simp only[go_sem],by simp only[go_sem],by simp only[go_sem],by simp only[go_sem],rfl⟩,?_⟩;rintro ρ H ⟨F,u,e2,E,J,L,rfl⟩;simp only[go_sem,F,u,e2,E,J,L];refine aA (fun h=>absurd h (by decide)) (fun _=>?_);simp only[go_sem,F,u,e2,E,J,L];refine Ur _ fun r=>?_
 simp only[go_sem];refine⟨fun ρ H'=>ρ 1=int 0/\ρ 6=int 20/\H'=H,fun _ _=>0,⟨by simp only[go_sem,u],by simp only[go_sem,E],rfl⟩,?_⟩;rintro ρ H' ⟨u,E,rfl⟩;simp only[go_sem,u,E];refine aA (fun h=>absurd h (by decide)) (fun _=>?_);simp only[go_sem];exact M _
def Tj{H0:aD}{K:AV->aD->Prop}(g:FuncId)(u:∀r,K r H0):aI prog 76 [.sl [],.v (.func (.func g) #[] #[])] H0 K:=by
 refine aI.body (c:=f76.body.getD .skip) (fun _=>false) mixed func76 rfl (by kernel_rfl) ?_;unfold f76;simp only[Xag];simp only[go_sem];refine SM g fun r=>?_
 simp only[go_sem];exact u _
def exP:List AV:=aH exI++[.sl [],.sl [],.sl [],.sl []]
def Vd:exP.getD 9 .any=.sl []:=rfl
def TF:exP.getD 8 .any=.sl []:=rfl
def VB:exP.getD 7 .any=.sl []:=rfl
def VA:exP.getD 6 .any=.sl []:=rfl
section
variable{H0:aD}{K:AV->aD->Prop}
def Qy(hK:∀M id H',H0 M=none->H0 id=none->H' M=some (aQ [])->H' id=some (aQ [z0])->aU H0 H'->K (.tup [.agg [int 1,.os M,.os id,.sl [],str z0],int 0]) H'):aI prog 35 [.rp exP 0] H0 K:=by
 refine aI.body (c:=f35.body.getD .skip) (fun _=>false) mixed func35 rfl (by kernel_rfl) ?_;unfold f35;simp only[Xag];simp only[go_sem];refine aL fun E Z=>?_
 have L:=(aU.refl H0).new Z (some ⟨61,5,[[.v (.int .i64 0),.sl [],.sl [],.sl [],.v (.string ByteArray.empty)]]⟩);have R2:aE H0 E (some ⟨61,5,[[.v (.int .i64 0),.sl [],.sl [],.sl [],.v (.string ByteArray.empty)]]⟩) E=some ⟨61,5,[[.v (.int .i64 0),.sl [],.sl [],.sl [],.v (.string ByteArray.empty)]]⟩:=aB _ _ _;generalize aE H0 E _=H1 at *;simp only[go_sem];have hm:PC prog 73 [.agg (List.take 6 exP),.sl [],.sl [],.sl []] (.tup [.agg (eS exL),int 0]):=Od;refine qK (.q 0 (.q 1 (.q 2 (.q 3 (.q 4 (.q 5 (.q 6 (.q 7 (.q 8 (.q 9 (.q 10 (.q 11 (.q 12 (.q 13 (.q 14 (.q 15 (.a2 16 (.a2 17 (.a3 18 (.a2 19 (.a1 20 (.a1 21 (.a1 22 .nil))) 20 (.a2 19 (.a1 21 (.a1 22 .nil)) 21 (.a1 19 (.a1 22 .nil)))) 19 (.a2 18 (.a1 20 (.a1 21 (.a1 22 .nil))) 20 (.a1 18 (.a1 21 (.a1 22 .nil)))) 20 (.a2 18 (.a2 19 (.a1 21 (.a1 22 .nil)) 21 (.a1 19 (.a1 22 .nil))) 19 (.a1 18 (.a1 21 (.a1 22 .nil))))) 20 (.a1 17 (.a2 18 (.a2 19 (.a1 21 (.a1 22 .nil)) 21 (.a1 19 (.a1 22 .nil))) 19 (.a1 18 (.a1 21 (.a1 22 .nil)))))) 20 (.a1 16 (.a1 17 (.a2 18 (.a2 19 (.a1 21 (.a1 22 .nil)) 21 (.a1 19 (.a1 22 .nil))) 19 (.a1 18 (.a1 21 (.a1 22 .nil))))))))))))))))))))))) (fun F H'=>F 2=.op E 0 0/\F 5=int 0/\∃O,F 4=.op O 0 0/\H' O=some ⟨173,2,[eS exL]⟩/\aU H1 H') (by kernel_rfl) (fun K' ac Hp=>?_) ?_
 ·simp only[go_sem,TF,VB,VA];refine⟨by decide,by decide,by decide,by decide,?_⟩
  repeat' (first
   | refine fY ?_ ?_
   | refine IJ ?_ ?_ ?_
   | refine aN hm ?_
   | (refine aL fun O aa=>?_)
   | (refine aZ (aB _ _ _) (by simp[zE]) ?_)
   | simp only[go_sem]
   | (change aX none (AV.tup [AV.agg (eS exL),int 0]) _;simp only[go_sem])
   | (change aX none (AV.op O 0 0) _;simp only[go_sem])
   | (refine mV ?_))
  all_goals (refine ac _ _ ⟨rfl,rfl,O,rfl,aB _ _ _,((aU.refl H1).new aa _).new aa _⟩)
 rintro ρ H ⟨e2,e5,O,e4,R4,u⟩;have J:=u _ _ R2;simp only[go_sem,e5];refine aA (fun h=>absurd h (by decide)) (fun _=>?_);simp only[go_sem,e2,e4,R4];refine Pt fun M id H3 h1 h2 h3 h4 h5=>?_
 have ae:=h5 _ _ J;simp only[go_sem,e2];refine aZ ae (by simp) ?_;have af:M≠E:=fun e=>by subst e;rw[J]at h1;cases h1
 have ab:id≠E:=fun e=>by subst e;rw[J]at h2;cases h2
 have Rg:∀a,aE H3 E a E=a:=fun a=>aB _ _ _
 simp only[go_sem,e2,Rg];exact hK M id _ ((L.trans u).none h1) ((L.trans u).none h2) (by rw[aC _ _ _ _ af];exact h3) (by rw[aC _ _ _ _ ab];exact h4) ((L.trans (u.trans h5)).new Z _)
def OK{k:Int}{x d r v:AV}(M:∀H',aU H0 H'->K (.tup [.sl [],int 0]) H'):aI prog 36 [.rp exP 0,.agg [int k,x,d,r,v]] H0 K:=by
 refine aI.body (c:=f36.body.getD .skip) (fun _=>false) mixed func36 rfl (by kernel_rfl) ?_;unfold f36;simp only[Xag];simp only[go_sem];refine⟨by decide,?_⟩;simp only[go_sem,Vd,List.length_nil];refine⟨fun ρ H=>∃(k:Nat),k<=0/\ρ 6=.sl []/\ρ 16=int (0:Nat)/\ρ 17=int k/\aU H0 H,fun ρ _=>0-aW (ρ 17),⟨0,Xab _,by simp only[go_sem],by simp only[go_sem,Xaa],(by simp only[go_sem];rfl),aU.refl H0⟩,?_⟩;rintro ρ H ⟨k,Z,L,E,u,F⟩;simp only[go_sem,L,E,u];refine aA (fun J=>?_) (fun O=>?_)
 ·exact absurd J (by simp)
 simp only[go_sem,L,E,u];refine Tj _ fun r=>?_
 simp only[go_sem,L,E,u];refine⟨by decide,?_⟩;rw[List.take_nil];exact M _ F
def PR(hK:∀ix id H',H0 ix=none->H0 id=none->H' ix=some (aQ [])->H' id=some (aQ [z0])->aU H0 H'->K (.tup [.agg [int 1,.os ix,.os id,.sl [],str z0,.sl [],int 1],int 0]) H'):aI prog 17 [.agg (aH exI),.sl [],.sl []] H0 K:=by
 refine aI.body (c:=f17.body.getD .skip) (fun _=>false) mixed func17 rfl (by kernel_rfl) ?_;unfold f17;simp only[Xag];simp only[go_sem];refine aL fun L ae=>?_
 have aa:=(aU.refl H0).new ae (some ⟨64,7,[[.v (.int .i64 0),.sl [],.sl [],.sl [],.v (.string ByteArray.empty),.sl [],.v (.int .i64 0)]]⟩);have R6:aE H0 L (some ⟨64,7,[[.v (.int .i64 0),.sl [],.sl [],.sl [],.v (.string ByteArray.empty),.sl [],.v (.int .i64 0)]]⟩) L=some ⟨64,7,[[.v (.int .i64 0),.sl [],.sl [],.sl [],.v (.string ByteArray.empty),.sl [],.v (.int .i64 0)]]⟩:=aB _ _ _;generalize aE H0 L _=H1 at *;simp only[go_sem];refine aN HH ?_;simp only[go_sem];refine aA (fun h=>absurd h (by decide)) (fun _=>?_);simp only[go_sem];refine aN Kq ?_;simp only[go_sem];refine aA (fun h=>absurd h (by decide)) (fun _=>?_);simp only[go_sem];refine FL [(0,true),(1,true),(2,true),(3,true),(4,false),(5,false),(6,false),(7,false)] (by kernel_rfl) ?_;simp only[go_sem];refine aN Nl ?_;simp only[go_sem];refine⟨fun ρ H=>ρ 6=.op L 0 0/\ρ 11=.rp exP 0/\ρ 12=int 1/\aU H1 H,fun _ _=>0,⟨by simp only[go_sem],by simp only[go_sem];rfl,by simp only[go_sem],aU.refl H1⟩,?_⟩;rintro ρ H ⟨Z,u,E,k1⟩;simp only[go_sem,Z,u,E];refine Qy fun ix id H2 h1 h2 h3 h4 k2=>?_
 simp only[go_sem];refine aL fun F ab=>?_
 try simp only[go_sem]
 refine aZ (aB _ _ _) (by simp) ?_;generalize hG:aE (aE H2 F _) F _=G;have ac:G F=some ⟨61,5,[[int 1,.os ix,.os id,.sl [],str z0]]⟩:=by rw[<-hG,aB];rfl
 have k3:aU H2 G:=by rw[<-hG];exact((aU.refl H2).new ab _).new ab _
 clear hG;simp only[go_sem,Z,u,E];refine aA (fun h=>absurd h (by decide)) (fun _=>?_);simp only[go_sem,Z,u,E,ac];refine OK fun G2 k4=>?_
 simp only[go_sem,Z,u,E];refine aA (fun h=>absurd h (by decide)) (fun _=>?_);simp only[go_sem,Z,u,E,List.length_nil];refine aA (fun _=>?_) (fun h=>absurd h (by decide));have O:=k4 _ _ ac;have ah:=k4 _ _ (k3 _ _ (k2 _ _ (k1 _ _ R6)));have ag:L≠F:=aO (k2 _ _ (k1 _ _ R6)) ab;simp only[go_sem,Z,u,E];refine eN [F] [(0,true),(1,true),(2,true),(3,true),(4,true),(5,true),(6,true),(7,false),(8,false)] (by simp[O]) (by kernel_rfl) fun Hp Hr hp hr _ aj=>?_
 have M:=(hp F (by simp)).trans O;have J:=(hr L (by simp[ag])).trans ah;simp only[go_sem,Z,u,E,TF,M,J];refine⟨by decide,?_⟩;refine aZ J (by simp) ?_;simp only[go_sem];refine pJ hr ?_;have Rg:∀a,aE G2 L a L=a:=fun a=>aB _ _ _
 simp only[go_sem,Z,Rg];have af:ix≠L:=fun e=>by subst e;rw[k1 _ _ R6]at h1;cases h1
 have ai:id≠L:=fun e=>by subst e;rw[k1 _ _ R6]at h2;cases h2
 exact hK ix id _ ((aa.trans k1).none h1) ((aa.trans k1).none h2) (by rw[aC _ _ _ _ af];exact k4 _ _ (k3 _ _ h3)) (by rw[aC _ _ _ _ ai];exact k4 _ _ (k3 _ _ h4)) ((aa.trans (k1.trans (k2.trans (k3.trans k4)))).new ae _)
end
end Si
end Go.Proofs.YtmhpdppobocokaaGreatDoor
section
namespace Go.Aw
open Go.RowKit
def PC.lent{P:Program}{f:FuncId}{args args':List AV}{H:aD}{K:AV->aD->Prop}{r:AV}(O:ConvL H args args')(h:PC P f args' r)
  (hm:∀S w S2 M v,rep S w r v->rep S2 M r v) (hK:K r H):aI P f args H K:=by
 intro S w vals J ha
 let S0:Sg:={ S.froze H with fz:=fun k=>k<w.heap.size }
 have F:(S.froze H).le S0:=⟨fun _ h=>h,Nat.le_refl _,fun _ _=>rfl,fun _ _=>rfl⟩;have L:St S0 w bJ:=⟨fun k u=>by
  rcases u with u|⟨j,r,hj,E⟩
  ·exact J.fz_lt k (J.ro_fz k u)
  ·exact(J.rows j r hj).block_lt E,fun _ h=>h,fun k r u=>by simp[bJ]at u,fun k r u=>by simp[bJ]at u,fun k k' r r' u=>by simp[bJ]at u,(J.tabs.keep (S.le_froze H) (eG.refl S w)).keep F (eG.refl _ w)⟩
 refine(h S0 w vals L (fun _ h=>h) (cP F (eG.refl _ w) _ _ (O.rep J ha))).mono fun e w' ⟨v,x,H',S',he,hx,Z,hv,E,hn⟩=>?_
 subst hx;exact⟨v,x,H,S,he,hK,J.after E.size E.same,hm _ _ _ _ _ hv,J.grow E.os E.tape E.output E.size E.same,dK.refl _ _⟩
def JI{S:Sg}{w:World}{F:Sg}{E:World}{x:Value}{v:Value}(h:rep S w (.tup [.sl [],.v x]) v):rep F E (.tup [.sl [],.v x]) v:=by simp only[rep,aR]at h |-;obtain⟨l,rfl,u,t,rfl,⟨ad,n,c,rfl,h1,L,J,_⟩,M,O,rfl,rfl,rfl⟩:=h;exact⟨_,rfl,_,_,rfl,⟨ad,n,c,rfl,h1,L,J,.inl trivial⟩,_,_,rfl,rfl,rfl⟩
end Go.Aw
namespace Go.Proofs.YtmhpdppobocokaaGreatDoor.Si
open Go.Aw Go.Aw.D Go.Proofs Ty Go.Nu
open Go.Proofs.YtmhpdppobocokaaGreatDoor.Nu (ltB geB cB LoadsOk Pg Ix)
def NA(g:FuncId)(cs:List AV):PC Tryz.prog 46 [.sl [],.fn g cs] (int (-1)):=by
 refine pcd Tryz.func46 rfl rfl ?_;simp only[go_sem];refine⟨fun ρ H=>∃(k:Nat),k<=0/\ρ 0=.sl []/\ρ 7=int (0:Nat)/\ρ 8=int k,fun ρ _=>0-aW (ρ 8),⟨0,Nat.zero_le _,by simp only[go_sem],by simp only[go_sem,List.length_map],(by simp only[go_sem];rfl)⟩,?_⟩;rintro ρ H ⟨k,M,E,F,J⟩;simp only[go_sem,E,F,J];refine aA (fun u=>?_) (fun L=>?_)
 ·exact absurd u (by simp)
 simp only[go_sem,E,F,J];exact .refl _
def Kk(g:FuncId)(cs:List AV):PC Tryz.prog 19 [.sl [],.fn g cs] (.sl []):=by refine pcd Tryz.func19 rfl rfl ?_;simp only[go_sem];refine aN (NA g cs) ?_;simp only[go_sem];refine aA (fun _=>?_) (fun h=>absurd h (by decide));simp only[go_sem];exact .refl _
def Oi:LoadsOk exI 1 where
 dims:=by decide
 orders:=by decide
 types:=by decide
 load:=by intro o u;cases u
 cap:=by decide
def Sj:PC Tryz.prog 18 [.agg (aH exI),.sl [],.sl []] (.tup [.sl [],int 0]):=by have h:=Pg exI 1 [] [] Oi (by decide) (by decide) ⟨fun _ h=>(by cases h),by decide,by decide,fun _ h=>(by cases h)⟩;rw[show Ix exI 1 [] []=([],0)by decide +kernel]at h;exact h
section
variable{H0:aD}{K:AV->aD->Prop}
def UU(hK:∀O id H',H0 O=none->H0 id=none->H' O=some (aQ [])->H' id=some (aQ [z0])->aU H0 H'->K (.tup [.sl [],.agg [int 1,.os O,.os id,.sl [],str z0,.sl [],int 1],int 0]) H'):aI Tryz.prog 9 [.agg (aH exI),.sl []] H0 K:=by
 refine aI.body (c:=Tryz.f9.body.getD .skip) (fun _=>false) mixed Tryz.func9 rfl (by kernel_rfl) ?_;unfold Tryz.f9;simp only[Option.getD_some];simp only[go_sem];refine aL fun J ah=>?_
 have Z:=(aU.refl H0).new ah (some ⟨64,7,[[.v (.int .i64 0),.sl [],.sl [],.sl [],.v (.string ByteArray.empty),.sl [],.v (.int .i64 0)]]⟩);have R5:aE H0 J (some ⟨64,7,[[.v (.int .i64 0),.sl [],.sl [],.sl [],.v (.string ByteArray.empty),.sl [],.v (.int .i64 0)]]⟩) J=some ⟨64,7,[[.v (.int .i64 0),.sl [],.sl [],.sl [],.v (.string ByteArray.empty),.sl [],.v (.int .i64 0)]]⟩:=aB _ _ _;generalize aE H0 J _=H1 at *;simp only[go_sem];refine aN J5 ?_;simp only[go_sem];refine aA (fun h=>absurd h (by decide)) (fun _=>?_);simp only[go_sem];refine aL fun i8 al=>?_
 have ae:=(aU.refl H1).new al (some ⟨47,1,[[.sl []]]⟩);have R8:aE H1 i8 (some ⟨47,1,[[.sl []]]⟩) i8=some ⟨47,1,[[.sl []]]⟩:=aB _ _ _;generalize aE H1 i8 _=H2 at *;replace R5:=ae _ _ R5;replace Z:=Z.trans ae;have af:J≠i8:=fun e=>by subst e;rw[R5]at R8;cases R8
 simp only[go_sem];refine⟨fun ρ H=>ρ 1=.sl []/\ρ 2=.rp (aH exI) 0/\ρ 5=.op J 0 0/\ρ 8=.op i8 0 0/\aU H2 H,fun _ _=>0,⟨by simp only[go_sem],by simp only[go_sem],by simp only[go_sem],by simp only[go_sem],aU.refl H2⟩,?_⟩;rintro ρ H ⟨F,e2,e5,E,k2⟩;have ac:=k2 _ _ R8;simp only[go_sem,F,e2,e5,E,ac];refine PR fun O id H3 h1 h2 h3 h4 k3=>?_
 simp only[go_sem];refine aL fun i9 h9=>?_
 try simp only[go_sem]
 refine aZ (aB _ _ _) (by simp) ?_;generalize hG:aE (aE H3 i9 _) i9 _=G;have R9:G i9=some ⟨64,7,[[int 1,.os O,.os id,.sl [],str z0,.sl [],int 1]]⟩:=by rw[<-hG,aB];rfl
 have k4:aU H3 G:=by rw[<-hG];exact((aU.refl H3).new h9 _).new h9 _
 clear hG;have ab:=k4 _ _ (k3 _ _ ac);simp only[go_sem,F,e2,e5,E];refine aA (fun h=>absurd h (by decide)) (fun _=>?_);simp only[go_sem,F,e2,e5,E,R9,ab];refine aA (fun h=>absurd h (by decide)) (fun _=>?_);simp only[go_sem,F,e2,e5,E];have R3:=k4 _ _ h3;have am:i9≠O:=fun e=>by subst e;rw[h9]at h3;cases h3
 refine eN [i9] [(0,true),(1,true),(2,true),(3,true),(4,true),(5,true),(6,true),(7,true),(8,true),(9,false),(10,false),(11,true),(12,true),(13,true),(14,true),(15,true)] (by simp[R9]) (by kernel_rfl) fun Hp Hr hp hr _ ag=>?_
 have u:=(hp i9 (by simp)).trans R9;have L:=(hr O (by simp[am.symm])).trans R3;simp only[go_sem,F,e2,e5,E,u,L];refine⟨by decide,?_⟩;refine PC.lent (.cons _ _ _ _ (.refl _) (.cons _ _ _ _ (.refl _) (.cons _ _ _ _ (.part0 O 0 _ L) .nil))) Sj (fun _ _ _ _ _ h=>JI h) ?_;simp only[go_sem];refine nC hr ?_;simp only[go_sem,F,e2,e5,E];refine aA (fun h=>absurd h (by decide)) (fun _=>?_);simp only[go_sem,F,e2,e5,E];refine aN (Kk _ _) ?_;simp only[go_sem,F,e2,e5,E];refine aA (fun _=>?_) (fun h=>absurd h (by decide));have aj:=k4 _ _ (k3 _ _ (k2 _ _ R5));have ai:J≠i9:=aO (k3 _ _ (k2 _ _ R5)) h9;clear hp hr ag u L;simp only[go_sem,F,e2,e5,E];refine eN [i8,i9] [(0,true),(1,true),(2,true),(3,false),(4,false)] (by simp[ab,R9]) (by kernel_rfl) fun Hp Hr hp hr _ ag=>?_
 have aa:=(hp i8 (by simp)).trans ab;have u:=(hp i9 (by simp)).trans R9;have M:=(hr J (by simp[af,ai])).trans aj;simp only[go_sem,F,e2,e5,E,aa,u,M];refine aZ M (by simp) ?_;simp only[go_sem];refine pJ hr ?_;have Rg:∀a,aE G J a J=a:=fun a=>aB _ _ _
 simp only[go_sem,F,e2,e5,E,Rg];have kH:=(Z.trans k2);have kG:=(Z.trans (k2.trans (k3.trans k4)));have ak:O≠J:=fun e=>by subst e;rw[k2 _ _ R5]at h1;cases h1
 have an:id≠J:=fun e=>by subst e;rw[k2 _ _ R5]at h2;cases h2
 exact hK O id _ (kH.none h1) (kH.none h2) (by rw[aC _ _ _ _ ak];exact k4 _ _ h3) (by rw[aC _ _ _ _ an];exact k4 _ _ h4) (kG.new ah _)
end
end Go.Proofs.YtmhpdppobocokaaGreatDoor.Si
end
namespace Go.Proofs.YtmhpdppobocokaaGreatDoor
namespace Si
open Go.Proofs.Tryz
open Go.Aw Go.Aw.D Go.Proofs Ty Go.Nu
open Go.Proofs.YtmhpdppobocokaaGreatDoor.Nu (ltB geB cB cI zD oO)
def aU.step{H0 H:aD}(k:aU H0 H){i:Nat}(h:H i=Option.none)(r:Option Row):aU H0 (aE H i r):=k.new (k.none h) r
section
variable{H0:aD}{K:AV->aD->Prop}
def UP(g:AV)(u:∀r,K r H0):aI prog 172 [.sl [],int 0,int 0,g] H0 K:=by refine aI.body (c:=f172.body.getD .skip) (fun _=>false) mixed func172 rfl (by kernel_rfl) ?_;unfold f172;simp only[Xag];simp only[go_sem];refine⟨fun ρ H=>ρ 2=int 0/\ρ 8=int 1/\H=H0,fun _ _=>0,⟨by simp only[go_sem],by simp only[go_sem];rfl,rfl⟩,?_⟩;rintro ρ H ⟨e2,E,rfl⟩;simp only[go_sem,e2,E];refine aA (fun h=>absurd h (by decide)) (fun _=>?_);simp only[go_sem];exact u _
def T8(g:FuncId)(J:∀r,K r H0):aI prog 105 [.sl [],int 0,int 0,int 0,.v (.func (.func g) #[] #[])] H0 K:=by
 refine aI.body (c:=f105.body.getD .skip) (fun _=>false) mixed func105 rfl (by kernel_rfl) ?_;unfold f105;simp only[Xag];simp only[go_sem];refine⟨fun ρ H=>ρ 0=.sl []/\ρ 1=int 0/\ρ 2=int 0/\ρ 4=.v (.func (.func g) #[] #[])/\H=H0,fun _ _=>0,⟨by simp only[go_sem],by simp only[go_sem],by simp only[go_sem],by simp only[go_sem],rfl⟩,?_⟩;rintro ρ H ⟨u,F,e2,E,rfl⟩;simp only[go_sem,u,F,e2,E];refine aA (fun _=>?_) (fun h=>absurd h (by decide));simp only[go_sem,u,F,e2,E];refine UP _ fun r=>?_
 simp only[go_sem];exact J _
end
def RS:PC prog 181 [.v (.int .u64 0)] (int 0):=by refine pcd func181 rfl rfl ?_;simp only[go_sem];refine aA (fun h=>absurd h (by decide)) (fun _=>?_);simp only[go_sem];refine aA (fun h=>absurd h (by decide)) (fun _=>?_);simp only[go_sem];refine aA (fun h=>absurd h (by decide)) (fun _=>?_);simp only[go_sem];exact⟨by decide +kernel,cI (by decide +kernel)⟩
def Vg:PC prog 106 [.v (.int .u64 0)] (int 0):=by refine pcd func106 rfl rfl ?_;simp only[go_sem];refine aA (fun h=>by cases h) (fun _=>?_);simp only[go_sem];refine aN RS ?_;simp only[go_sem];exact .refl _
section
variable{H0:aD}{K:AV->aD->Prop}
def ME(g:FuncId)(u:∀r,K r H0):aI prog 52 [.sl [],.v (.func (.func g) #[] #[])] H0 K:=by
 refine aI.body (c:=f52.body.getD .skip) (fun _=>false) mixed func52 rfl (by kernel_rfl) ?_;unfold f52;simp only[Xag];simp only[go_sem];refine aN Vg ?_;simp only[go_sem];refine T8 _ fun r=>?_
 simp only[go_sem];exact u _
end
def PG:PC prog 99 [.sl []] (.sl []):=by
 refine pcd func99 rfl rfl ?_;simp only[go_sem];refine aL fun m O=>?_
 simp only[go_sem];refine⟨fun ρ H=>∃(k:Nat),k<=0/\ρ 4=.sl []/\ρ 12=int (0:Nat)/\ρ 13=int k,fun ρ _=>0-aW (ρ 13),⟨0,Xab _,by simp only[go_sem],by simp only[go_sem,Xaa],(by simp only[go_sem];rfl)⟩,?_⟩;rintro ρ H ⟨k,M,F,E,u⟩;simp only[go_sem,F,E,u];refine aA (fun J=>?_) (fun L=>?_)
 ·exact absurd J (by simp)
 simp only[go_sem,F,E,u];refine ME _ fun r=>?_
 simp only[go_sem,F,E,u];exact .refl _
section
variable{H0:aD}{K:AV->aD->Prop}
def mZ(a b m:Nat):Row:=⟨205,10,[aH exI++[.os a,.os b,.om m,int (oO exI)]]⟩
def Qw(hK:∀i H' (a b m:Nat),H0 i=none->H' i=some (mZ a b m)->aU H0 H'->K (.tup [.op i 0 0,int 0]) H'):aI prog 48 [.agg (aH exI),.sl []] H0 K:=by
 refine aI.body (c:=f48.body.getD .skip) (fun t=>t == 25||t == 26) mixed func48 rfl (by kernel_rfl) ?_;unfold f48;simp only[Xag];simp only[go_sem];refine aA (fun h=>absurd h (by decide)) (fun _=>?_);simp only[go_sem];refine FL [(0,true),(2,true),(3,true),(1,false),(4,false),(5,false),(6,false)] (by kernel_rfl) ?_;simp only[go_sem];refine⟨_,(zD exI (by decide)).q rfl,?_⟩;simp only[go_sem];refine aL fun m hm=>?_
 simp only[go_sem];refine aL fun k1 h1=>?_
 refine aL fun k2 h2=>?_
 refine aL fun k3 h3=>?_
 refine aL fun k4 h4=>?_
 refine aL fun k5 h5=>?_
 refine aL fun k6 h6=>?_
 refine aL fun k7 h7=>?_
 refine aL fun Z h8=>?_
 change bD (some (aH exI++[.os k7,.os Z,.om m,int (oO exI)])) _
 simp only[go_sem];refine⟨by simp,?_⟩;refine aL fun i hi=>?_
 generalize hG:aE (aE (aE (aE (aE (aE (aE (aE (aE H0 m _) k1 _) k2 _) k3 _) k4 _) k5 _) k6 _) k7 _) Z _=G at hi |-;have kA:aU H0 G:=by rw[<-hG];exact(((((((((aU.refl H0).step hm _).step h1 _).step h2 _).step h3 _).step h4 _).step h5 _).step h6 _).step h7 _).step h8 _
 clear hG hm h1 h2 h3 h4 h5 h6 h7 h8;generalize ab:aE G i _=G1;have R:G1 i=some (mZ k7 Z m):=by rw[<-ab,aB];rfl
 have kB:aU H0 G1:=by rw[<-ab];exact kA.step hi _
 clear ab;simp only[go_sem];refine⟨fun ρ H=>∃(k:Nat),k<=0/\ρ 2=.rp (aH exI) 0/\ρ 6=.op i 0 0/\ρ 1=.sl []/\ρ 28=int (0:Nat)/\ρ 29=int k/\H i=some (mZ k7 Z m)/\aU H0 H,fun ρ _=>0-aW (ρ 29),⟨0,Xab _,by simp only[go_sem],by simp only[go_sem],by simp only[go_sem],by simp only[go_sem,Xaa],(by simp only[go_sem];rfl),R,kB⟩,?_⟩;rintro ρ H ⟨k,hk,e2,E,O,F,u,R,kB⟩;simp only[go_sem,e2,E,O,F,u];refine aA (fun M=>?_) (fun af=>?_)
 ·exact absurd M (by simp)
 simp only[go_sem,e2,E,O,F,u,R];refine⟨by decide,?_⟩;refine aL fun j hj=>?_
 have R2:aE H j (some ⟨62,1,List.replicate exI.orders.length [.sl []]⟩) i=some (mZ k7 Z m):=eY R hj;simp only[go_sem,e2,E,O,F,u,R2];refine cC TZ R2 ⟨Nat.zero_lt_one,rfl,Nat.le_of_ble_eq_true rfl⟩ ?_;generalize aa:aE (aE H j _) i _=G2;have R3:G2 i=some (mZ j Z m):=by rw[<-aa,aB];rfl
 have kC:aU H0 G2:=by rw[<-aa];exact(kB.step hj _).new (kA.none hi) _
 clear aa R2 R kB hj;simp only[go_sem,e2,E,O,F,u];refine aN PG ?_;simp only[go_sem,e2,E,O,F,u];refine⟨fun ρ H=>∃(k:Nat),k<=0/\ρ 2=.rp (aH exI) 0/\ρ 6=.op i 0 0/\ρ 51=int (0:Nat)/\ρ 52=int k/\H i=some (mZ j Z m)/\aU H0 H,fun ρ _=>0-aW (ρ 52),⟨0,Xab _,by simp only[go_sem,e2,E,O,F,u],by simp only[go_sem,e2,E,O,F,u],by simp only[go_sem,Xaa,e2,E,O,F,u],(by simp only[go_sem,e2,E,O,F,u];rfl),R3,kC⟩,?_⟩;rintro ρ H ⟨k,hk,e2,E,J,L,R,kB⟩;simp only[go_sem,e2,E,J,L];refine aA (fun M=>?_) (fun af=>?_)
 ·exact absurd M (by simp)
 simp only[go_sem,e2,E,J,L];refine⟨fun ρ H=>∃(k:Nat),k<=exI.orders.length/\ρ 2=.rp (aH exI) 0/\ρ 6=.op i 0 0/\ρ 78=int (exI.orders.length:Nat)/\ρ 79=int k/\H i=some (mZ j Z m)/\aU H0 H,fun ρ _=>exI.orders.length-aW (ρ 79),⟨0,Xab _,by simp only[go_sem,e2,E,J,L],by simp only[go_sem,e2,E,J,L],by simp only[go_sem,Xaa,e2,E,J,L],(by simp only[go_sem,e2,E,J,L];rfl),R,kB⟩,?_⟩;rintro ρ H ⟨k,hk,e2,E,ac,ae,R,kB⟩;simp only[go_sem,e2,E,ac,ae];refine aA (fun M=>?_) (fun af=>?_)
 ·exact absurd M (by show ¬decide ((k:Int)<((0:Nat):Int))=true;simp)
 simp only[go_sem,e2,E,ac,ae];exact hK i _ _ _ _ (kA.none hi) R kB
def stZ:List AV:=[int 0,int 0,int 0,int 0,int 0,int 0,int 0,int 0]
def Lh{a b m:Nat}:((mZ a b m).es.getD 0 []).getD 3 .any=.sl []:=rfl
def Lr:stZ.getD 0 .any=int 0:=rfl
def M0{i a b m:Nat}(R:H0 i=some (mZ a b m))(Z:∀H',aU H0 H'->K (.agg stZ) H'):aI prog 49 [.op i 0 0,.agg stZ] H0 K:=by
 refine aI.body (c:=f49.body.getD .skip) (fun _=>false) mixed func49 rfl (by kernel_rfl) ?_;unfold f49;simp only[Xag];simp only[go_sem];refine aL fun L M=>?_
 have O:=(aU.refl H0).step M (some ⟨139,8,[stZ]⟩);have R4:aE H0 L (some ⟨139,8,[stZ]⟩) L=some ⟨139,8,[stZ]⟩:=aB _ _ _;have ab:i≠L:=aO R M;replace R:=O _ _ R
 change awp _ _ _ _ _ _ _ (aE H0 L (some ⟨139,8,[stZ]⟩))
 generalize aE H0 L _=HA at *;simp only[go_sem];refine⟨fun ρ H=>ρ 0=.op i 0 0/\ρ 3=.rp stZ 0/\ρ 4=.op L 0 0/\H=HA,fun _ _=>0,⟨by simp only[go_sem],by simp only[go_sem],by simp only[go_sem],rfl⟩,?_⟩;rintro ρ H ⟨E,J,F,rfl⟩;simp only[go_sem,E,J,F];refine eN [i] [(0,true),(1,true),(2,true),(3,true),(4,true),(5,true),(6,true),(7,true),(8,true),(9,true),(10,true),(11,true),(12,true),(13,true),(14,true),(15,true),(16,true),(17,true),(18,true),(19,true),(20,true),(21,true),(22,true),(23,true),(24,true),(25,true)] (by simp[R]) (by kernel_rfl) fun Hp Hr hp hr _ aa=>?_
 have u:=(hp i (by simp)).trans R;simp only[go_sem,E,J,F,u];refine⟨by decide,⟨Nat.zero_lt_one,(by show 3<10;decide)⟩,?_⟩;simp only[go_sem,Lh,Lr,List.length_nil,E,J,F,u];refine⟨fun h=>absurd h (by decide),fun h=>absurd h (by decide),boo true,fun h=>absurd h (by decide),?_⟩;simp only[go_sem,Lh,Lr,List.length_nil,E,J,F,u];refine⟨fun h=>absurd h (by decide),fun h=>absurd h (by decide),boo true,fun h=>absurd h (by decide),?_⟩;simp only[go_sem,Lh,Lr,List.length_nil,E,J,F,u];refine nC hr ?_;simp only[go_sem,Lh,Lr,List.length_nil,E,J,F];refine aA (fun h=>absurd h (by decide)) (fun _=>?_);simp only[go_sem,Lh,Lr,List.length_nil,E,J,F];refine⟨by decide,aZ R4 (by decide) ?_⟩;have Rg:∀a,aE H L a L=a:=fun a=>aB _ _ _
 simp only[go_sem,E,J,F,Rg];exact Z _ (O.new M _)
def Qx{i a b m:Nat}(R:H0 i=some (mZ a b m))(E:K (int 0) H0):aI prog 50 [.op i 0 0,.agg stZ] H0 K:=by
 refine aI.body (c:=f50.body.getD .skip) (fun _=>false) mixed func50 rfl (by kernel_rfl) ?_;unfold f50;simp only[Xag];simp only[go_sem];refine eN [i] [(0,true),(1,true),(2,true),(3,true),(4,true),(5,true),(6,true),(7,true),(8,true)] (by simp[R]) (by kernel_rfl) fun Hp M F J _ L=>?_
 have u:=(F i (by simp)).trans R;simp only[go_sem,u];refine⟨by decide,⟨Nat.zero_lt_one,(by show 3<10;decide)⟩,?_⟩;simp only[go_sem,Lh,Lr,List.length_nil];refine nC J ?_;simp only[go_sem];refine aA (fun _=>?_) (fun h=>absurd h (by decide));simp only[go_sem];exact E
def SQ{i a b m:Nat}(R:H0 i=some (mZ a b m))(J:K (.tup [.sl [],.sl []]) H0):aI prog 51 [.op i 0 0,.agg stZ] H0 K:=by
 refine aI.body (c:=f51.body.getD .skip) (fun _=>false) mixed func51 rfl (by kernel_rfl) ?_;unfold f51;simp only[Xag];simp only[go_sem];refine⟨fun ρ H=>ρ 0=.op i 0 0/\ρ 3=.rp stZ 0/\ρ 6=.sl []/\ρ 7=.sl []/\H=H0,fun _ _=>0,⟨by simp only[go_sem],by simp only[go_sem],by simp only[go_sem],by simp only[go_sem],rfl⟩,?_⟩;rintro ρ H ⟨E,F,O,L,rfl⟩;simp only[go_sem,E,F];refine eN [i] [(0,true),(1,true),(2,true),(3,true),(4,true),(5,true),(6,true),(7,true),(8,true)] (by simp[R]) (by kernel_rfl) fun Hp Hr Z hr _ M=>?_
 have u:=(Z i (by simp)).trans R;simp only[go_sem,E,F,u];refine⟨by decide,⟨Nat.zero_lt_one,(by show 3<10;decide)⟩,?_⟩;simp only[go_sem,Lh,Lr,List.length_nil];refine nC hr ?_;simp only[go_sem];refine aA (fun h=>absurd h (by decide)) (fun _=>?_);simp only[go_sem,O,L];exact J
def Oo(hK:∀H',aU H0 H'->K (.tup [.agg [.sl [],.sl []],int 0,int 0]) H'):aI prog 22 [.agg (aH exI),.sl []] H0 K:=by
 refine aI.body (c:=f22.body.getD .skip) (fun _=>false) mixed func22 rfl (by kernel_rfl) ?_;unfold f22;simp only[Xag];simp only[go_sem];refine aL fun O aa=>?_
 have k0:=(aU.refl H0).step aa (some (⟨25,2,[[.sl [],.sl []]]⟩));have R4:aE H0 O (some ⟨25,2,[[.sl [],.sl []]]⟩) O=some ⟨25,2,[[.sl [],.sl []]]⟩:=aB _ _ _;generalize aE H0 O _=HA at *;simp only[go_sem];refine Qw fun i H1 a b m hi Ri k1=>?_
 simp only[go_sem];refine aA (fun h=>absurd h (by decide)) (fun _=>?_);simp only[go_sem];refine M0 Ri fun H2 k2=>?_
 simp only[go_sem];refine aL fun i9 h9=>?_
 try simp only[go_sem]
 refine aZ (aB _ _ _) (by decide) ?_;generalize J:aE (aE H2 i9 _) i9 _=G;have R9:G i9=some ⟨139,8,[stZ]⟩:=by rw[<-J,aB];rfl
 have k3:aU H2 G:=by rw[<-J];exact((aU.refl H2).new h9 _).new h9 _
 clear J;simp only[go_sem,R9];refine Qx (k3 _ _ (k2 _ _ Ri)) ?_;simp only[go_sem];refine aA (fun h=>absurd h (by decide)) (fun _=>?_);simp only[go_sem,R9];refine SQ (k3 _ _ (k2 _ _ Ri)) ?_;simp only[go_sem];refine ME _ fun r=>?_
 simp only[go_sem];refine aL fun u Z=>?_
 try simp only[go_sem]
 refine aZ (aB _ _ _) (by decide) ?_;generalize J:aE (aE G u _) u _=G2;have ac:G2 u=some ⟨25,2,[[.sl [],.sl []]]⟩:=by rw[<-J,aB];rfl
 have k4:aU G G2:=by rw[<-J];exact((aU.refl G).new Z _).new Z _
 clear J;simp only[go_sem];refine⟨fun ρ H=>∃(k:Nat),k<=0/\ρ 4=.op O 0 0/\ρ 10=int 0/\ρ 13=.op u 0 0/\ρ 46=int (0:Nat)/\ρ 47=int k/\H=G2,fun ρ _=>0-aW (ρ 47),⟨0,Xab _,by simp only[go_sem],by simp only[go_sem],by simp only[go_sem],by simp only[go_sem,Xaa],(by simp only[go_sem];rfl),rfl⟩,?_⟩;rintro ρ H ⟨k,hk,e4,F,E,L,M,hH⟩;simp only[go_sem,e4,F,E,L,M];refine aA (fun ae=>?_) (fun af=>?_)
 ·exact absurd ae (by simp)
 subst hH;simp only[go_sem,e4,F,E,L,M,ac];have ab:=k4 _ _ (k3 _ _ (k2 _ _ (k1 _ _ R4)));refine aZ ab (by simp) ?_;have Rg:∀a,aE H O a O=a:=fun a=>aB _ _ _
 simp only[go_sem,e4,F,E,L,M,Rg];exact hK _ ((k0.trans (k1.trans (k2.trans (k3.trans k4)))).new aa _)
end
end Si
namespace Si
open Go.Proofs.Tryz
open Go.Aw Go.Aw.D Go.Proofs Ty Go.Nu
open Go.Proofs.YtmhpdppobocokaaGreatDoor.Nu (ltB geB cB cI PI Dw)
def Tw:PC prog 56 [str z0] (.tup [int 0,.v .nilIface]):=by
 refine PC.lib (a:=[.string z0]) (v:=.tuple #[.int .i64 0,.nilIface]) (fun S w=>?_) fun w _=>?_
 ·simp only[rep,aR];exact⟨[.int .i64 0,.nilIface],rfl,_,_,rfl,rfl,_,_,rfl,rfl,rfl⟩
 ·refine(Tryz.strconv_Atoi z0 0 (by decide) (by decide +kernel) w).mono ?_;rintro e w' ⟨rfl,t,rfl⟩;exact⟨rfl,Go.Joins.below_bytesWorld _ _ _ _ (Xad _)⟩
def QJ(E id:Nat):PC prog 23 [.agg [int 1,.os E,.os id,.sl [],str z0,.sl [],int 1]] (.tup [int 0,boo true]):=by have u:=PI z0 (by decide);rw[show Dw z0=(z0,0)by decide +kernel]at u;refine pcd func23 rfl rfl ?_;simp only[go_sem];refine aA (fun h=>absurd h (by decide)) (fun _=>?_);simp only[go_sem];refine aN u ?_;simp only[go_sem];refine aN Tw ?_;simp only[go_sem];refine⟨by kernel_rfl,?_⟩;refine aA (fun h=>absurd h (by decide)) (fun _=>?_);simp only[go_sem];exact .refl _
def jU(n:Nat)(found:Bool)(a b:AV)(price:Int):Row:=⟨55,11,[aH exI++[.os n,boo found,a,b,int price]]⟩
section
variable{n:Nat}{f:Bool}{a b:AV}{p:Int}
def VN:List.take 6 ((jU n f a b p).es.getD 0 [])=aH exI:=rfl
def UL:((jU n f a b p).es.getD 0 []).getD 7 .any=boo f:=rfl
def Mu:((jU n f a b p).es.getD 0 []).getD 10 .any=int p:=rfl
def HI:((jU n f a b p).es.getD 0 []).getD 6 .any=.os n:=rfl
def uX:0<(jU n f a b p).es.length:=Nat.zero_lt_one
def vV:(jU n f a b p).sz=11:=rfl
end
section
variable{H0:aD}{K:AV->aD->Prop}
def UZ{i n ix id:Nat}{a b:AV}(R:H0 i=some (jU n false a b 0))(hK:∀r H',(∀k row,k≠i->H0 k=some row->H' k=some row)->H' i=some (jU n true (.sl []) (.sl []) 0)->K r H'):aI prog 10 [.op i 0 0,.agg [int 1,.os ix,.os id,.sl [],str z0,.sl [],int 1]] H0 K:=by
 refine aI.body (c:=f10.body.getD .skip) (fun _=>false) mixed func10 rfl (by kernel_rfl) ?_;unfold f10;simp only[Xag];simp only[go_sem];refine⟨fun ρ H=>∃(k:Nat),k<=0/\ρ 0=.op i 0 0/\ρ 4=.sl []/\ρ 12=int (0:Nat)/\ρ 13=int k/\H=H0,fun ρ _=>0-aW (ρ 13),⟨0,Xab _,by simp only[go_sem],by simp only[go_sem],by simp only[go_sem,Xaa],(by simp only[go_sem];rfl),rfl⟩,?_⟩;rintro ρ H ⟨k,hk,F,J,E,u,hH⟩;simp only[go_sem,F,J,E,u];refine aA (fun aa=>?_) (fun ae=>?_)
 ·exact absurd aa (by simp)
 subst hH;simp only[go_sem,F,J,E,u,R];refine⟨⟨uX,by rw[vV];decide⟩,?_⟩;refine Oo fun Z k1=>?_
 simp only[go_sem,F,J,E,u];refine aL fun M h7=>?_
 try simp only[go_sem]
 refine aZ (aB _ _ _) (by decide) ?_;generalize hG:aE (aE Z M _) M _=G;have R7:G M=some ⟨25,2,[[.sl [],.sl []]]⟩:=by rw[<-hG,aB];rfl
 have k2:aU Z G:=by rw[<-hG];exact((aU.refl Z).new h7 _).new h7 _
 have R2:=k2 _ _ (k1 _ _ R);have ab:i≠M:=aO (k1 _ _ R) h7;clear hG;simp only[go_sem,F,J,E,u,R2,VN,UL,Mu,uX,vV];refine aA (fun _=>?_) (fun h=>absurd h (by decide));simp only[go_sem,F,J,E,u];refine eN [M] [(0,true),(1,true),(2,true),(3,true),(4,true),(5,true),(6,true),(7,false),(8,true),(9,true),(10,false),(11,true),(12,true),(13,false)] (by simp[R7]) (by kernel_rfl) fun Hp Hr hp hr _ ac=>?_
 have O:=(hp M (by simp)).trans R7;have L:=(hr i (by simp[ab])).trans R2;simp only[go_sem,F,J,E,u,O,L];refine cC so4 L ⟨uX,rfl,by rw[vV];decide⟩ ?_;have R3:∀q,aE Hr i q i=q:=fun q=>aB _ _ _
 simp only[go_sem,F,J,E,u];refine aZ (R3 _) ⟨uX,rfl,by rw[vV];decide⟩ ?_;simp only[go_sem,F,J,E,u,cK];refine cC so3 (R3 _) ⟨uX,rfl,by rw[vV];decide⟩ ?_;simp only[go_sem,F,J,E,u,cK];refine pJ hr ?_;simp only[go_sem];refine hK _ _ (fun k row hn hk=>?_) ?_
 ·rw[aC _ _ _ _ hn];exact k2 _ _ (k1 _ _ hk)
 ·rw[aB];rfl
def MO{i n u id:Nat}{a b:AV}(R:H0 i=some (jU n true a b 0))(E:K (boo true) H0):aI prog 11 [.op i 0 0,.agg [int 1,.os u,.os id,.sl [],str z0,.sl [],int 1]] H0 K:=by refine aI.body (c:=f11.body.getD .skip) (fun _=>false) mixed func11 rfl (by kernel_rfl) ?_;unfold f11;simp only[Xag];simp only[go_sem];refine aN (QJ u id) ?_;simp only[go_sem,R,UL,Mu,uX,vV];exact E
def zN:List AV:=[boo false,int 0,.sl [],.sl [],int 0,int 0,int 0,int 0,int 0,int 0]
def MQ{i n:Nat}{a b:AV}(R:H0 i=some (jU n false a b 0))(Rn:H0 n=some ⟨52,10,[]⟩)(hK:∀H' (m:Nat) (cs:List AV),(∀k row,k≠i->k≠n->H0 k=some row->H' k=some row)->H' i=some (jU m true (.sl []) (.sl []) 0)->H' m=some ⟨52,10,[cs]⟩->K (.tup [int 0,int 0]) H'):aI prog 8 [.op i 0 0,.sl []] H0 K:=by
 refine aI.body (c:=f8.body.getD .skip) (fun _=>false) mixed func8 rfl (by kernel_rfl) ?_;unfold f8;simp only[Xag];simp only[go_sem];simp only[go_sem,R];refine⟨⟨uX,by rw[vV];decide⟩,?_⟩;simp only[go_sem,R,Rn,HI,List.length_nil];refine aA (fun h=>absurd h (by decide)) (fun _=>?_);simp only[go_sem,R,HI,uX,vV];have af:i≠n:=fun e=>by subst e;rw[R]at Rn;cases congrArg (fun o=>o.map (fun r=>r.es.length)) Rn
 refine cD Rn ⟨rfl,rfl⟩ (by simp only[go_sem]) (by decide) (fun m hm=>?_);have L:i≠m:=aO R hm;generalize u:aE (aE H0 n none) m _=G;have ak:∀k row,k≠n->H0 k=some row->G k=some row:=fun k row hn Z=>by rw[<-u,aC _ _ _ _ (aO Z hm),aC _ _ _ _ hn];exact Z
 have R1:G i=some (jU n false a b 0):=by rw[<-u,aC _ _ _ _ L,aC _ _ _ _ af];exact R
 have Rm:G m=some ⟨52,10,[zN]⟩:=by rw[<-u,aB];rfl
 clear u;simp only[go_sem];refine cC Vx R1 ⟨uX,rfl,Nat.le_of_ble_eq_true rfl⟩ ?_;generalize u:aE G i _=G1;have al:∀k row,k≠i->k≠n->H0 k=some row->G1 k=some row:=fun k row h1 h2 Z=>by rw[<-u,aC _ _ _ _ h1];exact ak k row h2 Z
 have R2:G1 i=some (jU m false a b 0):=by rw[<-u,aB];rfl
 have aj:G1 m=some ⟨52,10,[zN]⟩:=by rw[<-u,aC _ _ _ _ L.symm];exact Rm
 clear u Rm R1;simp only[go_sem,R2];refine⟨⟨uX,by rw[vV];decide⟩,?_⟩;refine UU fun ix id H3 h1 h2 h3 h4 k3=>?_
 simp only[go_sem];refine aL fun i8 h8=>?_
 try simp only[go_sem]
 refine aZ (aB _ _ _) (by simp) ?_;generalize u:aE (aE H3 i8 _) i8 _=G2;have R8:G2 i8=some ⟨64,7,[[int 1,.os ix,.os id,.sl [],str z0,.sl [],int 1]]⟩:=by rw[<-u,aB];rfl
 have k4:aU H3 G2:=by rw[<-u];exact((aU.refl H3).new h8 _).new h8 _
 clear u;simp only[go_sem];refine aA (fun h=>absurd h (by decide)) (fun _=>?_);simp only[go_sem,R8];refine aA (fun h=>absurd h (by decide)) (fun _=>?_);simp only[go_sem,R8];have ag:i≠i8:=aO (k3 _ _ R2) h8;refine UZ (k4 _ _ (k3 _ _ R2)) fun r H4 k5 R4=>?_
 have aa:=k5 _ _ ag.symm R8;have ac:=k5 _ _ L.symm (k4 _ _ (k3 _ _ aj));simp only[go_sem,aa];refine aL fun F O=>?_
 try simp only[go_sem]
 refine aZ (aB _ _ _) (by simp) ?_;generalize u:aE (aE H4 F _) F _=G3;have ae:G3 F=some ⟨52,10,[[boo true,int 1,.sl [],.os id,int 0,int 0,int 0,int 0,int 0,int 0]]⟩:=by rw[<-u,aB];rfl
 have k6:aU H4 G3:=by rw[<-u];exact((aU.refl H4).new O _).new O _
 clear u;have ah:=k6 _ _ aa;simp only[go_sem,ah];refine MO (k6 _ _ R4) ?_;simp only[go_sem];refine aA (fun _=>?_) (fun h=>absurd h (by decide));simp only[go_sem];have R5:=k6 _ _ R4;have ai:=k6 _ _ ac;have ab:m≠F:=aO ac O;refine eN [i,F] [(0,true),(1,true),(2,true),(3,true),(4,true),(5,true),(6,false),(7,false)] (by simp[R5,ae]) (by kernel_rfl) fun Hp Hr hp hr _ am=>?_
 have M:=(hp i (by simp)).trans R5;have J:=(hp F (by simp)).trans ae;have E:=(hr m (by simp[L.symm,ab])).trans ai;simp only[go_sem,M,J,E];refine⟨⟨uX,by rw[vV];decide⟩,?_⟩;simp only[go_sem,M,J,E,HI];refine⟨by decide,?_⟩;refine aZ E (by simp) ?_;simp only[go_sem];refine pJ hr ?_;simp only[go_sem];exact hK _ m _ (fun k row h1 h2 Z=>by rw[aC _ _ _ _ (aO Z hm)];exact k6 _ _ (k5 _ _ h1 (k4 _ _ (k3 _ _ (al k row h1 h2 Z))))) (by rw[aC _ _ _ _ L];exact R5) (by rw[aB])
def On(hK:∀H' (m:Nat) (cs:List AV),H' m=some ⟨52,10,[cs]⟩->K (.tup [.agg [boo false,.sl [],.sl [],.os m],int 0,int 0]) H'):aI prog 7 [.agg (aH exI)] H0 K:=by
 refine aI.body (c:=f7.body.getD .skip) (fun t=>t == 9||t == 10) mixed func7 rfl (by kernel_rfl) ?_;unfold f7;simp only[Xag];simp only[go_sem];refine aL fun F J=>?_
 have R2:aE H0 F (some ⟨28,4,[[boo false,.sl [],.sl [],.sl []]]⟩) F=some ⟨28,4,[[boo false,.sl [],.sl [],.sl []]]⟩:=aB _ _ _;generalize aE H0 F _=HA at *;simp only[go_sem];refine aL fun k1 h1=>?_
 refine aL fun k2 h2=>?_
 refine aL fun k3 h3=>?_
 refine aL fun k4 h4=>?_
 refine aL fun k5 h5=>?_
 refine aL fun k6 h6=>?_
 refine aL fun n hn=>?_
 refine aL fun k8 h8=>?_
 refine aL fun k9 h9=>?_
 refine⟨by simp,?_⟩;refine aL fun i hi=>?_
 generalize L:aE (aE (aE (aE (aE (aE (aE (aE (aE HA k1 _) k2 _) k3 _) k4 _) k5 _) k6 _) n _) k8 _) k9 _=G at hi |-;have Rn:G n=some ⟨52,10,[]⟩:=by rw[<-L];exact eY (eY (aB _ _ _) h8) h9
 have kA:aU HA G:=by rw[<-L];exact(((((((((aU.refl HA).step h1 _).step h2 _).step h3 _).step h4 _).step h5 _).step h6 _).step hn _).step h8 _).step h9 _
 have aa:n≠F:=(aO (eY (eY (eY (eY (eY (eY R2 h1) h2) h3) h4) h5) h6) hn).symm;clear L h1 h2 h3 h4 h5 h6 hn h8 h9;have Z:=aO Rn hi;generalize L:aE G i _=G1;have R:G1 i=some (jU n false (.os k8) (.os k9) 0):=by rw[<-L,aB];rfl
 have ac:G1 n=some ⟨52,10,[]⟩:=by rw[<-L,aC _ _ _ _ Z];exact Rn
 have J:F≠i:=aO (kA _ _ R2) hi;have af:G1 F=some ⟨28,4,[[boo false,.sl [],.sl [],.sl []]]⟩:=by rw[<-L,aC _ _ _ _ J];exact kA _ _ R2
 clear L;simp only[go_sem];refine MQ R ac fun H' m cs ae O Rm=>?_
 have M:=ae _ _ J aa.symm af;simp only[go_sem];refine aA (fun h=>absurd h (by decide)) (fun _=>?_);simp only[go_sem,O];refine⟨⟨uX,by rw[vV];decide⟩,?_⟩;simp only[go_sem,O,UL];refine aA (fun h=>absurd h (by decide)) (fun _=>?_);simp only[go_sem];refine eN [i] [(0,true),(1,true),(2,true),(3,true),(4,true),(5,true),(6,true),(7,true),(8,true),(9,true),(10,true),(11,true),(12,true),(13,false),(14,false),(15,false)] (by simp[O]) (by kernel_rfl) fun Hp Hr hp hr _ ag=>?_
 have E:=(hp i (by simp)).trans O;have u:=(hr F (by simp[J])).trans M;simp only[go_sem,E,u];refine⟨⟨uX,by rw[vV];decide⟩,⟨uX,by rw[vV];decide⟩,?_⟩;simp only[go_sem,E,HI,Mu]
 change bD (some [boo false,.sl [],.sl [],.os m]) _
 simp only[go_sem,E,HI,Mu];refine⟨⟨uX,by rw[vV];decide⟩,?_⟩;refine aZ u (by simp) ?_;simp only[go_sem];refine pJ hr ?_;have Rg:∀q,aE H' F q F=q:=fun q=>aB _ _ _
 simp only[go_sem,Rg];have ab:m≠F:=fun e=>by subst e;rw[M]at Rm;cases congrArg (fun o=>o.map (fun r=>r.sz)) Rm
 exact hK _ m cs (by rw[aC _ _ _ _ ab];exact Rm)
end
end Si
namespace Si
open Go.Proofs.Tryz
open Go.Aw Go.Aw.D Go.Proofs Ty Go.Nu
open Go.Proofs.YtmhpdppobocokaaGreatDoor.Nu (ltB geB cB cI)
def nA(l:List TNode)(k:Nat):Nat:=(l.take k).countP fun n=>n.leaf
def kR(l:List TNode)(k:Nat):Nat:=(l.take k).countP fun n=> !n.leaf
def FX{l:List TNode}{k:Nat}{a:TNode}(h:l[k]?=some a):nA l (k+1)=nA l k+if a.leaf then 1 else 0:=by unfold nA;rw[List.take_add_one,h,Option.toList_some,List.countP_append];cases u:a.leaf <;> simp[u]
def Hk{l:List TNode}{k:Nat}{a:TNode}(h:l[k]?=some a):kR l (k+1)=kR l k+if a.leaf then 0 else 1:=by unfold kR;rw[List.take_add_one,h,Option.toList_some,List.countP_append];cases u:a.leaf <;> simp[u]
def Bw(l:List TNode)(k:Nat):nA l k<=k:=by unfold nA;exact Xan List.countP_le_length (by rw[Xaj];omega)
def Om(l:List TNode)(k:Nat):kR l k<=k:=by unfold kR;exact Xan List.countP_le_length (by rw[Xaj];omega)
def PU(l:List TNode):∀k,k<=l.length->nA l k+kR l k=k
 | 0,_=>by simp[nA,kR]
 | k+1,h=>by have e:l[k]?=some (l[k]'(by omega)):=List.getElem?_eq_getElem _;have:=PU l k (by omega);rw[FX e,Hk e];split <;> omega
def BQ(p:Proof)(hp:p.nodes.length<=1048576):PC prog 5 [.agg (eQ p)] (.tup [int (kR p.nodes p.nodes.length:Nat),int (nA p.nodes p.nodes.length:Nat)]):=by
 refine pcd func5 rfl rfl ?_;simp only[go_sem];refine⟨fun ρ H=>∃(k:Nat),k<=p.nodes.length/\ρ 1=.rp (eQ p) 0/\ρ 8=.sl (p.nodes.map dR)/\ρ 9=int (p.nodes.length:Nat)/\ρ 10=int k/\ρ 4=int (nA p.nodes k:Nat),fun ρ _=>p.nodes.length-aW (ρ 10),⟨0,Xab _,by simp only[go_sem],by simp only[go_sem],by simp only[go_sem,Xaa],(by simp only[go_sem];rfl),by simp only[go_sem];rfl⟩,?_⟩;rintro ρ H ⟨k,hk,L,O,M,u,J⟩;simp only[go_sem,L,O,M,u,J];refine aA (fun E=>?_) (fun Z=>?_)
 ·have E:=ltB E;obtain⟨a,ha⟩:=bG E;have b1:=inB E;have hl:=Bw p.nodes k;have hs:=FX ha;simp only[go_sem,L,O,M,u,J,aJ ha,b1];refine aL fun i6 F=>?_
  simp only[go_sem,L,O,M,u,J,aJ ha,b1];refine iI F (by simp[wO]) fun aa (R6:aa i6=some (⟨52,10,[dR a]⟩)) N=>?_
  clear N F;simp only[go_sem,L,O,M,u,J,aJ ha,b1,R6];refine aA (fun hf=>?_) (fun hf=>?_)
  ·simp only[go_sem,L,O,M,u,J,aY k,nN (show nA p.nodes k<=4611686018427387904 by omega)];exact⟨⟨k+1,E,rfl,by rw[hs,if_pos hf]⟩,by simp only[aF];omega⟩
  ·simp only[go_sem,L,O,M,u,J,aY k];exact⟨⟨k+1,E,rfl,by rw[hs,if_neg (by simpa using hf)];rfl⟩,by simp only[aF];omega⟩
 ·have Z:=geB hk Z;subst Z;have hb:=PU p.nodes p.nodes.length (Xad _);have hl:=Bw p.nodes p.nodes.length;simp only[go_sem,L,O,M,u,J,Xaa];rw[aV (by omega),show((p.nodes.length:Nat):Int)-(nA p.nodes p.nodes.length:Nat)=(kR p.nodes p.nodes.length:Nat)by omega];exact .refl _
def ON(p:Proof)(hp:p.nodes.length<=1048576):PC prog 6 [.agg (eQ p)] (.tup [int (kR p.nodes p.nodes.length:Nat),int (nA p.nodes p.nodes.length:Nat)]):=by
 refine pcd func6 rfl rfl ?_;simp only[go_sem];refine⟨fun ρ H=>∃k:Nat,k<=p.nodes.length/\ρ 1=.rp (eQ p) 0/\ρ 4=int (kR p.nodes k:Nat)/\ρ 5=int (nA p.nodes k:Nat)/\ρ 6=int k,fun ρ _=>p.nodes.length-aW (ρ 6),⟨0,Xab _,by simp only[go_sem],(by simp only[go_sem];rfl),(by simp only[go_sem];rfl),(by simp only[go_sem];rfl)⟩,?_⟩;rintro ρ H ⟨k,hk,L,J,e5,O⟩;simp only[go_sem,L,J,e5,O,Xaa];refine aA (fun u=>?_) (fun F=>?_)
 ·have u:=ltB u;obtain⟨a,Z⟩:=bG u;have b1:=inB u;have hl:=Bw p.nodes k;have hi:=Om p.nodes k;have hs:=FX Z;have M:=Hk Z;simp only[go_sem,L,J,e5,O,aJ Z,b1];refine aA (fun E=>?_) (fun E=>?_)
  ·simp only[go_sem,L,J,e5,O,aY k,nN (show nA p.nodes k<=4611686018427387904 by omega)];exact⟨⟨k+1,u,by rw[M,if_pos E];rfl,by rw[hs,if_pos E],rfl⟩,by simp only[aF];omega⟩
  ·simp only[go_sem,L,J,e5,O,aY k,nN (show kR p.nodes k<=4611686018427387904 by omega)];have E:¬a.leaf=true:=by simpa using E
   exact⟨⟨k+1,u,by rw[M,if_neg E],by rw[hs,if_neg E];rfl,rfl⟩,by simp only[aF];omega⟩
 ·have F:=geB hk F;subst F;simp only[go_sem,L,J,e5,O];exact .refl _
def VG:Proof:=⟨false,⟨[],[]⟩,[⟨true,0,[],[],⟨0,0,0,0⟩,0,0⟩,⟨false,0,[],[],⟨0,0,0,0⟩,0,0⟩,⟨false,0,[],[],⟨0,0,0,0⟩,0,0⟩]⟩
def PW:PC prog 4 [] (boo true):=by
 have M:PC prog 5 [.agg (eQ VG)] (.tup [int 2,int 1]):=BQ VG (by decide);refine pcd func4 rfl rfl ?_;simp only[go_sem];refine aL fun L h1=>?_
 try simp only[go_sem]
 refine aZ (aB _ _ _) (by simp) ?_;generalize u:aE (aE bJ L _) L _=G;have R1:G L=some ⟨43,6,[aH exI]⟩:=by rw[<-u,aB];rfl
 clear u;simp only[go_sem,R1,List.length_nil];refine On fun H' m cs O=>?_
 simp only[go_sem];refine aL fun F h2=>?_
 try simp only[go_sem]
 refine aZ (aB _ _ _) (by simp) ?_;have E:m≠F:=aO O h2;generalize u:aE (aE H' F _) F _=G2;have Z:G2 F=some ⟨28,4,[[boo false,.sl [],.sl [],.os m]]⟩:=by rw[<-u,aB];rfl
 have J:G2 m=some ⟨52,10,[cs]⟩:=by rw[<-u,aC _ _ _ _ E,aC _ _ _ _ E];exact O
 clear u;simp only[go_sem];refine aN M ?_;simp only[go_sem,Z,J];exact cB rfl
def HU(p:Proof)(u:p.nodes.length<=1048576):PC prog 3 [.agg (eQ p)] (boo true):=by
 have h1:=BQ p u;have E:=ON p u;generalize kR p.nodes p.nodes.length=a at *;generalize nA p.nodes p.nodes.length=b at *;refine pcd func3 rfl rfl ?_;simp only[go_sem];refine aA (fun F=>?_) (fun F=>?_)
 ·simp only[go_sem];refine aN PW ?_;simp only[go_sem];exact .refl _
 ·simp only[go_sem];refine aN h1 ?_;simp only[go_sem];refine aN E ?_;simp only[go_sem];refine⟨_,fun _=>PW.q rfl,?_⟩;simp only[go_sem];exact cB (by simp)
end Si
section
open Go.Aw Go.Aw.D
theorem treeSizes_holds:Rows.TreeSizesUptoCardSaid:=treeSizes.card fun p u=>Si.HU p u.2.2.1
#print axioms treeSizes_holds
end
end Go.Proofs.YtmhpdppobocokaaGreatDoor
