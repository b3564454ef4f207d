import Derived.Test.YtohmomanmikphaaGreatDoorPf19
set_option linter.unusedSimpArgs false
set_option linter.unusedVariables false
set_option maxRecDepth 100000
section
namespace Go.Proofs.YtohmomanmikphaaGreatDoor.Nu
open Go.Proofs.Tryz(prog)
open Go.Aw Go.Aw.D Go.Proofs Ty Go.Nu
abbrev Cu(f:Nat->Nat)(i:Nat)(r:PRow):List AV:=[.os (f i),int r.kind,int r.right]
abbrev Wt(f:Nat->Nat)(rows:List PRow):Row:=⟨200,3,rows.mapIdx (Cu f)⟩
def Jw(f:Nat->Nat)(k c:Nat):Nat->Nat:=fun i=>if i=k then c else f i
structure LinH(H:aG)(jr:Nat)(f:Nat->Nat)(rows:List PRow):Prop where
 row:H jr=some (Wt f rows)
 coef:∀(i:Nat) (r:PRow),rows[i]?=some r->H (f i)=some (wA r.coef)
 inj:∀i k,i<rows.length->k<rows.length->f i=f k->i=k
theorem Tr(f:Nat->Nat)(rows:List PRow)(c:Nat)(E u:Int):rows.mapIdx (Cu f)++[[.os c,int E,int u]]=(rows++[(⟨[],E,u⟩:PRow)]).mapIdx (Cu (Jw f rows.length c)):=by
 rw[List.mapIdx_append]
 congr 1
 . refine List.ext_getElem? fun i=>?_
   rw[List.getElem?_mapIdx,List.getElem?_mapIdx];cases h:rows[i]? with
   | none=>rfl
   | some r=>
     have F:=(List.getElem?_eq_some_iff.1 h).1;show some (Cu f i r)=some (Cu (Jw f rows.length c) i r);unfold Cu Jw;rw[if_neg (by omega)]
 . simp[Cu,Jw]
structure RowsS(H0 H:aG)(j:Nat)(f:Nat->Nat)(rows:List PRow):Prop where
 lin:LinH H j f rows
 keep:∀k row,H0 k=some row->H k=some row
 nj:H0 j=none
 nf:∀i,i<rows.length->H0 (f i)=none
theorem GB{H0 H:aG}(h:∀k row,H0 k=some row->H k=some row){c:Nat}(u:H c=none):H0 c=none:=by
 cases e:H0 c with
 | none=>rfl
 | some row=>rw[h c row e]at u;cases u
theorem LinH.ne{H:aG}{j:Nat}{f:Nat->Nat}{rows:List PRow}(h:LinH H j f rows){i:Nat}(E:i<rows.length):f i≠j:=fun e=>by
 obtain⟨r,u⟩:=aN E;have h1:=h.coef i r u;rw[e,h.row]at h1;have F:(Wt f rows).e=(wA r.coef).e:=congrArg Row.e (Option.some.inj h1);exact absurd (show(200:Nat)=3 from F) (by decide)
theorem LinH.new{H:aG}{j:Nat}{f:Nat->Nat}{rows:List PRow}(h:LinH H j f rows){i:Nat}(u:H i=none)(a:Option Row):LinH (aI H i a) j f rows:=by
 refine⟨?_,fun k r E=>?_,h.inj⟩
 . rw[aD _ _ _ _ (fun e=>by subst e;rw[h.row]at u;cases u)];exact h.row
 . have:=h.coef k r E
   rw[aD _ _ _ _ (fun e=>by rw[e,u]at this;cases this)];exact this
theorem RowsS.new{H0 H:aG}{j:Nat}{f:Nat->Nat}{rows:List PRow}(h:RowsS H0 H j f rows){i:Nat}(u:H i=none)(a b:Option Row):RowsS H0 (aI (aI H i a) i b) j f rows:=by
 have e:aI (aI H i a) i b=aI H i b:=by
   funext k;by_cases e:k=i
   . subst e;rw[aA,aA]
   . rw[aD _ _ _ _ e,aD _ _ _ _ e,aD _ _ _ _ e]
 rw[e];refine⟨h.lin.new u b,fun k row E=>?_,h.nj,h.nf⟩;have:=h.keep k row E;rw[aD _ _ _ _ (fun e=>by subst e;rw[u]at this;cases this)];exact this
theorem RowsS.app{H0 H:aG}{j:Nat}{f:Nat->Nat}{rows:List PRow}(h:RowsS H0 H j f rows){c j':Nat}(O:H c=none)(I:aI H c (some (wA [])) j'=none)(kd rt:Int):
   RowsS H0 (aI (aI (aI H c (some (wA []))) j none) j' (some ⟨200,3,rows.mapIdx (Cu f)++[[.os c,int kd,int rt]]⟩)) j' (Jw f rows.length c) (rows++[⟨[],kd,rt⟩]):=by
 have ab:c≠j':=fun e=>by subst e;rw[aA]at I;cases I
 have J:H j'=none:=by rwa [aD _ _ _ _ ab.symm]at I
 have ac:c≠j:=fun e=>by subst e;rw[h.lin.row]at O;cases O
 refine⟨⟨?_,fun i r T=>?_,fun i k M Z u=>?_⟩,fun k row Z=>?_,GB h.keep J,fun i M=>?_⟩
 . rw[aA,Tr]
 . unfold Jw
   by_cases e:i=rows.length
   . subst e
     rw[if_pos rfl,aD _ _ _ _ ab,aD _ _ _ _ ac,aA];have:r=⟨[],kd,rt⟩:=by simpa using T.symm
     rw[this]
   . have aa:i<rows.length:=by have:=(List.getElem?_eq_some_iff.1 T).1;rw[Xab]at this;simp at this;omega
     rw[if_neg e];rw[List.getElem?_append_left aa]at T;have E:=h.lin.coef i r T;rw[aD _ _ _ _ (fun e=>by rw[e,J]at E;cases E),aD _ _ _ _ (h.lin.ne aa),aD _ _ _ _ (fun e=>by rw[e,O]at E;cases E)];exact E
 . have F : ∀ i, i < rows.length -> f i ≠ c := fun i M e => by
     obtain⟨r,T⟩:=aN M;have:=h.lin.coef i r T;rw[e,O]at this;cases this
   rw[Xab]at M Z;simp at M Z;unfold Jw at u;by_cases e1:i=rows.length
   . by_cases e2:k=rows.length
     . omega
     . rw[if_pos e1,if_neg e2]at u
       exact absurd u.symm (F k (by omega))
   . by_cases e2:k=rows.length
     . rw[if_neg e1,if_pos e2]at u
       exact absurd u (F i (by omega))
     . rw[if_neg e1,if_neg e2]at u
       exact h.lin.inj i k (by omega) (by omega) u
 . have E:=h.keep k row Z
   rw[aD _ _ _ _ (fun e=>by rw[e,J]at E;cases E),aD _ _ _ _ (fun e=>by rw[e,h.nj]at Z;cases Z),aD _ _ _ _ (fun e=>by rw[e,O]at E;cases E)];exact E
 . unfold Jw
   by_cases e:i=rows.length
   . rw[if_pos e];exact GB h.keep O
   . rw[if_neg e]
     rw[Xab]at M;simp at M;exact h.nf i (by omega)
def Ml(d:Decision):Option PRow:=if d.kind=3 then some ⟨[],1,d.n⟩else if d.kind=4 then some ⟨[],3,d.n⟩else none
def CL(k:Nat):List PRow:=List.replicate k ⟨[],2,1⟩
def vH(l:List VType):List PRow:=l.map fun t=>⟨[],1,t.count⟩
def vE(l:List Cut):List PRow:=l.map fun q=>⟨[],(IC q).1,(IC q).2⟩
def qJ(l:List Decision):List PRow:=l.filterMap Ml
def yQ(x:Instance)(cuts:List Cut)(ds:List Decision):List PRow:=CL (yU x).length++vH x.types++vE cuts++qJ ds
theorem FU(ds:List Decision):(qJ ds).length=(ds.filter CT).length:=by
 unfold qJ;induction ds with
 | nil=>rfl
 | cons d l ih=>
   rw[List.filterMap_cons,List.filter_cons];by_cases u:d.kind=3
   . rw[show Ml d=some ⟨[],1,d.n⟩from if_pos u,if_pos (show CT d=true by simp[CT,u])]
     try simp only[Xad,ih]
   . by_cases E:d.kind=4
     . rw[show Ml d=some ⟨[],3,d.n⟩from(if_neg u).trans (if_pos E),if_pos (show CT d=true by simp[CT,E])]
       try simp only[Xad,ih]
     . rw[show Ml d=none from(if_neg u).trans (if_neg E),if_neg (show ¬CT d=true by simp[CT,u,E])]
       try exact ih
theorem S4(x:Instance)(cuts:List Cut)(ds:List Decision):(yQ x cuts ds).length=QE x cuts ds:=by
 unfold yQ CL vH vE QE;simp only[Xab,Xaa,List.length_replicate,FU]
theorem Dv{ds:List Decision}{k:Nat}{d:Decision}(h:ds[k]?=some d):qJ (ds.take (k+1))=qJ (ds.take k)++(Ml d).toList:=by
 unfold qJ;rw[bQ h,List.filterMap_append]
 congr 1
theorem Ze(x:Instance)(cuts:List Cut)(ds:List Decision)(h:MIn x cuts ds)(H0:aG)(K:AV->aG->Prop)(hK:∀j f Hn,RowsS H0 Hn j f (yQ x cuts ds)->K (.os j) Hn):
   aX prog 95 [.agg (aH x),.sl (cuts.map dX),.sl (ds.map aW)] H0 K:=by
 have h1:=h.orders;have h2:=h.types;have h3:=h.cl;have h4:=h.dl;have ao:=JK x;refine aX.body (c:=Tryz.f95.body.getD .skip) (fun t=>t == 7||t == 23||t == 37||t == 55||t == 72||t == 80) mixed Tryz.func95 rfl (by kernel_rfl) ?_;unfold Tryz.f95;simp only[gdS];simp only[go_sem];refine aM fun j hj=>?_
 have S:RowsS H0 (aI H0 j (some ⟨200,3,[]⟩)) j id []:=by
   refine⟨⟨aA _ _ _,fun i r hr=>(by simp at hr),fun i k hi=>absurd hi (by simp)⟩,fun k row hk=>?_,hj,fun i hi=>absurd hi (by simp)⟩;rw[aD _ _ _ _ (fun e=>by subst e;rw[hj]at hk;cases hk)];exact hk
 generalize aI H0 j _=H1 at S |-;simp only[go_sem];refine PC.use (abP x h1) ?_;simp only[go_sem];refine PC.use (lR _) ?_;rw[Pp x h1];simp only[go_sem,Xaa];refine⟨fun ρ H=>∃(k:Nat) (j:Nat) (f:Nat->Nat),k<=(yU x).length/\ρ 1=.sl (cuts.map dX)/\ρ 2=.sl (ds.map aW)/\ρ 3=.rp (aH x) 0/\ρ 19=int ((yU x).length:Nat)/\ρ 20=int k/\ρ 7=.os j/\RowsS H0 H j f (CL k),fun ρ _=>(yU x).length-aV (ρ 20),⟨0,j,id,Xac _,by simp only[go_sem],by simp only[go_sem],by simp only[go_sem],by simp only[go_sem,Xaa],(by simp only[go_sem];rfl),by simp only[go_sem],S⟩,?_⟩;rintro ρ H ⟨k,j,f,hk,e1,I,e3,ah,ag,E,S⟩;simp only[go_sem,e1,I,e3,ah,ag,E];refine aB (fun u=>?_) (fun F=>?_)
 . have u:=ltB (by simpa using u)
   simp only[go_sem,e1,I,e3,ah,ag,E];refine aM fun c hc=>?_
   have R:=(S.lin.new hc (some (wA []))).row;refine bE R ⟨rfl,rfl⟩ ⟨rfl,trivial⟩ (by simp only[List.length_mapIdx,CL,List.length_replicate,Xad,List.length_nil];omega) (fun j' T=>?_);have S2:=S.app hc T 2 1;have e:CL (k+1)=CL k++[⟨[],2,1⟩]:=List.replicate_succ';rw[<-e]at S2;simp only[go_sem,e1,I,e3,ah,ag,E,aP (show k<=4611686018427387904 by omega)];exact⟨⟨k+1,j',_,u,rfl,rfl,S2⟩,by simp only[aF];omega⟩
 have F:=geB hk (by simpa using F);subst F;simp only[go_sem,e1,I,e3,ah,ag,E,Xaa];generalize hB:CL (yU x).length=B at S;have an:B.length<=62:=by rw[<-hB];unfold CL;rw[List.length_replicate];omega
 refine⟨fun ρ H=>∃(k:Nat) (j:Nat) (f:Nat->Nat),k<=x.types.length/\ρ 1=.sl (cuts.map dX)/\ρ 2=.sl (ds.map aW)/\ρ 28=.sl (x.types.map bB)/\ρ 29=int (x.types.length:Nat)/\ρ 30=int k/\ρ 7=.os j/\RowsS H0 H j f (B++vH (x.types.take k)),fun ρ _=>x.types.length-aV (ρ 30),⟨0,j,f,Xac _,by simp only[go_sem,e1,I],by simp only[go_sem,e1,I],by simp only[go_sem,e1,I],by simp only[go_sem,Xaa,e1,I],(by simp only[go_sem,e1,I];rfl),by simp only[go_sem,E],by simpa[vH]using S⟩,?_⟩;rintro ρ H ⟨k,j,f,hk,e1,I,af,ae,ad,E,S⟩;simp only[go_sem,e1,I,af,ae,ad,E];refine aB (fun u=>?_) (fun F=>?_)
 . have u:=ltB (by simpa using u)
   obtain⟨t,ht⟩:=aN u;have b1:=inB u;have ai:(B++vH (x.types.take k)).length<=62+k:=by unfold vH;simp only[Xab,Xaa,Xal];omega
   simp only[go_sem,e1,I,af,ae,ad,E,aE ht,b1];refine aM fun i9 h9=>?_
   simp only[go_sem,e1,I,af,ae,ad,E];refine aJ (aA _ _ _) (by simp[jB]) ?_;have Z:=S.new h9;generalize hG:aI (aI H i9 _) i9 _=HG;replace Z:RowsS H0 HG j f (B++vH (x.types.take k)):=by rw[<-hG];exact Z _ _
   have R9:HG i9=some (⟨113,14,[bB t]⟩:Row):=by rw[<-hG,aA];rfl
   clear hG h9;simp only[go_sem,e1,I,af,ae,ad,E,R9];refine aM fun c hc=>?_
   have R:=(Z.lin.new hc (some (wA []))).row;refine bE R ⟨rfl,rfl⟩ ⟨rfl,trivial⟩ (by simp only[List.length_mapIdx,Xad,List.length_nil];omega) (fun j' T=>?_);have S2:=Z.app hc T 1 t.count;have e:B++vH (x.types.take (k+1))=B++vH (x.types.take k)++[⟨[],1,t.count⟩]:=by unfold vH;rw[bQ ht,Xam,Xai];rfl
   rw[<-e]at S2;simp only[go_sem,e1,I,af,ae,ad,E,aP (show k<=4611686018427387904 by omega)];exact⟨⟨k+1,j',_,u,rfl,rfl,S2⟩,by simp only[aF];omega⟩
 have F:=geB hk (by simpa using F);subst F;rw[Xag]at S;simp only[go_sem,e1,I,af,ae,ad,E,Xaa];generalize ak:B++vH x.types=B2 at S;have al:B2.length<=62+1048576:=by rw[<-ak];unfold vH;rw[Xab,Xaa];omega
 refine⟨fun ρ H=>∃(k:Nat) (j:Nat) (f:Nat->Nat),k<=cuts.length/\ρ 2=.sl (ds.map aW)/\ρ 41=.sl (cuts.map dX)/\ρ 42=int (cuts.length:Nat)/\ρ 43=int k/\ρ 7=.os j/\RowsS H0 H j f (B2++vE (cuts.take k)),fun ρ _=>cuts.length-aV (ρ 43),⟨0,j,f,Xac _,by simp only[go_sem,I],by simp only[go_sem,I],by simp only[go_sem,Xaa,I],(by simp only[go_sem,I];rfl),by simp only[go_sem,E],by simpa[vE]using S⟩,?_⟩;rintro ρ H ⟨k,j,f,hk,I,ac,aa,ab,E,S⟩;simp only[go_sem,I,ac,aa,ab,E];refine aB (fun u=>?_) (fun F=>?_)
 . have u:=ltB (by simpa using u)
   obtain⟨q,hq⟩:=aN u;have b1:=inB u;have ai:(B2++vE (cuts.take k)).length<=62+1048576+k:=by unfold vE;simp only[Xab,Xaa,Xal];omega
   simp only[go_sem,I,ac,aa,ab,E,aE hq,b1];refine aM fun i9 h9=>?_
   simp only[go_sem,I,ac,aa,ab,E];refine aJ (aA _ _ _) (by simp[uR]) ?_;have Z:=S.new h9;generalize hG:aI (aI H i9 _) i9 _=HG;replace Z:RowsS H0 HG j f (B2++vE (cuts.take k)):=by rw[<-hG];exact Z _ _
   have R9:HG i9=some (⟨115,3,[dX q]⟩:Row):=by rw[<-hG,aA];rfl
   clear hG h9;simp only[go_sem,I,ac,aa,ab,E,R9];refine PC.use (afU q) ?_;simp only[go_sem,I,ac,aa,ab,E];refine aM fun c hc=>?_
   have R:=(Z.lin.new hc (some (wA []))).row;refine bE R ⟨rfl,rfl⟩ ⟨rfl,trivial⟩ (by simp only[List.length_mapIdx,Xad,List.length_nil];omega) (fun j' T=>?_);have S2:=Z.app hc T (IC q).1 (IC q).2;have e:B2++vE (cuts.take (k+1))=B2++vE (cuts.take k)++[⟨[],(IC q).1,(IC q).2⟩]:=by unfold vE;rw[bQ hq,Xam,Xai];rfl
   rw[<-e]at S2;simp only[go_sem,I,ac,aa,ab,E,aP (show k<=4611686018427387904 by omega)];exact⟨⟨k+1,j',_,u,rfl,rfl,S2⟩,by simp only[aF];omega⟩
 have F:=geB hk (by simpa using F);subst F;rw[Xag]at S;simp only[go_sem,I,ac,aa,ab,E,Xaa];generalize aj:B2++vE cuts=B3 at S;have am:B3.length<=62+1048576+1048576:=by rw[<-aj];unfold vE;rw[Xab,Xaa];omega
 refine⟨fun ρ H=>∃(k:Nat) (j:Nat) (f:Nat->Nat),k<=ds.length/\ρ 59=.sl (ds.map aW)/\ρ 60=int (ds.length:Nat)/\ρ 61=int k/\ρ 7=.os j/\RowsS H0 H j f (B3++qJ (ds.take k)),fun ρ _=>ds.length-aV (ρ 61),⟨0,j,f,Xac _,by simp only[go_sem],by simp only[go_sem,Xaa],(by simp only[go_sem];rfl),by simp only[go_sem,E],by simpa[qJ]using S⟩,?_⟩;rintro ρ H ⟨k,j,f,hk,O,J,M,E,S⟩;simp only[go_sem,O,J,M,E];refine aB (fun u=>?_) (fun F=>?_)
 . have u:=ltB (by simpa using u)
   obtain⟨d,hd⟩:=aN u;have b1:=inB u;have hs:=Dv hd;have ai:(B3++qJ (ds.take k)).length<=62+1048576+1048576+k:=by
     have:=My ds k;rw[Xab,FU];omega
   simp only[go_sem,O,J,M,E,aE hd,b1];refine aM fun i9 h9=>?_
   simp only[go_sem,O,J,M,E];refine aJ (aA _ _ _) (by simp[jK]) ?_;have Z:=S.new h9;generalize hG:aI (aI H i9 _) i9 _=HG;replace Z:RowsS H0 HG j f (B3++qJ (ds.take k)):=by rw[<-hG];exact Z _ _
   have R9:HG i9=some (⟨95,4,[aW d]⟩:Row):=by rw[<-hG,aA];rfl
   clear hG h9;simp only[go_sem,O,J,M,E,R9];refine aB (fun hb=>?_) (fun hb=>?_)
   . have h3:d.kind=3:=by simpa using hb
     rw[show Ml d=some ⟨[],1,d.n⟩from if_pos h3]at hs;simp only[go_sem,O,J,M,E,R9];refine aM fun c hc=>?_
     have R:=(Z.lin.new hc (some (wA []))).row;refine bE R ⟨rfl,rfl⟩ ⟨rfl,trivial⟩ (by simp only[List.length_mapIdx,Xad,List.length_nil];omega) (fun j' T=>?_);have S2:=Z.app hc T 1 d.n;have e:B3++qJ (ds.take (k+1))=B3++qJ (ds.take k)++[⟨[],1,d.n⟩]:=by rw[hs,Xai];rfl
     rw[<-e]at S2;simp only[go_sem,O,J,M,E,aP (show k<=4611686018427387904 by omega)];exact⟨⟨k+1,j',_,u,rfl,rfl,S2⟩,by simp only[aF];omega⟩
   have h3:d.kind≠3:=by simpa using hb
   simp only[go_sem,O,J,M,E,R9];refine aB (fun hb=>?_) (fun hb=>?_)
   . have h4:d.kind=4:=by simpa using hb
     rw[show Ml d=some ⟨[],3,d.n⟩from(if_neg h3).trans (if_pos h4)]at hs;simp only[go_sem,O,J,M,E,R9];refine aM fun c hc=>?_
     have R:=(Z.lin.new hc (some (wA []))).row;refine bE R ⟨rfl,rfl⟩ ⟨rfl,trivial⟩ (by simp only[List.length_mapIdx,Xad,List.length_nil];omega) (fun j' T=>?_);have S2:=Z.app hc T 3 d.n;have e:B3++qJ (ds.take (k+1))=B3++qJ (ds.take k)++[⟨[],3,d.n⟩]:=by rw[hs,Xai];rfl
     rw[<-e]at S2;simp only[go_sem,O,J,M,E,aP (show k<=4611686018427387904 by omega)];exact⟨⟨k+1,j',_,u,rfl,rfl,S2⟩,by simp only[aF];omega⟩
   have h4:d.kind≠4:=by simpa using hb
   rw[show Ml d=none from(if_neg h3).trans (if_neg h4)]at hs;simp only[go_sem,O,J,M,E,aP (show k<=4611686018427387904 by omega)];refine⟨⟨k+1,j,f,u,rfl,rfl,?_⟩,by simp only[aF];omega⟩;rw[hs];simpa using Z
 have F:=geB hk (by simpa using F);subst F;rw[Xag]at S;simp only[go_sem,O,J,M,E];refine hK j f _ ?_;unfold yQ;rw[hB,ak,aj];exact S
theorem ZB(x:Instance)(cuts:List Cut)(ds:List Decision)(h:MIn x cuts ds):PC prog 57 [.agg (aH x),.sl (cuts.map dX),.sl (ds.map aW)] (int (QE x cuts ds:Nat)):=by
 refine pcd Tryz.func57 ?_;unfold Tryz.f57;simp only[gdS];simp only[go_sem];refine Ze x cuts ds h _ _ fun j f u S=>?_
 simp only[go_sem,S.lin.row,List.length_mapIdx,S4];exact .refl _
def QD(r:PRow)(n:Int):PRow:=⟨r.coef++[n],r.kind,r.right⟩
def F1(rows:List PRow)(col:List Int):Nat->List PRow
 | 0=>rows
 | k+1=>(F1 rows col k).set k (QD (rows.getD k ⟨[],0,0⟩) (col.getD k 0))
theorem xP(rows:List PRow)(u:List Int):∀k,(F1 rows u k).length=rows.length
 | 0=>rfl
 | k+1=>by rw[F1,Xbd,xP rows u k]
theorem Gp(rows:List PRow)(u:List Int):∀k i,(F1 rows u k)[i]?=if i<k then(rows[i]?).map (fun r=>QD r (u.getD i 0))else rows[i]?
 | 0,i=>by rw[if_neg (by omega)];rfl
 | k+1,i=>by
   rw[F1,List.getElem?_set,xP];by_cases e:k=i
   . subst e
     rw[if_pos rfl,if_pos (show k<k+1 by omega)];by_cases E:k<rows.length
     . rw[if_pos E,List.getD,List.getElem?_eq_getElem E];rfl
     . rw[if_neg E,List.getElem?_eq_none (show rows.length<=k by omega)];rfl
   . rw[if_neg e,Gp rows u k i]
     by_cases F:i<k
     . rw[if_pos F,if_pos (by omega)]
     . rw[if_neg F,if_neg (by omega)]
end Go.Proofs.YtohmomanmikphaaGreatDoor.Nu
end
section
namespace Go.Proofs.YtohmomanmikphaaGreatDoor.Nu
open Go.Aw Go.Aw.D Go.Proofs Ty Go.Nu
def dG(n N:Int):Bool:=decide (n<0)||decide (n>=N)
def cR:Score:=⟨0,0,0,0⟩
def afM(s:Score):Int:=IntKind.i64.wrap (IntKind.i64.wrap (IntKind.i64.wrap (IntKind.i64.wrap (IntKind.i64.wrap (IntKind.i64.wrap (s.cost*16)+s.moved)*16)+s.other)*65536)+s.work)
def uP(s:Score):Int×Int:=if(decide (s.cost<0)||decide (s.moved<0)||decide (s.other<0)||decide (s.work<0))=true then(0,2)
 else if(decide (s.cost>1073741824)||decide (s.moved>=16)||decide (s.other>=16)||decide (s.work>=65536))=true then(0,4)else(afM s,0)
end Go.Proofs.YtohmomanmikphaaGreatDoor.Nu
end
section
namespace Go.Proofs.YtohmomanmikphaaGreatDoor.Nu
open Go.Aw Go.Aw.D Go.Proofs Ty Go.Nu
open Dec (mW dO eQ dE tU jV)
def xX(p:List Int×List PRow)(cost:Int)(col:List Int):List Int×List PRow:=(p.1++[cost],F1 p.2 col col.length)
theorem B8(p:List Int×List PRow)(cost:Int)(u:List Int):(xX p cost u).2.length=p.2.length/\(xX p cost u).1.length=p.1.length+1:=by
 unfold xX;exact⟨xP _ _ _,by simp⟩
def Sz(p:List Int×List PRow)(n k:Nat):Prop:=p.1.length=k/\p.2.length=n/\∀r∈p.2,r.coef.length=k
theorem Sz.add{p:List Int×List PRow}{n k:Nat}(h:Sz p n k)(cost:Int){u:List Int}(O:u.length=n):Sz (xX p cost u) n (k+1):=by
 obtain⟨h1,J,M⟩:=h;refine⟨by rw[(B8 p cost u).2,h1],by rw[(B8 p cost u).1,J],fun r I=>?_⟩;obtain⟨i,F,rfl⟩:=List.getElem_of_mem I;have E:=List.getElem?_eq_getElem F;unfold xX at E F;rw[Gp]at E;rw[xP]at F;rw[if_pos (by omega),List.getElem?_eq_getElem (by omega)]at E;have:(xX p cost u).2[i]=QD (p.2[i]'(by omega)) (u.getD i 0):=(Option.some.inj E).symm;rw[this];unfold QD;rw[Xab,M _ (List.getElem_mem _)];rfl
theorem DG{x:Instance}{d:Nat}{q:Cut}(h:rN x d q=0):0<=q.set:=by
 unfold rN uY at h;refine Decidable.byContradiction fun u=>?_
 rw[decide_eq_false (show ¬q.set>=0 by omega)]at h;simp at h;split at h
 . cases h
 . split at h
   . cases h
   . cases h
end Go.Proofs.YtohmomanmikphaaGreatDoor.Nu
end
section
namespace Go.Proofs.YtohmomanmikphaaGreatDoor.Nu
open Go.Aw Go.Aw.D Go.Proofs Ty Go.Nu
def Uq(n:Int):Prop:= -9223372036854775808<=n/\n<=9223372036854775807
structure LinB(p:PLin):Prop where
 rows:p.rows.length<=1048576
 cost:p.cost.length<=1048576
 coef:∀r∈p.rows,∀n∈r.coef,Uq n
 right:∀r∈p.rows,Uq r.right
structure VarB(v:List ByteArray):Prop where
 len:v.length<=1048576
 size:∀s∈v,s.size<=1048576
end Go.Proofs.YtohmomanmikphaaGreatDoor.Nu
end
section
namespace Go.Proofs.YtohmomanmikphaaGreatDoor.Nu
open Go.Aw Go.Aw.D Go.Proofs Ty Go.Nu
open Dec (mW dO eQ dE tU jV)
def is0(s:ByteArray):Bool:=bl s == [48]
def is1(s:ByteArray):Bool:=bl s == [49]
def O4(s:ByteArray):Bool:= !is0 s&& !is1 s
structure RightB(x:Instance)(cuts:List Cut)(ds:List Decision):Prop where
 types:∀t∈x.types,Uq t.count
 cuts:∀q∈cuts,Uq q.n
 ds:∀d∈ds,Uq d.n
abbrev ordR(o:Order):Row:=⟨111,16,[bD o]⟩
abbrev typR(t:VType):Row:=⟨113,14,[bB t]⟩
abbrev insR(x:Instance):Row:=⟨30,6,[aH x]⟩
end Go.Proofs.YtohmomanmikphaaGreatDoor.Nu
end
section
namespace Go.Proofs.YtohmomanmikphaaGreatDoor.Nu.Ps
open Go.Proofs.Tryz(prog)
open Go.Aw Go.Aw.D Go.Proofs Ty Go.Nu Go.So
open Dec (mW dO eQ dE tU jV)
open Sq (EvalB BestQ sF mI dQ abW Lr)
structure PrOk(x:Instance)(d:Nat):Prop where
 ev:EvalB x
 n8:x.orders.length<=8
 ty:x.types.length<=1000
 lo:LoadsOk x d
 ne:x.types≠[]
def inD(ds:List Decision)(c:Column):Bool:=ds.all fun d=>eQ d c.set
theorem Na(ds:List Decision)(c:Column)(u:ds.length<=1048576):PC prog 38 [.agg (aS c),.rp [.sl (ds.map aW)] 0] (boo (!inD ds c)):=by
 refine pcd Tryz.func38 ?_;unfold Tryz.f38;simp only[gdS];simp only[go_sem];refine PC.use (Dec.Ve ds c u) ?_;simp only[go_sem];exact .refl _
def cL(x:Instance)(ds:List Decision):List Column×Int:=if(mW x ds != 0)=true then([],mW x ds)else((sF x).filter (inD ds),0)
theorem xS(x:Instance)(d:Nat)(ds:List Decision)(h:PrOk x d)(T:ds.length<=1048576):
   NC prog 16 [.agg (aH x),.sl (ds.map aW)] (dQ (cL x ds).1) (fun j=>.tup [.os j,int (cL x ds).2]):=by
 refine ncb (fun t=>t == 4) Tryz.func16 ?_;unfold Tryz.f16;simp only[gdS];simp only[go_sem];unfold cL;refine aM fun j F=>?_
 generalize u:aI _ j _=HGj;have R:HGj j=some (dQ []):=by rw[<-u,aA];try rfl
 clear u F;simp only[go_sem,R];refine PC.use (Dec.abC x ds T) ?_;simp only[go_sem];refine aB (fun J=>?_) (fun J=>?_)
 . rw[if_pos J]
   simp only[go_sem];refine aM fun j F=>?_
   generalize u:aI _ j _=HGj;have R:HGj j=some (dQ []):=by rw[<-u,aA];try rfl
   clear u F;simp only[go_sem,R];exact⟨j,rfl,R⟩
 rw[if_neg (by rw[J];simp)];simp only[go_sem];refine NC.use (abW x h.ev h.n8 h.ty) fun M ab=>?_
 have R1:aI HGj M (some (dQ (sF x))) M=some (dQ (sF x)):=aA _ _ _;generalize aI HGj M (some (dQ (sF x)))=H1 at *;have E:=Sq.xR x x.types.length;have Z:2^x.orders.length<=256:=Xaj (Xav (by decide) h.n8) (by decide);have O:x.types.length*2^x.orders.length<=256000:=Xaj (Nat.mul_le_mul h.ty Z) (by decide);have E:(sF x).length<=256000:=Xaj E O;have I:aC prog 38=true:=by kernel_rfl
 simp only[go_sem];refine aB (fun J=>(by cases J)) (fun _=>?_);simp only[go_sem,I];refine Lr (p:=fun c=> !inD ds c) (cap':=[.rp [.sl (ds.map aW)] 0]) (sF x) _ M R1 (by omega) I (fun v _=>Na ds v T) (fun H' h'=>ConvL.refl _) fun j2 H2 aa ac R2=>?_
 simp only[go_sem];refine⟨j2,rfl,?_⟩;rw[R2];simp only[Bool.not_not]
def oE(x:Instance)(d:Nat)(cuts:List Cut)(ds:List Decision)(dual:List ByteArray):Int:=
 if(mW x ds != 0)=true then mW x ds
 else if Dec.gG (cuts.map (rN x d))≠0 then Dec.gG (cuts.map (rN x d))
 else if((dual.length:Int) != (QE x cuts ds:Nat))=true then 2 else 0
theorem Cf{x:Instance}{d:Nat}{cuts:List Cut}{ds:List Decision}{dual:List ByteArray}(h:oE x d cuts ds dual=0):∀q∈cuts,rN x d q=0:=by
 unfold oE at h;split at h
 next u=>rw[h]at u;cases u
 split at h
 next u=>exact absurd h u
 next u=>exact fun q E=>Dec.rS (Decidable.not_not.1 u) _ (List.mem_map.2 ⟨q,E,rfl⟩)
theorem L2(x:Instance)(d:Nat)(cuts:List Cut)(ds:List Decision)(dual:List ByteArray)(h:PrOk x d)(hm:MIn x cuts ds):
   PC prog 25 [.agg (aH x),.sl (cuts.map dX),.sl (ds.map aW),.sl (dual.map Go.Aw.D.fJ)] (int (oE x d cuts ds dual)):=by
 have h3:=hm.cl;have h4:=hm.dl;unfold oE;refine pcd Tryz.func25 ?_;unfold Tryz.f25;simp only[gdS];simp only[go_sem];refine PC.use (Dec.abC x ds h4) ?_;simp only[go_sem];refine aB (fun I=>?_) (fun I=>?_)
 . rw[if_pos I]
   simp only[go_sem];exact .refl _
 rw[if_neg (by rw[I];simp)];simp only[go_sem,Xaa];refine⟨fun ρ H=>∃(k:Nat),k<=cuts.length/\ρ 1=.sl (cuts.map dX)/\ρ 2=.sl (ds.map aW)/\ρ 3=.sl (dual.map Go.Aw.D.fJ)/\ρ 4=.rp (aH x) 0/\ρ 19=.sl (cuts.map dX)/\ρ 20=int (cuts.length:Nat)/\ρ 21=int k/\(∀e∈(cuts.map (rN x d)).take k,e=0),fun ρ _=>cuts.length-aV (ρ 21),⟨0,Xac _,by simp only[go_sem],by simp only[go_sem],by simp only[go_sem],by simp only[go_sem],by simp only[go_sem],by simp only[go_sem,Xaa],(by simp only[go_sem];rfl),by simp⟩,?_⟩;rintro ρ H ⟨k,hk,O,Z,e3,T,F,E,u,hz⟩;simp only[go_sem,O,Z,e3,T,F,E,u];refine aB (fun J=>?_) (fun ac=>?_)
 . have J:=ltB (by simpa using J)
   obtain⟨q,hq⟩:=aN J;have b1:=inB J;have ad:(cuts.map (rN x d))[k]?=some (rN x d q):=by rw[List.getElem?_map,hq];rfl
   simp only[go_sem,O,Z,e3,T,F,E,u,aE hq,b1];refine aM fun ab aa=>?_
   simp only[go_sem,O,Z,e3,T,F,E,u];refine aJ (aA _ _ _) (by simp[uR]) ?_;generalize M:aI (aI _ ab _) ab _=HGi11;have ae:HGi11 ab=some (⟨115,3,[dX q]⟩):=by rw[<-M,aA];try rfl
   clear M aa;simp only[go_sem,O,Z,e3,T,F,E,u,ae];refine PC.use (Wf x d q h.lo h.ne) ?_;simp only[go_sem,O,Z,e3,T,F,E,u];refine aB (fun I=>?_) (fun I=>?_)
   . have he:=Dec.uB hz ad I
     rw[if_pos (by rw[he];simpa using I),he];simp only[go_sem];exact .refl _
   . simp only[go_sem,O,Z,e3,T,F,E,u,aP (show k<=4611686018427387904 by omega)]
     exact⟨⟨k+1,J,rfl,kK (p:=fun e:Int=>e=0) ad (by simpa using I) hz⟩,by simp only[aF];omega⟩
 have ac:=geB hk (by simpa using ac);subst ac;rw[Xan (by rw[Xaa];exact Xaf _)]at hz;rw[if_neg (by rw[Dec.rR hz];simp)];simp only[go_sem,O,Z,e3,T,F,E,u,Xaa];refine PC.use (ZB x cuts ds hm) ?_;simp only[go_sem,O,Z,e3,T,F,E,u,Xaa];refine aB (fun I=>?_) (fun I=>?_)
 . rw[if_pos I]
   simp only[go_sem];exact .refl _
 . rw[if_neg (by rw[I];simp)]
   simp only[go_sem];exact .refl _
end Go.Proofs.YtohmomanmikphaaGreatDoor.Nu.Ps
end
section
namespace Go.Proofs.YtohmomanmikphaaGreatDoor.Nu.Ps
open Go.Proofs.Tryz(prog)
open Go.Aw Go.Aw.D Go.Proofs Ty Go.Nu Go.So
open Dec (mW dO eQ dE tU jV)
open Sq (EvalB BestQ sF mI dQ gE)
theorem Vh(x:Instance)(r:Route): -9223372036854775808<=(gE x r).1/\(gE x r).1<=9223372036854775807:=by
 unfold gE;split
 . show -9223372036854775808<=(0:Int)/\(0:Int)<=9223372036854775807
   omega
 . unfold Sq.uP
   split
   . exact⟨by decide,by decide⟩
   . split
     . exact⟨by decide,by decide⟩
     . exact Rx.Wc _
structure ColQ(x:Instance)(c:Column):Prop where
 b:ColB c
 price: -9223372036854775808<=c.price/\c.price<=9223372036854775807
theorem Pw{x:Instance}{c:Column}(u:x.orders.length<=8)(h:c∈sF x):ColQ x c:=by
 obtain⟨k,s,h⟩:=mI u h;obtain⟨l,E,_,_,_⟩:=h.is;have h1:=h.pos;have F:=h.top;have I:(2:Int)^x.orders.length<=256:=by
   have:2^x.orders.length<=256:=Xaj (Xav (by decide) u) (by decide)
   exact_mod_cast this
 rw[E];exact⟨⟨by show 0<=(s:Int)/\(s:Int)<=9223372036854775807;omega⟩,Vh _ _⟩
theorem Ba{x:Instance}{ds:List Decision}{c:Column}(h:c∈(cL x ds).1):c∈sF x/\inD ds c=true:=by
 unfold cL at h;split at h
 . cases h
 . exact⟨(List.mem_filter.1 h).1,(List.mem_filter.1 h).2⟩
theorem oN(x:Instance)(ds:List Decision)(I:x.orders.length<=8)(F:x.types.length<=1000):(cL x ds).1.length<=256000:=by
 have u:=Sq.xR x x.types.length;have J:2^x.orders.length<=256:=Xaj (Xav (by decide) I) (by decide);have E:x.types.length*2^x.orders.length<=256000:=Xaj (Nat.mul_le_mul F J) (by decide);have u:(sF x).length<=256000:=Xaj u E;unfold cL;split
 . exact Xac _
 . exact Xaj (Xbt _ _) u
theorem PP(a b:Priced)(u:a.reduced.size<=1048576)(E:b.reduced.size<=1048576):PC prog 28 [.agg (bG a),.agg (bG b)] (int (Fj a.reduced b.reduced)):=by
 refine pcd Tryz.func28 ?_;unfold Tryz.f28;simp only[gdS];simp only[go_sem];refine PC.use (tV a.reduced b.reduced u E) ?_;simp only[go_sem];exact .refl _
def oC(x:Instance)(cuts:List Cut)(ds:List Decision)(dual:List ByteArray):List Priced×Int:=
 if((cL x ds).2 != 0)=true then([],(cL x ds).2)
 else if Dec.gG ((cL x ds).1.map fun c=>(dL x c cuts ds dual).2)≠0 then([],Dec.gG ((cL x ds).1.map fun c=>(dL x c cuts ds dual).2))
 else((cL x ds).1.map fun c=>⟨c,(dL x c cuts ds dual).1⟩,0)
theorem aeE(l:List Priced)(p:Priced):(⟨69,8,l.map bG++[bG p]⟩:Row)=cQ (l++[p]):=by
 show _=(⟨69,8,(l++[p]).map bG⟩:Row);rw[Xam];rfl
theorem U3(x:Instance)(d:Nat)(cuts:List Cut)(ds:List Decision)(dual:List ByteArray)(h:PrOk x d)(hm:MIn x cuts ds)(hq:CutsB cuts)(hl:dual.length<=1048576)(hs:∀s∈dual,s.size<=1048576):
   NC prog 26 [.agg (aH x),.sl (cuts.map dX),.sl (ds.map aW),.sl (dual.map Go.Aw.D.fJ)] (cQ (oC x cuts ds dual).1) (fun j=>.tup [.os j,int (oC x cuts ds dual).2]):=by
 have af:=oN x ds h.n8 h.ty;have ah:∀c∈(cL x ds).1,ColQ x c:=fun c hc=>Pw h.n8 (Ba hc).1
 have hP:oC x cuts ds dual=(if((cL x ds).2 != 0)=true then([],(cL x ds).2)
   else if Dec.gG ((cL x ds).1.map fun c=>(dL x c cuts ds dual).2)≠0 then([],Dec.gG ((cL x ds).1.map fun c=>(dL x c cuts ds dual).2))
   else((cL x ds).1.map fun c=>⟨c,(dL x c cuts ds dual).1⟩,0)):=rfl
 refine ncb (fun t=>t == 8) Tryz.func26 ?_;unfold Tryz.f26;simp only[gdS];simp only[go_sem];generalize oC x cuts ds dual=RP at *;refine aM fun j T=>?_
 generalize u:aI _ j _=HGj;have R:HGj j=some (cQ []):=by rw[<-u,aA];try rfl
 clear u T;simp only[go_sem,R];refine PC.use (Sq.NC.pc2 (xS x d ds h hm.dl)) ?_;generalize cL x ds=A at *;obtain⟨A,e⟩:=A;simp only at af ah hP;simp only[go_sem];refine aB (fun hb=>?_) (fun hb=>?_)
 . rw[if_pos hb]at hP
   simp only[go_sem];refine aM fun j T=>?_
   generalize u:aI _ j _=HGj;have R:HGj j=some (cQ []):=by rw[<-u,aA];try rfl
   clear u T;simp only[go_sem,R];rw[hP];exact⟨j,rfl,R⟩
 rw[if_neg (by rw[hb];simp)]at hP;simp only[go_sem,Xaa];refine⟨by omega,?_⟩;refine aM fun j T=>?_
 generalize u:aI _ j _=HGj;have R:HGj j=some (cQ []):=by rw[<-u,aA];try rfl
 clear u T;simp only[go_sem,R];refine⟨fun ρ H=>∃(k:Nat) (j:Nat),k<=A.length/\ρ 1=.sl (cuts.map dX)/\ρ 2=.sl (ds.map aW)/\ρ 3=.sl (dual.map Go.Aw.D.fJ)/\ρ 4=.rp (aH x) 0/\ρ 29=.sl (A.map aS)/\ρ 30=int (A.length:Nat)/\ρ 31=int k/\ρ 12=.os j/\H j=some (cQ ((A.take k).map fun c=>⟨c,(dL x c cuts ds dual).1⟩))/\(∀e∈(A.map fun c=>(dL x c cuts ds dual).2).take k,e=0),fun ρ _=>A.length-aV (ρ 31),⟨0,j,Xac _,by simp only[go_sem],by simp only[go_sem],by simp only[go_sem],by simp only[go_sem],by simp only[go_sem],by simp only[go_sem,Xaa],(by simp only[go_sem];rfl),by simp only[go_sem],R,by simp⟩,?_⟩;rintro ρ H ⟨k,j,hk,e1,e2,e3,e4,I,F,M,J,R,hz⟩;simp only[go_sem,e1,e2,e3,e4,I,F,M,J];refine aB (fun aa=>?_) (fun ac=>?_)
 . have aa:=ltB (by simpa using aa)
   obtain⟨c,hc⟩:=aN aa;have b1:=inB aa;have ag:=ah c (Xae hc);have ad:(A.map fun c=>(dL x c cuts ds dual).2)[k]?=some (dL x c cuts ds dual).2:=by rw[List.getElem?_map,hc];rfl
   have ai:((A.take (k+1)).map fun c=>(⟨c,(dL x c cuts ds dual).1⟩:Priced))=((A.take k).map fun c=>⟨c,(dL x c cuts ds dual).1⟩)++[⟨c,(dL x c cuts ds dual).1⟩]:=by
     rw[bQ hc,Xam];rfl
   have aj:((A.take k).map fun c=>(⟨c,(dL x c cuts ds dual).1⟩:Priced)).length<=A.length:=by rw[Xaa,Xal];omega
   generalize ((A.take k).map fun c=>(⟨c,(dL x c cuts ds dual).1⟩:Priced))=L at *;simp only[go_sem,e1,e2,e3,e4,I,F,M,J,aE hc,b1];refine aM fun ab Z=>?_
   have E:j≠ab:=aO R Z;simp only[go_sem,e1,e2,e3,e4,I,F,M,J,R];refine aJ (aA _ _ _) (by simp[dI]) ?_;generalize O:aI (aI _ ab _) ab _=HGi14;replace R:=(congrFun O.symm j).trans ((aD _ _ _ _ E).trans ((aD _ _ _ _ E).trans R));have ae:HGi14 ab=some (dQ [c]):=by rw[<-O,aA];try rfl
   clear O Z;simp only[go_sem,e1,e2,e3,e4,I,F,M,J,ae,R];refine PC.use (OE x c cuts ds dual hm ag.b hq ag.price hl hs) ?_;simp only[go_sem,e1,e2,e3,e4,I,F,M,J];refine aB (fun hb=>?_) (fun hb=>?_)
   . have he:=Dec.uB hz ad hb
     rw[if_pos (by rw[he];simpa using hb),he]at hP;simp only[go_sem];refine aM fun j T=>?_
     generalize u:aI _ j _=HGj;have R:HGj j=some (cQ []):=by rw[<-u,aA];try rfl
     clear u T;simp only[go_sem,R];rw[hP];exact⟨j,rfl,R⟩
   . simp only[go_sem,e1,e2,e3,e4,I,F,M,J,ae]
     refine Sq.K4 (a:=bG ⟨c,(dL x c cuts ds dual).1⟩) rfl ⟨bS _,?_⟩;refine bE R ⟨rfl,rfl⟩ (by simp only[go_sem]) (by simp only[Xaa,Xab,Xad,List.length_nil];omega) (fun j2 ak=>?_);simp only[go_sem,e1,e2,e3,e4,I,F,M,J,aP (show k<=4611686018427387904 by omega)];refine⟨⟨k+1,j2,aa,rfl,rfl,?_,kK (p:=fun e:Int=>e=0) ad (by simpa using hb) hz⟩,by simp only[aF];omega⟩;rw[ai,aA];exact congrArg some (aeE _ _)
 have ac:=geB hk (by simpa using ac);subst ac;rw[Xan (by rw[Xaa];exact Xaf _)]at hz;rw[if_neg (by rw[Dec.rR hz];simp)]at hP;rw[Xag]at R;simp only[go_sem,e1,e2,e3,e4,I,F,M,J];rw[hP];exact⟨j,rfl,R⟩
def okP(p:Priced):Prop:=cG p.reduced=true
theorem wQ{p:Priced}(h:okP p):p.reduced.size<=1048576:=Xaj (qS h) (by decide)
theorem adP{a b:ByteArray}(E:cG a=true)(F:cG b=true):Fj a b<0↔rQ a<rQ b:=by
 unfold Fj Og;rw[E,F,Bool.and_self,if_pos rfl];split
 next h=>exact⟨fun _=>h,fun _=>by decide⟩
 next h=>
   split
   . exact⟨fun u=>absurd u (by decide),fun u=>absurd u h⟩
   . exact⟨fun u=>absurd u (by decide),fun u=>absurd u h⟩
theorem Ag{a b:Priced}(u:okP a)(E:okP b):decide (Fj a.reduced b.reduced<0)=ltP a b:=by
 unfold ltP;rw[decide_eq_decide];exact adP u E
theorem aeD:CmpOk 28 ltP okP:=⟨by kernel_rfl,fun x y u E=>⟨_,Ag u E,PP x y (wQ u) (wQ E)⟩⟩
theorem yT:∀(l:List Priced) (m:Priced),tI m l=l.foldl (fun m p=>if ltP p m=true then p else m) m
 | [],m=>rfl
 | p::l,m=>yT l _
theorem Sc{l:List Priced}{p q:Priced}{k:Nat}(h:l[k]?=some q):tI p (l.take (k+1))=if ltP q (tI p (l.take k))=true then q else tI p (l.take k):=by
 rw[yT,yT,Sq.gQ h]
theorem XF{p:Priced}{l:List Priced}(h:∀q∈p::l,okP q):okP (tI p l):=h _ (JL l p)
theorem SE(p:Priced)(l:List Priced)(hl:l.length<=1048576)(hr:∀q∈p::l,okP q):
   PC prog 27 [.sl ((p::l).map bG),mQ 28] (.agg (bG (tI p l))):=by
 have ai:aC prog 28=true:=by kernel_rfl
 refine pcd Tryz.func27 ?_;unfold Tryz.f27;simp only[gdS];simp only[go_sem];refine aM fun O ag=>?_
 generalize aa:aI _ O _=HGj4;have E:HGj4 O=some (cQ [⟨Sq.cD,ByteArray.empty⟩]):=by rw[<-aa,aA];try rfl
 clear aa ag;simp only[go_sem,E];refine aB (fun hb=>absurd (of_decide_eq_true hb) (by omega)) (fun _=>?_);have g0:((p::l).map bG).getD 0 []=bG p:=rfl;simp only[go_sem,g0,Xaa,Xad];refine⟨by omega,?_⟩;refine aM fun F ab=>?_
 have u:O≠F:=aO E ab;simp only[go_sem,g0,E];refine aJ (aA _ _ _) (by simp[bS]) ?_;generalize I:aI (aI _ F _) F _=HGi5;replace E:=(congrFun I.symm O).trans ((aD _ _ _ _ u).trans ((aD _ _ _ _ u).trans E));have Z:HGi5 F=some (cQ [p]):=by rw[<-I,aA];try rfl
 clear I ab;simp only[go_sem,g0,Z,E];refine⟨fun ρ H=>∃k:Nat,k<=l.length/\ρ 0=.sl ((p::l).map bG)/\ρ 1=mQ 28/\ρ 4=.op O 0 0/\ρ 5=.op F 0 0/\ρ 6=int (k+1:Nat)/\H O=some (cQ [⟨Sq.cD,ByteArray.empty⟩])/\H F=some (cQ [tI p (l.take k)]),fun ρ _=>l.length+1-aV (ρ 6),⟨0,Xac _,by simp only[go_sem],by simp only[go_sem],by simp only[go_sem],by simp only[go_sem],(by simp only[go_sem];rfl),E,Z⟩,?_⟩;rintro ρ H ⟨k,hk,e0,e1,T,e5,e6,E,Z⟩;simp only[go_sem,e0,e1,T,e5,e6,Xaa,Xad];refine aB (fun J=>?_) (fun ac=>?_)
 . have J:k<l.length:=by have:=of_decide_eq_true J;omega
   obtain⟨q,hq⟩:=aN J;have am:(p::l)[k+1]?=some q:=by simpa using hq
   have g1:=aE (f:=bG) hq;have b1:(0:Int)<=((k+1:Nat):Int)/\((k+1:Nat):Int)<((l.length+1:Nat):Int):=by omega
   have hm:=Sc (p:=p) hq;have ah:okP q:=hr q (List.mem_cons_of_mem _ (Xae hq));have ad:okP (tI p (l.take k)):=XF fun z hz=>by
     rcases List.mem_cons.1 hz with rfl|hz
     . exact hr _ (List.mem_cons_self ..)
     . exact hr z (List.mem_cons_of_mem _ (List.mem_of_mem_take hz))
   generalize tI p (l.take k)=M at *;simp only[go_sem,e0,e1,T,e5,e6,Xaa,Xad];refine eN [F] [(0,true),(1,true),(2,true),(3,true),(4,true),(5,true),(6,false),(7,true)] (by simp[Z]) (by kernel_rfl) fun Hp Hr hp hr _ al=>?_
   have af:=(hp F (by simp)).trans Z;simp only[go_sem,e0,e1,T,e5,e6,g1,b1,ai,Xaa,Xad,af];have ae:=PP q M (wQ ah) (wQ ad);have hd:=Ag ah ad;refine PC.use ae ?_;simp only[go_sem,e0,e1,T,e5,e6];refine lP hr ?_;simp only[go_sem,e0,e1,T,e5,e6];refine aB (fun hc=>?_) (fun hc=>?_)
   . have hc:ltP q M=true:=hd.symm.trans hc
     rw[if_pos hc]at hm;simp only[go_sem,e0,e1,T,e5,e6,g1,b1,Xaa,Xad];have ne:O≠F:=u;refine aJ Z (by simp[bS]) ?_;have ak:aI H F (some (⟨69,8,[bG q++List.drop 8 (bG M)]⟩:Row)) F=some (cQ [q]):=by rw[aA,iV,Xah];rfl
     have aj:aI H F (some (⟨69,8,[bG q++List.drop 8 (bG M)]⟩:Row)) O=some (cQ [⟨Sq.cD,ByteArray.empty⟩]):=(aD _ _ _ _ ne).trans E;simp only[go_sem,e0,e1,T,e5,e6,aP (show k+1<=4611686018427387904 by omega)];exact⟨⟨k+1,J,rfl,aj,by rw[hm];exact(aA _ _ _).symm.trans ak⟩,by simp only[aF];omega⟩
   . have hc:ltP q M=false:=hd.symm.trans hc
     rw[if_neg (by rw[hc];simp)]at hm;simp only[go_sem,e0,e1,T,e5,e6,aP (show k+1<=4611686018427387904 by omega)];exact⟨⟨k+1,J,rfl,E,by rw[hm];exact Z⟩,by simp only[aF];omega⟩
 . have ac:k=l.length:=by have:=of_decide_eq_false ac;omega
   subst ac;rw[Xag]at Z;simp only[go_sem,e0,e1,T,e5,e6,Z];refine aJ E (by simp[bS]) ?_;generalize hP:aI _ O _=HP;replace E:HP O=some (cQ [tI p l]):=by rw[<-hP,aA];rfl
   clear hP;simp only[go_sem,T,E];exact .refl _
theorem LQ{x:Instance}{c:Column}{cuts:List Cut}{ds:List Decision}{dual:List ByteArray}(h:(dL x c cuts ds dual).2=0):cG (dL x c cuts ds dual).1=true:=by
 unfold dL at h |-;split at h
 . exact absurd h (by decide)
 split at h
 next h1 h2=>exact absurd h h2
 next h1 h2=>
 rw[if_neg h1,if_neg h2];exact Pb h
theorem Z3{x:Instance}{cuts:List Cut}{ds:List Decision}{dual:List ByteArray}{p:Priced}(h:p∈(oC x cuts ds dual).1):p.column∈(cL x ds).1/\p.reduced=(dL x p.column cuts ds dual).1/\(dL x p.column cuts ds dual).2=0:=by
 unfold oC at h;split at h
 . cases h
 split at h
 . cases h
 next h1 h2=>
 obtain⟨c,u,rfl⟩:=List.mem_map.1 h;exact⟨u,rfl,Dec.rS (Decidable.not_not.1 h2) _ (List.mem_map.2 ⟨c,u,rfl⟩)⟩
theorem LT{x:Instance}{cuts:List Cut}{ds:List Decision}{dual:List ByteArray}{p:Priced}(h:p∈(oC x cuts ds dual).1):okP p:=by
 obtain⟨_,h1,u⟩:=Z3 h;show cG p.reduced=true;rw[h1];exact LQ u
theorem Lo(x:Instance)(cuts:List Cut)(ds:List Decision)(dual:List ByteArray)(E:x.orders.length<=8)(u:x.types.length<=1000):(oC x cuts ds dual).1.length<=256000:=by
 unfold oC;split
 . exact Xac _
 split
 . exact Xac _
 . rw[Xaa]
   exact oN x ds E u
def Ct(x:Instance)(d:Nat)(cuts:List Cut)(ds:List Decision)(dual:List ByteArray):Column×ByteArray×Int:=
 if(oE x d cuts ds dual != 0)=true then(Sq.cD,emp,oE x d cuts ds dual)
 else if((oC x cuts ds dual).2 != 0)=true then(Sq.cD,emp,(oC x cuts ds dual).2)
 else match (oC x cuts ds dual).1 with
 | []=>(Sq.cD,emp,24)
 | p::l=>((tI p l).column,(tI p l).reduced,0)
theorem Y9(x:Instance)(d:Nat)(cuts:List Cut)(ds:List Decision)(dual:List ByteArray)(h:PrOk x d)(hm:MIn x cuts ds)(hq:∀q∈cuts,q.set<=9223372036854775807)(hl:dual.length<=1048576)(hs:∀s∈dual,s.size<=1048576):
   PC prog 10 [.agg (aH x),.sl (cuts.map dX),.sl (ds.map aW),.sl (dual.map Go.Aw.D.fJ)] (.tup [.agg (aS (Ct x d cuts ds dual).1),str (Ct x d cuts ds dual).2.1,int (Ct x d cuts ds dual).2.2]):=by
 have F:Ct x d cuts ds dual=(if(oE x d cuts ds dual != 0)=true then(Sq.cD,emp,oE x d cuts ds dual)
   else if((oC x cuts ds dual).2 != 0)=true then(Sq.cD,emp,(oC x cuts ds dual).2)
   else match (oC x cuts ds dual).1 with
   | []=>(Sq.cD,emp,24)
   | p::l=>((tI p l).column,(tI p l).reduced,0)):=rfl
 generalize Ct x d cuts ds dual=RP at *;refine pcd Tryz.func10 ?_;unfold Tryz.f10;simp only[gdS];simp only[go_sem];refine aM fun j8 ag=>?_
 generalize aa:aI _ j8 _=HGj8;have E:HGj8 j8=some (dQ [Sq.cD]):=by rw[<-aa,aA];try rfl
 clear aa ag;simp only[go_sem,E];refine PC.use (L2 x d cuts ds dual h hm) ?_;simp only[go_sem,E];refine aB (fun O=>?_) (fun O=>?_)
 . rw[if_pos O]at F
   simp only[go_sem,E];refine aJ E (by simp only[go_sem]) ?_;generalize F:aI _ j8 _=HP;replace E:HP j8=some (dQ [Sq.cD]):=by rw[<-F,aA];rfl
   clear F;simp only[go_sem,E];rw[F];exact .refl _
 rw[if_neg (by rw[O];simp)]at F;have ai:CutsB cuts:=⟨fun q af=>⟨DG (Cf (by simpa using O) q af),hq q af⟩⟩;have ae:∀p∈(oC x cuts ds dual).1,okP p:=fun p hp=>LT hp
 have ac:=Lo x cuts ds dual h.n8 h.ty;simp only[go_sem,E];refine PC.use (Sq.NC.pc2 (U3 x d cuts ds dual h hm ai hl hs)) ?_;generalize oC x cuts ds dual=A at *;obtain⟨A,e⟩:=A;simp only at F ae ac;simp only[go_sem,E];refine aB (fun O=>?_) (fun O=>?_)
 . rw[if_pos O]at F
   simp only[go_sem,E];refine aJ E (by simp only[go_sem]) ?_;generalize F:aI _ j8 _=HP;replace E:HP j8=some (dQ [Sq.cD]):=by rw[<-F,aA];rfl
   clear F;simp only[go_sem,E];rw[F];exact .refl _
 rw[if_neg (by rw[O];simp)]at F;simp only[go_sem,E,Xaa];refine aB (fun O=>?_) (fun O=>?_)
 . have h0:A.length=0:=by simpa using O
   obtain rfl:=Xaq.1 h0;simp only[go_sem,E];refine aJ E (by simp only[go_sem]) ?_;generalize F:aI _ j8 _=HP;replace E:HP j8=some (dQ [Sq.cD]):=by rw[<-F,aA];rfl
   clear F;simp only[go_sem,E];rw[F];exact .refl _
 have h0:A.length≠0:=by simpa using O
 obtain⟨p,l,rfl⟩:∃p l,A=p::l:=by
   cases A with
   | nil=>exact absurd rfl h0
   | cons p l=>exact⟨p,l,rfl⟩
 simp only at F;have ah:=SE p l (by simp at ac;omega) ae;generalize tI p l=M at *;simp only[go_sem,E];refine PC.use ah ?_;simp only[go_sem,E];refine aM fun J Z=>?_
 have u:j8≠J:=aO E Z;simp only[go_sem,E];refine aJ (aA _ _ _) (by simp[bS]) ?_;generalize I:aI (aI _ J _) J _=HGi14;replace E:=(congrFun I.symm j8).trans ((aD _ _ _ _ u).trans ((aD _ _ _ _ u).trans E));have ad:HGi14 J=some (cQ [M]):=by rw[<-I,aA];try rfl
 clear I Z;simp only[go_sem,ad,E];refine eN [J] [(0,true),(1,true),(2,true),(3,true),(4,false),(5,true),(6,true)] (by simp[ad]) (by kernel_rfl) fun Hp Hr hp hr _ aj=>?_
 have T:=(hp J (by simp)).trans ad;have ab:=(hr j8 (by simp[u])).trans E;simp only[go_sem,T,ab];refine aJ ab (by simp[dI]) ?_;simp only[go_sem,T];refine nM hr (by simpa using u) ?_;simp only[go_sem,aA];rw[F];exact .refl _
def Ni(x:Instance)(d:Nat)(cuts:List Cut)(ds:List Decision)(dual:List ByteArray)(most:Int):List Column×Int:=
 if(oE x d cuts ds dual != 0)=true then([],oE x d cuts ds dual)
 else if(decide (most<1)||decide (most>8192))=true then([],2)
 else if((oC x cuts ds dual).2 != 0)=true then([],(oC x cuts ds dual).2)
 else(((aeF (oC x cuts ds dual).1).take most.toNat).map (·.column),0)
theorem JO{S:List Priced}{k m:Nat}(h:∀p∈S.take k,Dt p=true)(M:k<=S.length)(u:m=k\/(k<=m/\∀p,S[k]?=some p->Dt p=false)):(S.takeWhile Dt).take m=S.take k:=by
 rw[Sq.Qp (k:=k) h];have J:(S.take k).length=k:=by rw[Xal];omega
 rcases u with rfl|⟨u,F⟩
 . rw[List.take_append_of_le_length (by omega),Xan (by omega)]
 . have : (S.drop k).takeWhile Dt = [] := by
     cases I:S.drop k with
     | nil=>rfl
     | cons p r=>
       have E:S[k]?=some p:=by
         have:=congrArg (fun l:List Priced=>l[0]?) I;simpa using this
       rw[List.takeWhile_cons,F p E];rfl
   rw[this,Xah,Xan (by omega)]
theorem Uy{s:ByteArray}(h:cG s=true):decide (FP s>=0)= !decide (rQ s<0):=by
 unfold FP;rw[if_pos h,<-Se];unfold Og;by_cases u:rQ s<0
 . rw[if_pos u,decide_eq_true u];rfl
 . rw[if_neg u,decide_eq_false u]
   split <;> rfl
theorem WR(L:List Priced)(p:Priced):(⟨43,7,(L.map (·.column)).map aS++[aS p.column]⟩:Row)=dQ ((L++[p]).map (·.column)):=by
 rw[Sq.KE,Xam];rfl
theorem acU(x:Instance)(d:Nat)(cuts:List Cut)(ds:List Decision)(dual:List ByteArray)(most:Int)(h:PrOk x d)(hm:MIn x cuts ds)(hq:∀q∈cuts,q.set<=9223372036854775807)(hl:dual.length<=1048576)(hs:∀s∈dual,s.size<=1048576):
   PC prog 13 [.agg (aH x),.sl (cuts.map dX),.sl (ds.map aW),.sl (dual.map Go.Aw.D.fJ),int most] (.tup [.sl ((Ni x d cuts ds dual most).1.map aS),int (Ni x d cuts ds dual most).2]):=by
 have hP:Ni x d cuts ds dual most=(if(oE x d cuts ds dual != 0)=true then([],oE x d cuts ds dual)
   else if(decide (most<1)||decide (most>8192))=true then([],2)
   else if((oC x cuts ds dual).2 != 0)=true then([],(oC x cuts ds dual).2)
   else(((aeF (oC x cuts ds dual).1).take most.toNat).map (·.column),0)):=rfl
 generalize Ni x d cuts ds dual most=RP at *;refine pcb (fun t=>t == 15) Tryz.func13 ?_;unfold Tryz.f13;simp only[gdS];simp only[go_sem];refine PC.use (L2 x d cuts ds dual h hm) ?_;simp only[go_sem];refine aB (fun hb=>?_) (fun hb=>?_)
 . rw[if_pos hb]at hP
   simp only[go_sem];rw[hP];exact .refl _
 rw[if_neg (by rw[hb];simp)]at hP;have ax:CutsB cuts:=⟨fun q ak=>⟨DG (Cf (by simpa using hb) q ak),hq q ak⟩⟩;have ag:∀p∈(oC x cuts ds dual).1,okP p:=fun p hp=>LT hp
 have au:=Lo x cuts ds dual h.n8 h.ty;simp only[go_sem];refine aB (fun hb=>?_) (fun hb=>?_)
 . rw[if_pos hb]at hP
   simp only[go_sem];rw[hP];exact .refl _
 have az:1<=most/\most<=8192:=by
   simp only[Xak,decide_eq_false_iff_not]at hb;omega
 rw[if_neg (by rw[hb];simp)]at hP;simp only[go_sem];refine NC.use (U3 x d cuts ds dual h hm ax hl hs) fun j1 a4=>?_
 generalize oC x cuts ds dual=A at *;obtain⟨A,e⟩:=A;simp only at hP ag au;simp only[go_sem];refine aB (fun hb=>?_) (fun hb=>?_)
 . rw[if_pos hb]at hP
   simp only[go_sem];rw[hP];exact .refl _
 rw[if_neg (by rw[hb];simp)]at hP;have R1:aI bT j1 (some (cQ A)) j1=some (cQ A):=aA _ _ _;simp only[go_sem];refine I5 Yx aeD A j1 _ _ (by omega) ag R1 fun r=>?_
 rw[gC];have R1:aI bT j1 (some (cQ (vQ ltP A))) j1=some (cQ (vQ ltP A)):=aA _ _ _;generalize aI bT j1 (some (cQ (vQ ltP A)))=H1 at *;have aw:∀p∈vQ ltP A,okP p:=fun p hp=>ag p ((EJ A).mem_iff.1 hp)
 have a5:(vQ ltP A).length=A.length:=(EJ A).length_eq;unfold aeF at hP;generalize vQ ltP A=S at *;simp only[go_sem];refine aM fun af ac=>?_
 have Z:j1≠af:=aO R1 ac;generalize aa:aI _ af _=HGj15;replace R1:=(congrFun aa.symm j1).trans ((aD _ _ _ _ Z).trans R1);have ap:HGj15 af=some (dQ []):=by rw[<-aa,aA];try rfl
 clear aa ac;simp only[go_sem,ap,R1];refine⟨fun ρ H=>∃(k:Nat) (j:Nat),k<=S.length/\ρ 4=int most/\ρ 45=.os j1/\ρ 46=int (S.length:Nat)/\ρ 47=int k/\ρ 15=.os j/\H j=some (dQ ((S.take k).map (·.column)))/\H j1=some (cQ S)/\(∀p∈S.take k,Dt p=true)/\k<=most.toNat,fun ρ _=>S.length-aV (ρ 47),⟨0,af,Xac _,by simp only[go_sem],by simp only[go_sem],by simp only[go_sem,Xaa],(by simp only[go_sem];rfl),by simp only[go_sem],ap,R1,by simp,Xac _⟩,?_⟩;rintro ρ H ⟨k,j,hk,e4,F,O,J,M,R,RS,hz,aj⟩;simp only[go_sem,e4,F,O,J,M];refine aB (fun ab=>?_) (fun ah=>?_)
 . have ab:=ltB (by simpa using ab)
   obtain⟨p,hp⟩:=aN ab;have b1:=inB ab;have ai:=aw p (Xae hp);have ao:=Uy ai;have a0:((S.take k).map (·.column)).length=k:=by rw[Xaa,Xal];omega
   have ay:S.take (k+1)=S.take k++[p]:=bQ hp;simp only[go_sem,e4,F,O,J,M,RS,aE hp,b1,Xaa];refine⟨ab,?_⟩;refine aM fun ad T=>?_
   have E:j≠ad:=aO R T;have u:j1≠ad:=aO RS T;simp only[go_sem,e4,F,O,J,M,R,RS];refine aJ (aA _ _ _) (by simp[bS]) ?_;generalize I:aI (aI _ ad _) ad _=HGi17;replace R:=(congrFun I.symm j).trans ((aD _ _ _ _ E).trans ((aD _ _ _ _ E).trans R));replace RS:=(congrFun I.symm j1).trans ((aD _ _ _ _ u).trans ((aD _ _ _ _ u).trans RS));have al:HGi17 ad=some (cQ [p]):=by rw[<-I,aA];try rfl
   clear I T;simp only[go_sem,e4,F,O,J,M,al,R,RS];refine PC.use (Zv p.reduced (wQ ai)) ?_;simp only[go_sem,e4,F,O,J,M,R,Xaa];have aq:((S.take k).length:Int)=(k:Int):=by rw[Xal];omega
   refine aB (fun hc=>?_) (fun hc=>?_)
   . have ae : (S.takeWhile Dt).take most.toNat = S.take k := JO hz hk (by
       by_cases hn:Dt p=true
       . left
         have e1:decide (FP p.reduced>=0)=false:=by rw[ao,show decide (rQ p.reduced<0)=true from hn];rfl
         rw[e1,Bool.false_or]at hc;have:((S.take k).length:Int)=most:=by simpa using hc
         omega
       . right
         refine⟨aj,fun p' ar=>?_⟩;rw[hp]at ar;obtain rfl:=Option.some.inj ar;simpa using hn)
     simp only[go_sem,e4,F,O,J,M];rw[hP,ae];exact .tup _ _ (.cons _ _ _ _ (.row _ _ _ R (ConvE.refl _)) (ConvL.refl _))
   rw[ao]at hc;simp only[Xak,Xbv]at hc;have hn:Dt p=true:=hc.1;have a6:¬(k:Int)=most:=by have:=hc.2;rw[aq]at this;simpa using this
   simp only[go_sem,e4,F,O,J,M,al];refine bE R ⟨rfl,rfl⟩ (by simp only[go_sem]) (by simp only[Xaa,Xab,Xad,List.length_nil,Xal];omega) (fun j2 an=>?_);have av:j1≠j2:=fun e=>by rw[<-e,RS]at an;cases an
   have am:j1≠j:=fun e=>by rw[e,R]at RS;cases RS
   simp only[go_sem,e4,F,O,J,M,aP (show k<=4611686018427387904 by omega)];refine⟨⟨k+1,j2,ab,rfl,rfl,?_,?_,?_,by omega⟩,by simp only[aF];omega⟩
   . rw[ay,aA]
     exact congrArg some (WR _ _)
   . rw[aD _ _ _ _ av,aD _ _ _ _ am];exact RS
   . exact Mv.aT (p:=fun p=>Dt p=true) hp hn hz
 have ah:=geB hk (by simpa using ah);subst ah;have ae:(S.takeWhile Dt).take most.toNat=S.take S.length:=JO hz (Xaf _) (.inr ⟨aj,fun p hp=>by
   rw[List.getElem?_eq_none (Xaf _)]at hp;cases hp⟩)
 simp only[go_sem,e4,F,O,J,M];rw[hP,ae];exact .tup _ _ (.cons _ _ _ _ (.row _ _ _ R (ConvE.refl _)) (ConvL.refl _))
def exO:Order:=⟨⟨#[111,97]⟩,[1],⟨-1,0,0,0⟩,⟨1,0,50,0⟩,0,0,1,-1,-1,false⟩
def exT:VType:=⟨⟨#[118,97,110]⟩,1,0,0,[5],0,0,0,1000,1000,0,5,1,0⟩
def exN:Network:=⟨[⟨#[104,117,98]⟩,⟨#[97,115,104]⟩],[⟨0,1,0,10,[⟨0,20⟩],[]⟩,⟨1,0,0,10,[⟨0,20⟩],[]⟩]⟩
def exX:Instance:=⟨exN,[exT],[exO],[],[]⟩
def exD:List ByteArray:=[zed 419430410,⟨#[48]⟩]
def exC:Column:=(Ct exX 1 [] [] exD).1
theorem Is:(Ct exX 1 [] [] exD).2=(⟨#[45,49,48]⟩,0)/\exC.set=1/\exC.price=419430400:=by decide +kernel
theorem UC:(Ni exX 1 [] [] exD 5).2=0/\(Ni exX 1 [] [] exD 5).1.length=1:=by decide +kernel
theorem DL:(cL exX []).2=0/\(cL exX []).1.length=1:=by decide +kernel
theorem VN:LoadsOk exX 1 where
 dims:=by decide
 orders:=by decide
 types:=by decide
 load:=by
   intro o u;simp[exX,exO]at u;subst u;simp
 cap:=by
   intro t E;simp[exX,exT]at E;subst E;simp
theorem aeH:Sq.NetOk exN where
 arcs:=by decide
 travel:=by
   intro a u;simp[exN]at u;rcases u with rfl|rfl <;> decide +kernel
 slow:=by
   intro a u;simp[exN]at u;rcases u with rfl|rfl <;> decide
theorem Xl:PrOk exX 1 where
 ev:=⟨aeH,⟨by decide,by intro o u;simp[exX,exO]at u;subst u;rfl,by decide⟩,by decide,by decide⟩
 n8:=by decide
 ty:=by decide
 lo:=VN
 ne:=by simp[exX]
theorem zE:PC prog 24 [] (.agg (aH exX)):=by
 refine pcd Tryz.func24 ?_;unfold Tryz.f24;simp only[gdS];simp only[go_sem];refine aM fun i0 af=>?_
 generalize ad:aI _ i0 _=HGi0;have O:HGi0 i0=some (insR ⟨⟨[],[]⟩,[],[],[],[]⟩):=by rw[<-ad,aA];try rfl
 clear ad af;simp only[go_sem,O];refine aM fun i2 ae=>?_
 have F:i0≠i2:=aO O ae;simp only[go_sem,O];refine aJ (aA _ _ _) (by simp) ?_;generalize ac:aI (aI _ i2 _) i2 _=HGi2;replace O:=(congrFun ac.symm i0).trans ((aD _ _ _ _ F).trans ((aD _ _ _ _ F).trans O));have R2:HGi2 i2=some (⟨25,2,[aU exN]⟩):=by rw[<-ac,aA];try rfl
 clear ac ae;simp only[go_sem,R2,O];refine aM fun i3 ab=>?_
 have M:i0≠i3:=aO O ab;have I:i2≠i3:=aO R2 ab;simp only[go_sem,O,R2];refine aJ (aA _ _ _) (by simp) ?_;generalize Z:aI (aI _ i3 _) i3 _=HGi3;replace O:=(congrFun Z.symm i0).trans ((aD _ _ _ _ M).trans ((aD _ _ _ _ M).trans O));replace R2:=(congrFun Z.symm i2).trans ((aD _ _ _ _ I).trans ((aD _ _ _ _ I).trans R2));have R3:HGi3 i3=some (ordR exO):=by rw[<-Z,aA];try rfl
 clear Z ab;simp only[go_sem,R3,O,R2];refine aM fun i4 aa=>?_
 have u:i0≠i4:=aO O aa;have J:i2≠i4:=aO R2 aa;have E:i3≠i4:=aO R3 aa;simp only[go_sem,O,R2,R3];refine aJ (aA _ _ _) (by simp) ?_;generalize T:aI (aI _ i4 _) i4 _=HGi4;replace O:=(congrFun T.symm i0).trans ((aD _ _ _ _ u).trans ((aD _ _ _ _ u).trans O));replace R2:=(congrFun T.symm i2).trans ((aD _ _ _ _ J).trans ((aD _ _ _ _ J).trans R2));replace R3:=(congrFun T.symm i3).trans ((aD _ _ _ _ E).trans ((aD _ _ _ _ E).trans R3));have R4:HGi4 i4=some (typR exT):=by rw[<-T,aA];try rfl
 clear T aa;simp only[go_sem,R4,O,R2,R3];refine aJ O (by simp;decide) ?_;simp only[go_sem];exact .refl _
theorem BC:PC prog 9 [] (boo true):=by
 have hM:MIn exX [] []:=⟨by decide,by decide,by decide,by decide⟩;have Z:∀s∈exD,s.size<=1048576:=by decide +kernel
 have hb:=Y9 exX 1 [] [] exD Xl hM (fun q I=>by cases I) (by decide) Z;rw[show Ct exX 1 [] [] exD=(exC,⟨#[45,49,48]⟩,0)from Prod.ext rfl Is.1]at hb;have hn:=acU exX 1 [] [] exD 5 Xl hM (fun q I=>by cases I) (by decide) Z;have ha:=Sq.NC.pc2 (xS exX 1 [] Xl (by decide));rw[DL.1]at ha;rw[UC.1]at hn;have T:=UC.2;have J:=DL.2;have F:=Is.2.1;have M:=Is.2.2;generalize (Ni exX 1 [] [] exD 5).1=NL at *;generalize (cL exX []).1=AL at *;generalize exC=c at *;refine pcd Tryz.func9 ?_;unfold Tryz.f9;simp only[gdS];simp only[go_sem];refine PC.use (abS 419430410 (by decide) (by decide)) ?_;simp only[go_sem];refine PC.use zE ?_;simp only[go_sem];refine PC.use hb ?_;simp only[go_sem];refine aM fun O E=>?_
 simp only[go_sem];refine aJ (aA _ _ _) (by simp[dI]) ?_;generalize u:aI (aI _ O _) O _=HGi3;have R3:HGi3 O=some (dQ [c]):=by rw[<-u,aA];try rfl
 clear u E;simp only[go_sem,R3];refine PC.use zE ?_;simp only[go_sem];refine PC.use hn ?_;simp only[go_sem];refine PC.use zE ?_;simp only[go_sem];refine PC.use ha ?_;simp only[go_sem,R3,Xaa,F,M,T,J];exact cB (a:=true) (by rfl)
end Go.Proofs.YtohmomanmikphaaGreatDoor.Nu.Ps
end
section
namespace Go.Proofs.YtohmomanmikphaaGreatDoor.Nu.Ps
open Go.Proofs.Tryz(prog)
open Go.Aw Go.Aw.D Go.Proofs Ty Go.Nu Go.So
open Dec (mW dO eQ dE tU jV)
open Sq (EvalB BestQ sF mI dQ gE kB)
theorem YJ{x:Instance}(h:Acc x)(M:x.orders.length<=8):PrOk x (jU x.types).toNat:=by
 obtain⟨u,E⟩:=ND h;have h1:=h.arcs;have h2:=h.types;have Z:=h.apart;have h4:=h.before;refine⟨⟨⟨by omega,fun a F=>(h.arc a F).travel,fun a F=>by have:=(h.arc a F).slow;omega⟩,?_,by omega,by omega⟩,M,by omega,u,E⟩;obtain⟨t,r,I⟩:=List.exists_cons_of_ne_nil E;have J:kB x=(t.cap.length:Nat):=by unfold kB;rw[I];rfl
 have hc:=(u.cap t (by rw[I];exact List.mem_cons_self)).1;have T:=u.dims;exact⟨by rw[J];omega,fun o O=>by rw[J,(u.load o O).1];omega,by omega⟩
def QQ(a:Ask3):Bool:=(((((decide ((a.x.orders.length:Int)>3)||decide ((a.x.types.length:Int)>3))||decide ((a.cuts.length:Int)>8))||decide ((a.d.length:Int)>8))||decide ((a.dual.length:Int)>40))||decide (((E4 a.x).length:Int)>0))
def Ol(a:Ask3):Bool:= !QQ a&&a.dual.all fun s=> !decide ((s.size:Int)>60)
theorem Xr{a:Ask3}(h:Ol a=true):Acc a.x/\a.x.orders.length<=3/\a.x.types.length<=3/\a.cuts.length<=8/\a.d.length<=8/\a.dual.length<=40/\∀s∈a.dual,s.size<=60:=by
 unfold Ol QQ at h;simp only[Xap,Xbm,Xak,decide_eq_false_iff_not,Xao]at h;obtain⟨⟨⟨⟨⟨⟨h1,M⟩,F⟩,O⟩,I⟩,J⟩,E⟩:=h;refine⟨afB (Xaq.1 (by omega)),by omega,by omega,by omega,by omega,by omega,fun s u=>?_⟩;have:=E s u;omega
theorem aiX(a:Ask3)(hx:InB a.x)(hl:a.dual.length<=1048576):PC prog 8 [.agg (gJ a)] (boo (Ol a)):=by
 refine pcd Tryz.func8 ?_;unfold Tryz.f8;simp only[gdS];simp only[go_sem];refine⟨_,fun _=>(NC.pc (Z8 a.x hx)).qn,?_⟩;simp only[go_sem,Xaa];refine aB (fun F=>?_) (fun F=>?_)
 . have F:QQ a=true:=F
   simp only[go_sem];refine cB ?_;unfold Ol;rw[F];rfl
 have F:QQ a=false:=F;have hF:Ol a=a.dual.all fun s=> !decide ((s.size:Int)>60):=by unfold Ol;rw[F];rfl
 rw[hF];simp only[go_sem];refine⟨fun ρ H=>∃(k:Nat),k<=a.dual.length/\ρ 1=.rp (gJ a) 0/\ρ 3=int k/\(∀s∈a.dual.take k,decide ((s.size:Int)>60)=false),fun ρ _=>a.dual.length-aV (ρ 3),⟨0,Xac _,by simp only[go_sem],(by simp only[go_sem];rfl),by simp⟩,?_⟩;rintro ρ H ⟨k,hk,M,O,T⟩;simp only[go_sem,M,O];refine aB (fun u=>?_) (fun E=>?_)
 . have u:=ltB (by simpa using u)
   obtain⟨s,I⟩:=aN u;have Z:=inB u;simp only[go_sem,M,O,aE I,Z];refine aB (fun J=>?_) (fun J=>?_)
   . simp only[go_sem]
     refine cB ?_;exact(List.all_eq_false.2 ⟨s,Xae I,by
       have J:decide ((s.size:Int)>60)=true:=J;rw[J];simp⟩).symm
   . simp only[go_sem,M,O,aP (show k<=4611686018427387904 by omega)]
     exact⟨⟨k+1,u,rfl,kK (p:=fun s:ByteArray=>decide ((s.size:Int)>60)=false) I J T⟩,by simp only[aF];omega⟩
 have E:=geB hk (by simpa using E);subst E;rw[Xag]at T;simp only[go_sem,M,O];exact cB (Xao.2 fun s I=>by rw[T s I];rfl).symm
theorem Kj(l:List Visit)(hl:l.length<=1048576):PC prog 31 [.sl (l.map aK),.sl (l.map aK)] (boo true):=by
 refine pcd Tryz.func31 ?_;unfold Tryz.f31;simp only[gdS];simp only[go_sem];refine aB (fun O=>absurd O (by simp)) (fun _=>?_);simp only[go_sem];refine⟨fun ρ H=>∃(k:Nat),k<=l.length/\ρ 0=.sl (l.map aK)/\ρ 1=.sl (l.map aK)/\ρ 5=int k,fun ρ _=>l.length-aV (ρ 5),⟨0,Xac _,by simp only[go_sem],by simp only[go_sem],(by simp only[go_sem];rfl)⟩,?_⟩;rintro ρ H ⟨k,hk,E,F,I⟩;simp only[go_sem,E,F,I];refine aB (fun u=>?_) (fun Z=>?_)
 . have u:=ltB (by simpa using u)
   obtain⟨v,T⟩:=aN u;have M:=inB u;simp only[go_sem,E,F,I];refine dA (by rfl) (by kernel_rfl) ?_;simp only[go_sem,E,F,I,aE T,M,Xaa];refine aB (fun J=>?_) (fun J=>?_)
   . exact absurd J (by simp)
   . simp only[go_sem,E,F,I,aP (show k<=4611686018427387904 by omega)]
     exact⟨⟨k+1,u,rfl⟩,by simp only[aF];omega⟩
 simp only[go_sem];exact .refl _
theorem JP(c:Column)(h1:c.route.rests.length<=1048576)(h2:c.route.visits.length<=1048576):PC prog 12 [.agg (aS c),.agg (aS c)] (boo true):=by
 refine pcd Tryz.func12 ?_;unfold Tryz.f12;simp only[gdS];simp only[go_sem];refine aB (fun T=>absurd T (by simp)) (fun _=>?_);simp only[go_sem];refine⟨fun ρ H=>∃(k:Nat),k<=c.route.rests.length/\ρ 2=.rp (aS c) 0/\ρ 3=.rp (aS c) 0/\ρ 5=int k,fun ρ _=>c.route.rests.length-aV (ρ 5),⟨0,Xac _,by simp only[go_sem],by simp only[go_sem],(by simp only[go_sem];rfl)⟩,?_⟩;rintro ρ H ⟨k,hk,E,F,I⟩;simp only[go_sem,E,F,I];refine aB (fun u=>?_) (fun O=>?_)
 . have u:=ltB (by simpa using u)
   obtain⟨v,Z⟩:=aN u;have M:=inB u;simp only[go_sem,E,F,I];refine dA (by rfl) (by kernel_rfl) ?_;simp only[go_sem,E,F,I,aE Z,M,Xaa];refine aB (fun J=>?_) (fun J=>?_)
   . exact absurd J (by simp)
   . simp only[go_sem,E,F,I,aP (show k<=4611686018427387904 by omega)]
     exact⟨⟨k+1,u,rfl⟩,by simp only[aF];omega⟩
 simp only[go_sem,E,F,I];refine PC.use (Kj c.route.visits h2) ?_;simp only[go_sem];exact .refl _
end Go.Proofs.YtohmomanmikphaaGreatDoor.Nu.Ps
end
section
namespace Go.Proofs.YtohmomanmikphaaGreatDoor.Nu
open Go.Aw Go.Aw.D Go.Proofs Ty Go.Nu
open Dec (mW dO eQ dE tU jV)
theorem F7{x:Instance}{d:Decision}(h:Dec.dO x d=0)(M:x.orders.length<=62)(s:Int):eQ d s= !dE d s:=by
 have u:∀i:Int,Dec.wB x i=true->Dec.dH s i=jV s i:=by
   intro i J;unfold Dec.wB at J;simp only[Xap,decide_eq_true_eq]at J;unfold Dec.dH jV;rw[decide_eq_true J.1,decide_eq_true (show i<=62 by omega)];rfl
 unfold Dec.dO at h;unfold eQ dE;by_cases h1:d.kind=1
 . rw[if_pos (.inl h1)]at h
   rw[if_pos h1,if_pos h1];split at h
   . next E=>
     simp only[Xap]at E;rw[u d.a E.1.1,u d.b E.1.2];cases jV s d.a <;> cases jV s d.b <;> rfl
   . cases h
 . by_cases F:d.kind=2
   . rw[if_pos (.inr F)]at h
     rw[if_neg h1,if_pos F,if_neg h1,if_pos F];split at h
     . next E=>
       simp only[Xap]at E;rw[u d.a E.1.1,u d.b E.1.2];cases jV s d.a <;> cases jV s d.b <;> rfl
     . cases h
   . by_cases I:d.kind=6
     . rw[if_neg (by omega),if_pos (.inr I)]at h
       rw[if_neg h1,if_neg F,if_pos I,if_neg h1,if_neg F,if_pos I];split at h
       . next E=>rw[u d.a E]
       . cases h
     . rw[if_neg h1,if_neg F,if_neg I,if_neg h1,if_neg F,if_neg I];rfl
theorem QJ{x:Instance}{ds:List Decision}(h:mW x ds=0):∀d∈ds,Dec.dO x d=0:=by
 unfold mW at h;split at h
 . cases h
 . exact fun d u=>Dec.rS h _ (List.mem_map.2 ⟨d,u,rfl⟩)
end Go.Proofs.YtohmomanmikphaaGreatDoor.Nu
end
section
namespace Go.Proofs.YtohmomanmikphaaGreatDoor.Nu.Ps
open Go.Proofs.Tryz(prog)
open Go.Aw Go.Aw.D Go.Proofs Ty Go.Nu Go.So
open Dec (mW dO eQ dE tU jV)
open Sq (EvalB BestQ sF mI dQ gE kB)
theorem NN{α:Type}{p:α->Bool}{l:List α}{i:Nat}{c:α}(h:l[i]?=some c)(u:p c=true):(l.filter p)[((l.take i).filter p).length]?=some c:=by
 have E:l=l.take i++c::l.drop (i+1):=by
   rw[<-xH h,Xcb]
 have:l.filter p=(l.take i).filter p++c::(l.drop (i+1)).filter p:=by
   conv=>lhs;rw[E]
   rw[List.filter_append,List.filter_cons,if_pos u]
 rw[this,List.getElem?_append_right (Xaf _),Nat.sub_self];rfl
theorem acQ{x:Instance}{ds:List Decision}(h:mW x ds=0)(F:x.orders.length<=62)(c:Column):(ds.all fun d=> !dE d c.set)=inD ds c:=by
 unfold inD;refine Xau.2 ?_;rw[Xao,Xao];exact⟨fun E d u=>(F7 (QJ h d u) F _).trans (E d u),fun E d u=>(F7 (QJ h d u) F _).symm.trans (E d u)⟩
theorem Wi{ds:List Decision}{k:Nat}{c:Column}(h:inD ds c=true):inD (ds.take k) c=true:=by
 unfold inD at h |-;rw[Xao]at h |-;exact fun d u=>h d (List.mem_of_mem_take u)
theorem I7{x:Instance}{ds:List Decision}{k:Nat}(h1:(cL x ds).2=0)(I:(cL x (ds.take k)).2=0):(cL x ds).1=(cL x (ds.take k)).1.filter (inD ds)/\mW x ds=0:=by
 unfold cL at h1 I |-;split at h1
 next E=>exact absurd h1 (by simpa using E)
 next u=>
 split at I
 next E=>exact absurd I (by simpa using E)
 next F=>
 rw[if_neg u,if_neg F];refine⟨?_,by simpa using u⟩;rw[List.filter_filter];refine List.filter_congr fun c _=>?_
 cases h:inD ds c with
 | false=>rfl
 | true=>rw[Wi h];rfl
theorem RE{x:Instance}{c:Column}(u:x.orders.length<=8)(h:c∈sF x):c.route.rests.length<=1048576/\c.route.visits.length<=1048576:=by
 obtain⟨k,s,h⟩:=mI u h;obtain⟨l,E,_,_,F⟩:=h.is;have:=Sq.Gx (x:=x) (Int.le_of_lt h.pos) h.top (by omega);rw[E];exact⟨Xac _,by show l.length<=1048576;omega⟩
theorem Z2(a:Ask3)(k:Int)(hx:InB a.x)(hl:a.dual.length<=1048576)(ak:∀d∈a.d,tU d):PC prog 7 [.agg (gJ a),int k] (boo true):=by
 have hF:=aiX a hx hl;refine pcd Tryz.func7 ?_;unfold Tryz.f7;simp only[gdS];simp only[go_sem];refine PC.use hF ?_;simp only[go_sem,Xaa];refine aB (fun Z=>?_) (fun Z=>?_)
 . simp only[go_sem]
   refine PC.use BC ?_;simp only[go_sem];exact .refl _
 obtain⟨⟨hf,hk0⟩,hk1⟩:(Ol a=true/\0<=k)/\k<=(a.d.length:Nat):=by
   simp only[Xak,Xbv,decide_eq_false_iff_not]at Z;exact⟨⟨Z.1.1,by omega⟩,by omega⟩
 obtain⟨af,hn,an,aq,ao,_,_⟩:=Xr hf;obtain⟨n,rfl⟩:=Int.eq_ofNat_of_zero_le hk0;have E:=YJ af (by omega);have hA:=Sq.NC.pc2 (xS a.x _ a.d E (by omega));have hB:=Sq.NC.pc2 (xS a.x _ (a.d.take n) E (by rw[Xal];omega));have ac:=oN a.x a.d E.n8 E.ty;have ap:=oN a.x (a.d.take n) E.n8 E.ty;have aj:∀c∈(cL a.x (a.d.take n)).1,c∈sF a.x:=fun c hc=>(Ba hc).1
 have aa:=I7 (x:=a.x) (ds:=a.d) (k:=n);generalize cL a.x a.d=A at *;generalize cL a.x (a.d.take n)=B at *;simp only[go_sem];refine PC.use hA ?_;simp only[go_sem];refine AM [(0,true),(1,true),(2,true),(3,true),(4,true),(5,true),(6,false),(7,true),(8,true),(9,true),(10,true),(11,true)] (by kernel_rfl) ?_;simp only[go_sem,Xaa];rw[List.map_take]at hB;refine⟨⟨hk0,hk1⟩,PC.use hB ?_⟩;simp only[go_sem];refine aB (fun Z=>?_) (fun Z=>?_)
 . simp only[go_sem]
   refine PC.use BC ?_;simp only[go_sem];exact .refl _
 obtain⟨aa,al⟩:=aa (by simp only[Xak]at Z;simpa using Z.1) (by simp only[Xak]at Z;simpa using Z.2);generalize A.1=A at *;generalize B.1=B at *;simp only[go_sem];refine⟨fun ρ H=>∃(k:Nat),k<=B.length/\ρ 2=.rp (gJ a) 0/\ρ 5=.sl (A.map aS)/\ρ 7=.sl (B.map aS)/\ρ 10=int k/\ρ 9=int (((B.take k).filter (inD a.d)).length:Nat),fun ρ _=>B.length-aV (ρ 10),⟨0,Xac _,by simp only[go_sem],by simp only[go_sem],by simp only[go_sem],(by simp only[go_sem];rfl),(by simp only[go_sem];rfl)⟩,?_⟩;rintro ρ H ⟨k,hk,T,J,M,u,I⟩;simp only[go_sem,T,J,M,u,I];refine aB (fun F=>?_) (fun ad=>?_)
 . have F:=ltB (by simpa using F)
   obtain⟨c,hc⟩:=aN F;have b1:=inB F;have ae:=aj c (Xae hc);have ag:=Pw E.n8 ae;have ai:=RE E.n8 ae;have ac:=Dec.Nz a.d c (by omega) ak ag.b.set.1 ag.b.set.2;rw[acQ al (by omega)]at ac;have ab:=Sq.Ck (p:=inD a.d) hc;simp only[go_sem,T,J,M,u,I];refine AM [(0,true),(1,true),(2,true),(3,true),(4,true),(5,true),(6,false),(7,true)] (by kernel_rfl) ?_;simp only[go_sem,T,J,M,u,I,aE hc,b1,Xaa];refine PC.use ac ?_;simp only[go_sem,T,J,M,u,I];refine aB (fun O=>?_) (fun O=>?_)
   . have O:inD a.d c=false:=by simpa using O
     rw[if_neg (by rw[O];simp),Xah]at ab;simp only[go_sem,T,J,M,u,I,aP (show k<=4611686018427387904 by omega)];exact⟨⟨k+1,F,rfl,by rw[ab]⟩,by simp only[aF];omega⟩
   have O:inD a.d c=true:=by simpa using O
   have hg:=NN hc O;rw[<-aa]at hg;rw[if_pos O]at ab;have ah:((B.take (k+1)).filter (inD a.d)).length=((B.take k).filter (inD a.d)).length+1:=by rw[ab,Xab];rfl
   have am:=(List.getElem?_eq_some_iff.1 hg).1;generalize ((B.take k).filter (inD a.d)).length=m at *;have b2:=inB am;have b3:decide ((m:Int)>=(A.length:Int))=false:=decide_eq_false (by omega);simp only[go_sem,T,J,M,u,I];refine dA (by rfl) (by kernel_rfl) ?_;simp only[go_sem,T,J,M,u,I,aE hc,aE hg,b1,b2,b3,Xaa];refine⟨_,(JP c ai.1 ai.2).q rfl,?_⟩;simp only[go_sem,T,J,M,u,I,b3];refine aB (fun O=>absurd O (by simp)) (fun _=>?_);simp only[go_sem,T,J,M,u,I,aP (show k<=4611686018427387904 by omega),aP (show m<=4611686018427387904 by omega)];exact⟨⟨k+1,F,rfl,by rw[ah]⟩,by simp only[aF];omega⟩
 have ad:=geB hk (by simpa using ad);subst ad;rw[Xag,<-aa]at I;simp only[go_sem,T,J,M,u,I,Xaa];refine⟨boo true,fun _=>BC.q rfl,?_⟩;simp only[go_sem];exact cB (by simp)
end Go.Proofs.YtohmomanmikphaaGreatDoor.Nu.Ps
end
section
namespace Go.Proofs.YtohmomanmikphaaGreatDoor
open Go.Aw Go.Aw.D
theorem inB_of{x:Instance}(h:Bo 1048576 x):InB x:=by
 obtain⟨⟨J,F⟩,E,u,M,O⟩:=h;exact⟨J.1,J.2,F.1,fun a T=>⟨(F.2 a T).2.2.2.2.1.1,(F.2 a T).2.2.2.2.2.1⟩,E.1,fun t I=>⟨(E.2 t I).1,(E.2 t I).2.2.2.2.1.1⟩,u.1,fun t I=>⟨(u.2 t I).1,(u.2 t I).2.1.1⟩,M.1,O.1⟩
theorem pricingFewer_holds:Rows.PricingFewerUptoCardSaid:=pricingFewer.card fun a k u _=>Nu.Ps.Z2 a k (inB_of u.1) u.2.2.2.1 fun d h=>u.2.2.1.2 d h
#print axioms pricingFewer_holds
end Go.Proofs.YtohmomanmikphaaGreatDoor
end
