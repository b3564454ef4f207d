import Derived.Test.YtohmomanmikphaaGreatDoorPl20
set_option linter.unusedSimpArgs false
set_option linter.unusedVariables false
set_option maxRecDepth 100000
section
namespace Go.Proofs.YtohmomanmikphaaGreatDoor.Nu
open Go.Proofs.Tryz(prog)
open Go.Aw Go.Aw.D Go.Proofs Ty Go.Nu
open Dec (pU eL fS)
def bS(x:Instance)(c:Column)(cuts:List Cut)(ds:List Decision)(dual:List ByteArray):ByteArray×Int:=
 if dual.length≠(lA x c cuts ds).length then(emp,2)else if(jD (lA x c cuts ds) dual).2≠0 then(emp,(jD (lA x c cuts ds) dual).2)else zT (zed c.price) (jD (lA x c cuts ds) dual).1
theorem EX{n:Int}(h0: -9223372036854775808<=n)(h1:n<=9223372036854775807):(zed n).size<=8194:=by
 have:=Go.Nu.cT (m:=n) (Jm (k:=20) (by omega) (by omega));omega
theorem Ke(b:Bool):Bj b=0\/Bj b=1:=by cases b <;> simp[Bj]
theorem Wh(k:Int)(n:Nat):wT k n=0\/wT k n=1:=by unfold wT;split <;> simp
theorem I0{x:Instance}{c:Column}{cuts:List Cut}{ds:List Decision}{n:Int}(h:n∈lA x c cuts ds):n=0\/n=1:=by
 unfold lA lV jL lT lR at h;simp only[Xbe,List.mem_map]at h;rcases h with((⟨i,_,rfl⟩|⟨i,_,rfl⟩)|⟨i,_,rfl⟩)|⟨i,_,rfl⟩
 . exact Ke _
 . exact Ke _
 . exact Wh _ _
 . exact Ke _
theorem PD(x:Instance)(c:Column)(cuts:List Cut)(ds:List Decision)(dual:List ByteArray)(h:MIn x cuts ds)(Z:ColB c)(M:CutsB cuts)(E: -9223372036854775808<=c.price/\c.price<=9223372036854775807)(hl:dual.length<=1048576)(hs:∀s∈dual,s.size<=1048576):
   PC prog 58 [.agg (aG x),.agg (aS c),.sl (cuts.map dS),.sl (ds.map aW),.sl (dual.map Go.Aw.D.fA)] (.tup [str (bS x c cuts ds dual).1,int (bS x c cuts ds dual).2]):=by
 refine pcd Tryz.func58 ?_;unfold Tryz.f58;simp only[gdS];simp only[go_sem];refine PC.use (abW x c cuts ds h Z M) ?_;have I:∀n∈lA x c cuts ds,-9223372036854775808<=n/\n<=9223372036854775807:=fun n hn=>by rcases I0 hn with e|e <;> omega
 unfold bS;generalize lA x c cuts ds=L at *;simp only[go_sem,Xaa];refine aA (fun u=>?_) (fun u=>?_)
 . rw[if_pos (by simp at u;omega)]
   simp only[go_sem];exact .refl _
 rw[if_neg (by simp at u;omega)];simp only[go_sem];refine PC.use (WI L dual I hl hs) ?_;have J:=DE (ns:=L) (xs:=dual);generalize jD L dual=T at *;obtain⟨t,e⟩:=T;simp only[go_sem];refine aA (fun u=>?_) (fun u=>?_)
 . have F:e≠0:=by simpa using u
   rw[if_pos F];simp only[go_sem];exact .refl _
 have F:e=0:=by simpa using u
 rw[if_neg (by simpa using F)];have O:=fB (J F);simp only[go_sem];refine PC.use (Ca c.price E.1 E.2) ?_;simp only[go_sem];have hz:=EX E.1 E.2;refine PC.use (yG (zed c.price) t (by omega) (by simp only at O;omega)) ?_;simp only[go_sem];exact .refl _
end Go.Proofs.YtohmomanmikphaaGreatDoor.Nu
end
section
namespace Go.Proofs.YtohmomanmikphaaGreatDoor.Nu
open Go.Proofs.Tryz(prog)
open Go.Aw Go.Aw.D Go.Proofs Ty Go.Nu
abbrev DK(f:Nat->Nat)(i:Nat)(r:PRow):List AV:=[.os (f i),int r.kind,int r.right]
abbrev Vt(f:Nat->Nat)(rows:List PRow):Row:=⟨200,3,rows.mapIdx (DK f)⟩
def K0(f:Nat->Nat)(k c:Nat):Nat->Nat:=fun i=>if i=k then c else f i
structure LinH(H:aH)(jr:Nat)(f:Nat->Nat)(rows:List PRow):Prop where
 row:H jr=some (Vt f rows)
 coef:∀(i:Nat) (r:PRow),rows[i]?=some r->H (f i)=some (qZ r.coef)
 inj:∀i k,i<rows.length->k<rows.length->f i=f k->i=k
theorem TG(f:Nat->Nat)(rows:List PRow)(c:Nat)(E u:Int):rows.mapIdx (DK f)++[[.os c,int E,int u]]=(rows++[(⟨[],E,u⟩:PRow)]).mapIdx (DK (K0 f rows.length c)):=by
 rw[List.mapIdx_append]
 congr 1
 . refine List.ext_getElem? fun i=>?_
   rw[List.getElem?_mapIdx,List.getElem?_mapIdx];cases h:rows[i]? with
   | none=>rfl
   | some r=>
     have F:=(List.getElem?_eq_some_iff.1 h).1;show some (DK f i r)=some (DK (K0 f rows.length c) i r);unfold DK K0;rw[if_neg (by omega)]
 . simp[DK,K0]
structure RowsS(H0 H:aH)(j:Nat)(f:Nat->Nat)(rows:List PRow):Prop where
 lin:LinH H j f rows
 keep:∀k row,H0 k=some row->H k=some row
 nj:H0 j=none
 nf:∀i,i<rows.length->H0 (f i)=none
theorem IJ{H0 H:aH}(h:∀k row,H0 k=some row->H k=some row){c:Nat}(u:H c=none):H0 c=none:=by
 cases e:H0 c with
 | none=>rfl
 | some row=>rw[h c row e]at u;cases u
theorem LinH.ne{H:aH}{j:Nat}{f:Nat->Nat}{rows:List PRow}(h:LinH H j f rows){i:Nat}(E:i<rows.length):f i≠j:=fun e=>by
 obtain⟨r,F⟩:=aN E;have h1:=h.coef i r F;rw[e,h.row]at h1;have u:(Vt f rows).e=(qZ r.coef).e:=congrArg Row.e (Option.some.inj h1);exact absurd (show(200:Nat)=3 from u) (by decide)
theorem LinH.new{H:aH}{j:Nat}{f:Nat->Nat}{rows:List PRow}(h:LinH H j f rows){i:Nat}(u:H i=none)(a:Option Row):LinH (aI H i a) j f rows:=by
 refine⟨?_,fun k r E=>?_,h.inj⟩
 . rw[aD _ _ _ _ (fun e=>by subst e;rw[h.row]at u;cases u)];exact h.row
 . have:=h.coef k r E
   rw[aD _ _ _ _ (fun e=>by rw[e,u]at this;cases this)];exact this
theorem RowsS.new{H0 H:aH}{j:Nat}{f:Nat->Nat}{rows:List PRow}(h:RowsS H0 H j f rows){i:Nat}(u:H i=none)(a b:Option Row):RowsS H0 (aI (aI H i a) i b) j f rows:=by
 have e:aI (aI H i a) i b=aI H i b:=by
   funext k;by_cases e:k=i
   . subst e;rw[aB,aB]
   . rw[aD _ _ _ _ e,aD _ _ _ _ e,aD _ _ _ _ e]
 rw[e];refine⟨h.lin.new u b,fun k row E=>?_,h.nj,h.nf⟩;have:=h.keep k row E;rw[aD _ _ _ _ (fun e=>by subst e;rw[u]at this;cases this)];exact this
theorem RowsS.app{H0 H:aH}{j:Nat}{f:Nat->Nat}{rows:List PRow}(h:RowsS H0 H j f rows){c j':Nat}(T:H c=none)(I:aI H c (some (qZ [])) j'=none)(kd rt:Int):
   RowsS H0 (aI (aI (aI H c (some (qZ []))) j none) j' (some ⟨200,3,rows.mapIdx (DK f)++[[.os c,int kd,int rt]]⟩)) j' (K0 f rows.length c) (rows++[⟨[],kd,rt⟩]):=by
 have ab:c≠j':=fun e=>by subst e;rw[aB]at I;cases I
 have J:H j'=none:=by rwa [aD _ _ _ _ ab.symm]at I
 have ac:c≠j:=fun e=>by subst e;rw[h.lin.row]at T;cases T
 refine⟨⟨?_,fun i r O=>?_,fun i k M Z u=>?_⟩,fun k row Z=>?_,IJ h.keep J,fun i M=>?_⟩
 . rw[aB,TG]
 . unfold K0
   by_cases e:i=rows.length
   . subst e
     rw[if_pos rfl,aD _ _ _ _ ab,aD _ _ _ _ ac,aB];have:r=⟨[],kd,rt⟩:=by simpa using O.symm
     rw[this]
   . have aa:i<rows.length:=by have:=(List.getElem?_eq_some_iff.1 O).1;rw[Xac]at this;simp at this;omega
     rw[if_neg e];rw[List.getElem?_append_left aa]at O;have E:=h.lin.coef i r O;rw[aD _ _ _ _ (fun e=>by rw[e,J]at E;cases E),aD _ _ _ _ (h.lin.ne aa),aD _ _ _ _ (fun e=>by rw[e,T]at E;cases E)];exact E
 . have F : ∀ i, i < rows.length -> f i ≠ c := fun i M e => by
     obtain⟨r,O⟩:=aN M;have:=h.lin.coef i r O;rw[e,T]at this;cases this
   rw[Xac]at M Z;simp at M Z;unfold K0 at u;by_cases e1:i=rows.length
   . by_cases e2:k=rows.length
     . omega
     . rw[if_pos e1,if_neg e2]at u
       exact absurd u.symm (F k (by omega))
   . by_cases e2:k=rows.length
     . rw[if_neg e1,if_pos e2]at u
       exact absurd u (F i (by omega))
     . rw[if_neg e1,if_neg e2]at u
       exact h.lin.inj i k (by omega) (by omega) u
 . have E:=h.keep k row Z
   rw[aD _ _ _ _ (fun e=>by rw[e,J]at E;cases E),aD _ _ _ _ (fun e=>by rw[e,h.nj]at Z;cases Z),aD _ _ _ _ (fun e=>by rw[e,T]at E;cases E)];exact E
 . unfold K0
   by_cases e:i=rows.length
   . rw[if_pos e];exact IJ h.keep T
   . rw[if_neg e]
     rw[Xac]at M;simp at M;exact h.nf i (by omega)
def MI(d:Decision):Option PRow:=if d.kind=3 then some ⟨[],1,d.n⟩else if d.kind=4 then some ⟨[],3,d.n⟩else none
def DO(k:Nat):List PRow:=List.replicate k ⟨[],2,1⟩
def wQ(l:List VType):List PRow:=l.map fun t=>⟨[],1,t.count⟩
def wP(l:List Cut):List PRow:=l.map fun q=>⟨[],(Jb q).1,(Jb q).2⟩
def sV(l:List Decision):List PRow:=l.filterMap MI
def zY(x:Instance)(cuts:List Cut)(ds:List Decision):List PRow:=DO (uE x).length++wQ x.types++wP cuts++sV ds
theorem G5(ds:List Decision):(sV ds).length=(ds.filter BN).length:=by
 unfold sV;induction ds with
 | nil=>rfl
 | cons d l ih=>
   rw[List.filterMap_cons,List.filter_cons];by_cases u:d.kind=3
   . rw[show MI d=some ⟨[],1,d.n⟩from if_pos u,if_pos (show BN d=true by simp[BN,u])]
     try simp only[Xad,ih]
   . by_cases E:d.kind=4
     . rw[show MI d=some ⟨[],3,d.n⟩from(if_neg u).trans (if_pos E),if_pos (show BN d=true by simp[BN,E])]
       try simp only[Xad,ih]
     . rw[show MI d=none from(if_neg u).trans (if_neg E),if_neg (show ¬BN d=true by simp[BN,u,E])]
       try exact ih
theorem Ur(x:Instance)(cuts:List Cut)(ds:List Decision):(zY x cuts ds).length=SV x cuts ds:=by
 unfold zY DO wQ wP SV;simp only[Xac,Xaa,List.length_replicate,G5]
theorem F4{ds:List Decision}{k:Nat}{d:Decision}(h:ds[k]?=some d):sV (ds.take (k+1))=sV (ds.take k)++(MI d).toList:=by
 unfold sV;rw[bP h,List.filterMap_append]
 congr 1
theorem ZQ(x:Instance)(cuts:List Cut)(ds:List Decision)(h:MIn x cuts ds)(H0:aH)(K:AV->aH->Prop)(hK:∀j f Hn,RowsS H0 Hn j f (zY x cuts ds)->K (.os j) Hn):
   bA prog 95 [.agg (aG x),.sl (cuts.map dS),.sl (ds.map aW)] H0 K:=by
 have h1:=h.orders;have h2:=h.types;have h3:=h.cl;have h4:=h.dl;have ao:=FK x;refine bA.body (c:=Tryz.f95.body.getD .skip) (fun t=>t == 7||t == 23||t == 37||t == 55||t == 72||t == 80) mixed Tryz.func95 rfl (by kernel_rfl) ?_;unfold Tryz.f95;simp only[gdS];simp only[go_sem];refine aK fun j hj=>?_
 have S:RowsS H0 (aI H0 j (some ⟨200,3,[]⟩)) j id []:=by
   refine⟨⟨aB _ _ _,fun i r hr=>(by simp at hr),fun i k hi=>absurd hi (by simp)⟩,fun k row hk=>?_,hj,fun i hi=>absurd hi (by simp)⟩;rw[aD _ _ _ _ (fun e=>by subst e;rw[hj]at hk;cases hk)];exact hk
 generalize aI H0 j _=H1 at S |-;simp only[go_sem];refine PC.use (afS x h1) ?_;simp only[go_sem];refine PC.use (mX _) ?_;rw[RY x h1];simp only[go_sem,Xaa];refine⟨fun ρ H=>∃(k:Nat) (j:Nat) (f:Nat->Nat),k<=(uE x).length/\ρ 1=.sl (cuts.map dS)/\ρ 2=.sl (ds.map aW)/\ρ 3=.rp (aG x) 0/\ρ 19=int ((uE x).length:Nat)/\ρ 20=int k/\ρ 7=.os j/\RowsS H0 H j f (DO k),fun ρ _=>(uE x).length-aT (ρ 20),⟨0,j,id,Xab _,by simp only[go_sem],by simp only[go_sem],by simp only[go_sem],by simp only[go_sem,Xaa],(by simp only[go_sem];rfl),by simp only[go_sem],S⟩,?_⟩;rintro ρ H ⟨k,j,f,hk,e1,I,e3,ah,ag,E,S⟩;simp only[go_sem,e1,I,e3,ah,ag,E];refine aA (fun u=>?_) (fun F=>?_)
 . have u:=ltB (by simpa using u)
   simp only[go_sem,e1,I,e3,ah,ag,E];refine aK fun c hc=>?_
   have R:=(S.lin.new hc (some (qZ []))).row;refine aX R ⟨rfl,rfl⟩ ⟨rfl,trivial⟩ (by simp only[List.length_mapIdx,DO,List.length_replicate,Xad,List.length_nil];omega) (fun j' T=>?_);have S2:=S.app hc T 2 1;have e:DO (k+1)=DO k++[⟨[],2,1⟩]:=List.replicate_succ';rw[<-e]at S2;simp only[go_sem,e1,I,e3,ah,ag,E,aP (show k<=4611686018427387904 by omega)];exact⟨⟨k+1,j',_,u,rfl,rfl,S2⟩,by simp only[aE];omega⟩
 have F:=geB hk (by simpa using F);subst F;simp only[go_sem,e1,I,e3,ah,ag,E,Xaa];generalize hB:DO (uE x).length=B at S;have an:B.length<=62:=by rw[<-hB];unfold DO;rw[List.length_replicate];omega
 refine⟨fun ρ H=>∃(k:Nat) (j:Nat) (f:Nat->Nat),k<=x.types.length/\ρ 1=.sl (cuts.map dS)/\ρ 2=.sl (ds.map aW)/\ρ 28=.sl (x.types.map bC)/\ρ 29=int (x.types.length:Nat)/\ρ 30=int k/\ρ 7=.os j/\RowsS H0 H j f (B++wQ (x.types.take k)),fun ρ _=>x.types.length-aT (ρ 30),⟨0,j,f,Xab _,by simp only[go_sem,e1,I],by simp only[go_sem,e1,I],by simp only[go_sem,e1,I],by simp only[go_sem,Xaa,e1,I],(by simp only[go_sem,e1,I];rfl),by simp only[go_sem,E],by simpa[wQ]using S⟩,?_⟩;rintro ρ H ⟨k,j,f,hk,e1,I,ad,af,ae,E,S⟩;simp only[go_sem,e1,I,ad,af,ae,E];refine aA (fun u=>?_) (fun F=>?_)
 . have u:=ltB (by simpa using u)
   obtain⟨t,ht⟩:=aN u;have b1:=inB u;have ai:(B++wQ (x.types.take k)).length<=62+k:=by unfold wQ;simp only[Xac,Xaa,Xal];omega
   simp only[go_sem,e1,I,ad,af,ae,E,aF ht,b1];refine aK fun i9 h9=>?_
   simp only[go_sem,e1,I,ad,af,ae,E];refine aJ (aB _ _ _) (by simp[jZ]) ?_;have Z:=S.new h9;generalize hG:aI (aI H i9 _) i9 _=HG;replace Z:RowsS H0 HG j f (B++wQ (x.types.take k)):=by rw[<-hG];exact Z _ _
   have R9:HG i9=some (⟨113,14,[bC t]⟩:Row):=by rw[<-hG,aB];rfl
   clear hG h9;simp only[go_sem,e1,I,ad,af,ae,E,R9];refine aK fun c hc=>?_
   have R:=(Z.lin.new hc (some (qZ []))).row;refine aX R ⟨rfl,rfl⟩ ⟨rfl,trivial⟩ (by simp only[List.length_mapIdx,Xad,List.length_nil];omega) (fun j' T=>?_);have S2:=Z.app hc T 1 t.count;have e:B++wQ (x.types.take (k+1))=B++wQ (x.types.take k)++[⟨[],1,t.count⟩]:=by unfold wQ;rw[bP ht,Xam,Xai];rfl
   rw[<-e]at S2;simp only[go_sem,e1,I,ad,af,ae,E,aP (show k<=4611686018427387904 by omega)];exact⟨⟨k+1,j',_,u,rfl,rfl,S2⟩,by simp only[aE];omega⟩
 have F:=geB hk (by simpa using F);subst F;rw[Xag]at S;simp only[go_sem,e1,I,ad,af,ae,E,Xaa];generalize aj:B++wQ x.types=B2 at S;have al:B2.length<=62+1048576:=by rw[<-aj];unfold wQ;rw[Xac,Xaa];omega
 refine⟨fun ρ H=>∃(k:Nat) (j:Nat) (f:Nat->Nat),k<=cuts.length/\ρ 2=.sl (ds.map aW)/\ρ 41=.sl (cuts.map dS)/\ρ 42=int (cuts.length:Nat)/\ρ 43=int k/\ρ 7=.os j/\RowsS H0 H j f (B2++wP (cuts.take k)),fun ρ _=>cuts.length-aT (ρ 43),⟨0,j,f,Xab _,by simp only[go_sem,I],by simp only[go_sem,I],by simp only[go_sem,Xaa,I],(by simp only[go_sem,I];rfl),by simp only[go_sem,E],by simpa[wP]using S⟩,?_⟩;rintro ρ H ⟨k,j,f,hk,I,aa,ab,ac,E,S⟩;simp only[go_sem,I,aa,ab,ac,E];refine aA (fun u=>?_) (fun F=>?_)
 . have u:=ltB (by simpa using u)
   obtain⟨q,hq⟩:=aN u;have b1:=inB u;have ai:(B2++wP (cuts.take k)).length<=62+1048576+k:=by unfold wP;simp only[Xac,Xaa,Xal];omega
   simp only[go_sem,I,aa,ab,ac,E,aF hq,b1];refine aK fun i9 h9=>?_
   simp only[go_sem,I,aa,ab,ac,E];refine aJ (aB _ _ _) (by simp[wC]) ?_;have Z:=S.new h9;generalize hG:aI (aI H i9 _) i9 _=HG;replace Z:RowsS H0 HG j f (B2++wP (cuts.take k)):=by rw[<-hG];exact Z _ _
   have R9:HG i9=some (⟨115,3,[dS q]⟩:Row):=by rw[<-hG,aB];rfl
   clear hG h9;simp only[go_sem,I,aa,ab,ac,E,R9];refine PC.use (anR q) ?_;simp only[go_sem,I,aa,ab,ac,E];refine aK fun c hc=>?_
   have R:=(Z.lin.new hc (some (qZ []))).row;refine aX R ⟨rfl,rfl⟩ ⟨rfl,trivial⟩ (by simp only[List.length_mapIdx,Xad,List.length_nil];omega) (fun j' T=>?_);have S2:=Z.app hc T (Jb q).1 (Jb q).2;have e:B2++wP (cuts.take (k+1))=B2++wP (cuts.take k)++[⟨[],(Jb q).1,(Jb q).2⟩]:=by unfold wP;rw[bP hq,Xam,Xai];rfl
   rw[<-e]at S2;simp only[go_sem,I,aa,ab,ac,E,aP (show k<=4611686018427387904 by omega)];exact⟨⟨k+1,j',_,u,rfl,rfl,S2⟩,by simp only[aE];omega⟩
 have F:=geB hk (by simpa using F);subst F;rw[Xag]at S;simp only[go_sem,I,aa,ab,ac,E,Xaa];generalize ak:B2++wP cuts=B3 at S;have am:B3.length<=62+1048576+1048576:=by rw[<-ak];unfold wP;rw[Xac,Xaa];omega
 refine⟨fun ρ H=>∃(k:Nat) (j:Nat) (f:Nat->Nat),k<=ds.length/\ρ 59=.sl (ds.map aW)/\ρ 60=int (ds.length:Nat)/\ρ 61=int k/\ρ 7=.os j/\RowsS H0 H j f (B3++sV (ds.take k)),fun ρ _=>ds.length-aT (ρ 61),⟨0,j,f,Xab _,by simp only[go_sem],by simp only[go_sem,Xaa],(by simp only[go_sem];rfl),by simp only[go_sem,E],by simpa[sV]using S⟩,?_⟩;rintro ρ H ⟨k,j,f,hk,O,M,J,E,S⟩;simp only[go_sem,O,M,J,E];refine aA (fun u=>?_) (fun F=>?_)
 . have u:=ltB (by simpa using u)
   obtain⟨d,hd⟩:=aN u;have b1:=inB u;have hs:=F4 hd;have ai:(B3++sV (ds.take k)).length<=62+1048576+1048576+k:=by
     have:=FJ ds k;rw[Xac,G5];omega
   simp only[go_sem,O,M,J,E,aF hd,b1];refine aK fun i9 h9=>?_
   simp only[go_sem,O,M,J,E];refine aJ (aB _ _ _) (by simp[kI]) ?_;have Z:=S.new h9;generalize hG:aI (aI H i9 _) i9 _=HG;replace Z:RowsS H0 HG j f (B3++sV (ds.take k)):=by rw[<-hG];exact Z _ _
   have R9:HG i9=some (⟨95,4,[aW d]⟩:Row):=by rw[<-hG,aB];rfl
   clear hG h9;simp only[go_sem,O,M,J,E,R9];refine aA (fun hb=>?_) (fun hb=>?_)
   . have h3:d.kind=3:=by simpa using hb
     rw[show MI d=some ⟨[],1,d.n⟩from if_pos h3]at hs;simp only[go_sem,O,M,J,E,R9];refine aK fun c hc=>?_
     have R:=(Z.lin.new hc (some (qZ []))).row;refine aX R ⟨rfl,rfl⟩ ⟨rfl,trivial⟩ (by simp only[List.length_mapIdx,Xad,List.length_nil];omega) (fun j' T=>?_);have S2:=Z.app hc T 1 d.n;have e:B3++sV (ds.take (k+1))=B3++sV (ds.take k)++[⟨[],1,d.n⟩]:=by rw[hs,Xai];rfl
     rw[<-e]at S2;simp only[go_sem,O,M,J,E,aP (show k<=4611686018427387904 by omega)];exact⟨⟨k+1,j',_,u,rfl,rfl,S2⟩,by simp only[aE];omega⟩
   have h3:d.kind≠3:=by simpa using hb
   simp only[go_sem,O,M,J,E,R9];refine aA (fun hb=>?_) (fun hb=>?_)
   . have h4:d.kind=4:=by simpa using hb
     rw[show MI d=some ⟨[],3,d.n⟩from(if_neg h3).trans (if_pos h4)]at hs;simp only[go_sem,O,M,J,E,R9];refine aK fun c hc=>?_
     have R:=(Z.lin.new hc (some (qZ []))).row;refine aX R ⟨rfl,rfl⟩ ⟨rfl,trivial⟩ (by simp only[List.length_mapIdx,Xad,List.length_nil];omega) (fun j' T=>?_);have S2:=Z.app hc T 3 d.n;have e:B3++sV (ds.take (k+1))=B3++sV (ds.take k)++[⟨[],3,d.n⟩]:=by rw[hs,Xai];rfl
     rw[<-e]at S2;simp only[go_sem,O,M,J,E,aP (show k<=4611686018427387904 by omega)];exact⟨⟨k+1,j',_,u,rfl,rfl,S2⟩,by simp only[aE];omega⟩
   have h4:d.kind≠4:=by simpa using hb
   rw[show MI d=none from(if_neg h3).trans (if_neg h4)]at hs;simp only[go_sem,O,M,J,E,aP (show k<=4611686018427387904 by omega)];refine⟨⟨k+1,j,f,u,rfl,rfl,?_⟩,by simp only[aE];omega⟩;rw[hs];simpa using Z
 have F:=geB hk (by simpa using F);subst F;rw[Xag]at S;simp only[go_sem,O,M,J,E];refine hK j f _ ?_;unfold zY;rw[hB,aj,ak];exact S
theorem Zu(x:Instance)(cuts:List Cut)(ds:List Decision)(h:MIn x cuts ds):PC prog 57 [.agg (aG x),.sl (cuts.map dS),.sl (ds.map aW)] (int (SV x cuts ds:Nat)):=by
 refine pcd Tryz.func57 ?_;unfold Tryz.f57;simp only[gdS];simp only[go_sem];refine ZQ x cuts ds h _ _ fun j f u S=>?_
 simp only[go_sem,S.lin.row,List.length_mapIdx,Ur];exact .refl _
def SY(r:PRow)(n:Int):PRow:=⟨r.coef++[n],r.kind,r.right⟩
def HC(rows:List PRow)(col:List Int):Nat->List PRow
 | 0=>rows
 | k+1=>(HC rows col k).set k (SY (rows.getD k ⟨[],0,0⟩) (col.getD k 0))
theorem zB(rows:List PRow)(u:List Int):∀k,(HC rows u k).length=rows.length
 | 0=>rfl
 | k+1=>by rw[HC,Xbh,zB rows u k]
theorem HJ(rows:List PRow)(u:List Int):∀k i,(HC rows u k)[i]?=if i<k then(rows[i]?).map (fun r=>SY r (u.getD i 0))else rows[i]?
 | 0,i=>by rw[if_neg (by omega)];rfl
 | k+1,i=>by
   rw[HC,List.getElem?_set,zB];by_cases e:k=i
   . subst e
     rw[if_pos rfl,if_pos (show k<k+1 by omega)];by_cases E:k<rows.length
     . rw[if_pos E,List.getD,List.getElem?_eq_getElem E];rfl
     . rw[if_neg E,List.getElem?_eq_none (show rows.length<=k by omega)];rfl
   . rw[if_neg e,HJ rows u k i]
     by_cases F:i<k
     . rw[if_pos F,if_pos (by omega)]
     . rw[if_neg F,if_neg (by omega)]
end Go.Proofs.YtohmomanmikphaaGreatDoor.Nu
end
section
namespace Go.Proofs.YtohmomanmikphaaGreatDoor.Nu
open Go.Aw Go.Aw.D Go.Proofs Ty Go.Nu
def dW(n N:Int):Bool:=decide (n<0)||decide (n>=N)
def dF:Score:=⟨0,0,0,0⟩
def aiR(s:Score):Int:=IntKind.i64.wrap (IntKind.i64.wrap (IntKind.i64.wrap (IntKind.i64.wrap (IntKind.i64.wrap (IntKind.i64.wrap (s.cost*16)+s.moved)*16)+s.other)*65536)+s.work)
def vN(s:Score):Int×Int:=if(decide (s.cost<0)||decide (s.moved<0)||decide (s.other<0)||decide (s.work<0))=true then(0,2)
 else if(decide (s.cost>1073741824)||decide (s.moved>=16)||decide (s.other>=16)||decide (s.work>=65536))=true then(0,4)else(aiR s,0)
end Go.Proofs.YtohmomanmikphaaGreatDoor.Nu
end
section
namespace Go.Proofs.YtohmomanmikphaaGreatDoor.Nu
open Go.Aw Go.Aw.D Go.Proofs Ty Go.Nu
open Dec (pU eL fS)
def zF(p:List Int×List PRow)(cost:Int)(col:List Int):List Int×List PRow:=(p.1++[cost],HC p.2 col col.length)
theorem DH(p:List Int×List PRow)(cost:Int)(u:List Int):(zF p cost u).2.length=p.2.length/\(zF p cost u).1.length=p.1.length+1:=by
 unfold zF;exact⟨zB _ _ _,by simp⟩
def Sz(p:List Int×List PRow)(n k:Nat):Prop:=p.1.length=k/\p.2.length=n/\∀r∈p.2,r.coef.length=k
theorem Sz.add{p:List Int×List PRow}{n k:Nat}(h:Sz p n k)(cost:Int){u:List Int}(O:u.length=n):Sz (zF p cost u) n (k+1):=by
 obtain⟨h1,I,J⟩:=h;refine⟨by rw[(DH p cost u).2,h1],by rw[(DH p cost u).1,I],fun r M=>?_⟩;obtain⟨i,F,rfl⟩:=List.getElem_of_mem M;have E:=List.getElem?_eq_getElem F;unfold zF at E F;rw[HJ]at E;rw[zB]at F;rw[if_pos (by omega),List.getElem?_eq_getElem (by omega)]at E;have:(zF p cost u).2[i]=SY (p.2[i]'(by omega)) (u.getD i 0):=(Option.some.inj E).symm;rw[this];unfold SY;rw[Xac,J _ (List.getElem_mem _)];rfl
theorem AJ{x:Instance}{d:Nat}{q:Cut}(h:qY x d q=0):0<=q.set:=by
 unfold qY vT at h;refine Decidable.byContradiction fun u=>?_
 rw[decide_eq_false (show ¬q.set>=0 by omega)]at h;simp at h;split at h
 . cases h
 . split at h
   . cases h
   . cases h
end Go.Proofs.YtohmomanmikphaaGreatDoor.Nu
end
section
namespace Go.Proofs.YtohmomanmikphaaGreatDoor.Nu
open Go.Aw Go.Aw.D Go.Proofs Ty Go.Nu
def Yy(n:Int):Prop:= -9223372036854775808<=n/\n<=9223372036854775807
structure LinB(p:PLin):Prop where
 rows:p.rows.length<=1048576
 cost:p.cost.length<=1048576
 coef:∀r∈p.rows,∀n∈r.coef,Yy n
 right:∀r∈p.rows,Yy r.right
structure VarB(v:List ByteArray):Prop where
 len:v.length<=1048576
 size:∀s∈v,s.size<=1048576
end Go.Proofs.YtohmomanmikphaaGreatDoor.Nu
end
section
namespace Go.Proofs.YtohmomanmikphaaGreatDoor.Nu
open Go.Aw Go.Aw.D Go.Proofs Ty Go.Nu
open Dec (pU eL fS)
def is0(s:ByteArray):Bool:=bl s == [48]
def is1(s:ByteArray):Bool:=bl s == [49]
def QN(s:ByteArray):Bool:= !is0 s&& !is1 s
structure RightB(x:Instance)(cuts:List Cut)(ds:List Decision):Prop where
 types:∀t∈x.types,Yy t.count
 cuts:∀q∈cuts,Yy q.n
 ds:∀d∈ds,Yy d.n
abbrev ordR(o:Order):Row:=⟨111,16,[bE o]⟩
abbrev typR(t:VType):Row:=⟨113,14,[bC t]⟩
abbrev insR(x:Instance):Row:=⟨30,6,[aG x]⟩
end Go.Proofs.YtohmomanmikphaaGreatDoor.Nu
end
section
namespace Go.Proofs.YtohmomanmikphaaGreatDoor.Nu
open Go.Proofs.Tryz(prog)
open Go.Aw Go.Aw.D Go.Proofs Ty Go.Nu
open Dec (pU eL fS)
theorem DQ(x:Instance)(c:Column)(cuts:List Cut)(ds:List Decision)(dual:List ByteArray)(h:MIn x cuts ds)(hc:ColB c)(Z:CutsB cuts)(F: -9223372036854775808<=c.price/\c.price<=9223372036854775807)(hl:dual.length<=1048576)(hs:∀s∈dual,s.size<=1048576):
   PC prog 18 [.agg (aG x),.agg (aS c),.sl (cuts.map dS),.sl (ds.map aW),.sl (dual.map Go.Aw.D.fA)] (.tup [str (bS x c cuts ds dual).1,int (bS x c cuts ds dual).2]):=by
 refine pcd Tryz.func18 ?_;unfold Tryz.f18;simp only[gdS];simp only[go_sem];have J:∀n∈lA x c cuts ds,-9223372036854775808<=n/\n<=9223372036854775807:=fun n hn=>by rcases I0 hn with e|e <;> omega
 refine PC.use (UX x c cuts ds h hc Z) ?_;have E:bS x c cuts ds dual=if(jD (lA x c cuts ds) dual).2≠0 then(emp,(jD (lA x c cuts ds) dual).2)else zT (zed c.price) (jD (lA x c cuts ds) dual).1:=by
   unfold bS;by_cases u:dual.length≠(lA x c cuts ds).length
   . rw[if_pos u]
     have:jD (lA x c cuts ds) dual=(emp,2):=by unfold jD;rw[if_pos (Ne.symm u)]
     rw[this,if_pos (by decide)]
   . rw[if_neg u]
 rw[E];generalize lA x c cuts ds=L at *;simp only[go_sem];refine PC.use (Xr L dual J hl hs) ?_;have M:=DE (ns:=L) (xs:=dual);generalize jD L dual=T at *;obtain⟨t,e⟩:=T;simp only[go_sem];refine aA (fun O=>?_) (fun O=>?_)
 . have I:e≠0:=by simpa using O
   rw[if_pos I];simp only[go_sem];exact .refl _
 have I:e=0:=by simpa using O
 rw[if_neg (by simpa using I)];have h8:=fB (M I);simp only[go_sem];refine PC.use (Ry c.price F.1 F.2) ?_;simp only[go_sem];have hz:=EX F.1 F.2;refine PC.use (Xw (zed c.price) t (by omega) (by simp only at h8;omega)) ?_;simp only[go_sem];exact .refl _
end Go.Proofs.YtohmomanmikphaaGreatDoor.Nu
end
section
namespace Go.Proofs.YtohmomanmikphaaGreatDoor.Nu.Ps
open Go.Proofs.Tryz(prog)
open Go.Aw Go.Aw.D Go.Proofs Ty Go.Nu Go.So
open Dec (pU eL fS)
open Sq (EvalB BestQ rL mC dQ afI Lo)
structure PrOk(x:Instance)(d:Nat):Prop where
 ev:EvalB x
 n8:x.orders.length<=8
 ty:x.types.length<=1000
 lo:LoadsOk x d
 ne:x.types≠[]
def inD(ds:List Decision)(c:Column):Bool:=ds.all fun d=>fS d c.set
theorem Oi(ds:List Decision)(c:Column)(u:ds.length<=1048576):PC prog 38 [.agg (aS c),.rp [.sl (ds.map aW)] 0] (boo (!inD ds c)):=by
 refine pcd Tryz.func38 ?_;unfold Tryz.f38;simp only[gdS];simp only[go_sem];refine PC.use (Dec.VP ds c u) ?_;simp only[go_sem];exact .refl _
def cG(x:Instance)(ds:List Decision):List Column×Int:=if(pU x ds != 0)=true then([],pU x ds)else((rL x).filter (inD ds),0)
theorem C1(x:Instance)(d:Nat)(ds:List Decision)(h:PrOk x d)(T:ds.length<=1048576):
   NC prog 16 [.agg (aG x),.sl (ds.map aW)] (dQ (cG x ds).1) (fun j=>.tup [.os j,int (cG x ds).2]):=by
 refine ncb (fun t=>t == 4) Tryz.func16 ?_;unfold Tryz.f16;simp only[gdS];simp only[go_sem];unfold cG;refine aK fun j F=>?_
 generalize u:aI _ j _=HGj;have R:HGj j=some (dQ []):=by rw[<-u,aB];try rfl
 clear u F;simp only[go_sem,R];refine PC.use (Dec.afL x ds T) ?_;simp only[go_sem];refine aA (fun J=>?_) (fun J=>?_)
 . rw[if_pos J]
   simp only[go_sem];refine aK fun j F=>?_
   generalize u:aI _ j _=HGj;have R:HGj j=some (dQ []):=by rw[<-u,aB];try rfl
   clear u F;simp only[go_sem,R];exact⟨j,rfl,R⟩
 rw[if_neg (by rw[J];simp)];simp only[go_sem];refine NC.use (afI x h.ev h.n8 h.ty) fun M ac=>?_
 have R1:aI HGj M (some (dQ (rL x))) M=some (dQ (rL x)):=aB _ _ _;generalize aI HGj M (some (dQ (rL x)))=H1 at *;have E:=Sq.uB x x.types.length;have Z:2^x.orders.length<=256:=Xaj (Xat (by decide) h.n8) (by decide);have O:x.types.length*2^x.orders.length<=256000:=Xaj (Nat.mul_le_mul h.ty Z) (by decide);have E:(rL x).length<=256000:=Xaj E O;have I:aC prog 38=true:=by kernel_rfl
 simp only[go_sem];refine aA (fun J=>(by cases J)) (fun _=>?_);simp only[go_sem,I];refine Lo (p:=fun c=> !inD ds c) (cap':=[.rp [.sl (ds.map aW)] 0]) (rL x) _ M R1 (by omega) I (fun v _=>Oi ds v T) (fun H' h'=>ConvL.refl _) fun j2 H2 aa ab R2=>?_
 simp only[go_sem];refine⟨j2,rfl,?_⟩;rw[R2];simp only[Bool.not_not]
def nN(x:Instance)(d:Nat)(cuts:List Cut)(ds:List Decision)(dual:List ByteArray):Int:=
 if(pU x ds != 0)=true then pU x ds
 else if Dec.fJ (cuts.map (qY x d))≠0 then Dec.fJ (cuts.map (qY x d))
 else if((dual.length:Int) != (SV x cuts ds:Nat))=true then 2 else 0
theorem xF{x:Instance}{d:Nat}{cuts:List Cut}{ds:List Decision}{dual:List ByteArray}(h:nN x d cuts ds dual=0):∀q∈cuts,qY x d q=0:=by
 unfold nN at h;split at h
 next u=>rw[h]at u;cases u
 split at h
 next u=>exact absurd h u
 next u=>exact fun q E=>Dec.tT (Decidable.not_not.1 u) _ (List.mem_map.2 ⟨q,E,rfl⟩)
theorem MA(x:Instance)(d:Nat)(cuts:List Cut)(ds:List Decision)(dual:List ByteArray)(h:PrOk x d)(hm:MIn x cuts ds):
   PC prog 25 [.agg (aG x),.sl (cuts.map dS),.sl (ds.map aW),.sl (dual.map Go.Aw.D.fA)] (int (nN x d cuts ds dual)):=by
 have h3:=hm.cl;have h4:=hm.dl;unfold nN;refine pcd Tryz.func25 ?_;unfold Tryz.f25;simp only[gdS];simp only[go_sem];refine PC.use (Dec.afL x ds h4) ?_;simp only[go_sem];refine aA (fun I=>?_) (fun I=>?_)
 . rw[if_pos I]
   simp only[go_sem];exact .refl _
 rw[if_neg (by rw[I];simp)];simp only[go_sem,Xaa];refine⟨fun ρ H=>∃(k:Nat),k<=cuts.length/\ρ 1=.sl (cuts.map dS)/\ρ 2=.sl (ds.map aW)/\ρ 3=.sl (dual.map Go.Aw.D.fA)/\ρ 4=.rp (aG x) 0/\ρ 19=.sl (cuts.map dS)/\ρ 20=int (cuts.length:Nat)/\ρ 21=int k/\(∀e∈(cuts.map (qY x d)).take k,e=0),fun ρ _=>cuts.length-aT (ρ 21),⟨0,Xab _,by simp only[go_sem],by simp only[go_sem],by simp only[go_sem],by simp only[go_sem],by simp only[go_sem],by simp only[go_sem,Xaa],(by simp only[go_sem];rfl),by simp⟩,?_⟩;rintro ρ H ⟨k,hk,e1,Z,T,O,E,u,F,hz⟩;simp only[go_sem,e1,Z,T,O,E,u,F];refine aA (fun J=>?_) (fun ac=>?_)
 . have J:=ltB (by simpa using J)
   obtain⟨q,hq⟩:=aN J;have b1:=inB J;have ad:(cuts.map (qY x d))[k]?=some (qY x d q):=by rw[List.getElem?_map,hq];rfl
   simp only[go_sem,e1,Z,T,O,E,u,F,aF hq,b1];refine aK fun aa ab=>?_
   simp only[go_sem,e1,Z,T,O,E,u,F];refine aJ (aB _ _ _) (by simp[wC]) ?_;generalize M:aI (aI _ aa _) aa _=HGi11;have ae:HGi11 aa=some (⟨115,3,[dS q]⟩):=by rw[<-M,aB];try rfl
   clear M ab;simp only[go_sem,e1,Z,T,O,E,u,F,ae];refine PC.use (YR x d q h.lo h.ne) ?_;simp only[go_sem,e1,Z,T,O,E,u,F];refine aA (fun I=>?_) (fun I=>?_)
   . have he:=Dec.vV hz ad I
     rw[if_pos (by rw[he];simpa using I),he];simp only[go_sem];exact .refl _
   . simp only[go_sem,e1,Z,T,O,E,u,F,aP (show k<=4611686018427387904 by omega)]
     exact⟨⟨k+1,J,rfl,iS (p:=fun e:Int=>e=0) ad (by simpa using I) hz⟩,by simp only[aE];omega⟩
 have ac:=geB hk (by simpa using ac);subst ac;rw[Xan (by rw[Xaa];exact Xaf _)]at hz;rw[if_neg (by rw[Dec.tO hz];simp)];simp only[go_sem,e1,Z,T,O,E,u,F,Xaa];refine PC.use (Zu x cuts ds hm) ?_;simp only[go_sem,e1,Z,T,O,E,u,F,Xaa];refine aA (fun I=>?_) (fun I=>?_)
 . rw[if_pos I]
   simp only[go_sem];exact .refl _
 . rw[if_neg (by rw[I];simp)]
   simp only[go_sem];exact .refl _
end Go.Proofs.YtohmomanmikphaaGreatDoor.Nu.Ps
end
section
namespace Go.Proofs.YtohmomanmikphaaGreatDoor.Nu.Ps
open Go.Proofs.Tryz(prog)
open Go.Aw Go.Aw.D Go.Proofs Ty Go.Nu Go.So
open Dec (pU eL fS)
open Sq (EvalB BestQ rL mC dQ gM)
theorem Xh(x:Instance)(r:Route): -9223372036854775808<=(gM x r).1/\(gM x r).1<=9223372036854775807:=by
 unfold gM;split
 . show -9223372036854775808<=(0:Int)/\(0:Int)<=9223372036854775807
   omega
 . unfold Sq.vN
   split
   . exact⟨by decide,by decide⟩
   . split
     . exact⟨by decide,by decide⟩
     . exact Rx.XY _
structure ColQ(x:Instance)(c:Column):Prop where
 b:ColB c
 price: -9223372036854775808<=c.price/\c.price<=9223372036854775807
theorem KL{x:Instance}{c:Column}(u:x.orders.length<=8)(h:c∈rL x):ColQ x c:=by
 obtain⟨k,s,h⟩:=mC u h;obtain⟨l,E,_,_,_⟩:=h.is;have h1:=h.pos;have F:=h.top;have I:(2:Int)^x.orders.length<=256:=by
   have:2^x.orders.length<=256:=Xaj (Xat (by decide) u) (by decide)
   exact_mod_cast this
 rw[E];exact⟨⟨by show 0<=(s:Int)/\(s:Int)<=9223372036854775807;omega⟩,Xh _ _⟩
theorem Bl{x:Instance}{ds:List Decision}{c:Column}(h:c∈(cG x ds).1):c∈rL x/\inD ds c=true:=by
 unfold cG at h;split at h
 . cases h
 . exact⟨(List.mem_filter.1 h).1,(List.mem_filter.1 h).2⟩
theorem Bv(x:Instance)(ds:List Decision)(F:x.orders.length<=8)(I:x.types.length<=1000):(cG x ds).1.length<=256000:=by
 have u:=Sq.uB x x.types.length;have J:2^x.orders.length<=256:=Xaj (Xat (by decide) F) (by decide);have E:x.types.length*2^x.orders.length<=256000:=Xaj (Nat.mul_le_mul I J) (by decide);have u:(rL x).length<=256000:=Xaj u E;unfold cG;split
 . exact Xab _
 . exact Xaj (Xbo _ _) u
theorem SP(a b:Priced)(E:a.reduced.size<=1048576)(u:b.reduced.size<=1048576):PC prog 28 [.agg (bI a),.agg (bI b)] (int (zU a.reduced b.reduced)):=by
 refine pcd Tryz.func28 ?_;unfold Tryz.f28;simp only[gdS];simp only[go_sem];refine PC.use (wM a.reduced b.reduced E u) ?_;simp only[go_sem];exact .refl _
def mL(x:Instance)(cuts:List Cut)(ds:List Decision)(dual:List ByteArray):List Priced×Int:=
 if((cG x ds).2 != 0)=true then([],(cG x ds).2)
 else if Dec.fJ ((cG x ds).1.map fun c=>(bS x c cuts ds dual).2)≠0 then([],Dec.fJ ((cG x ds).1.map fun c=>(bS x c cuts ds dual).2))
 else((cG x ds).1.map fun c=>⟨c,(bS x c cuts ds dual).1⟩,0)
theorem aiU(l:List Priced)(p:Priced):(⟨69,8,l.map bI++[bI p]⟩:Row)=dE (l++[p]):=by
 show _=(⟨69,8,(l++[p]).map bI⟩:Row);rw[Xam];rfl
theorem Xj(x:Instance)(d:Nat)(cuts:List Cut)(ds:List Decision)(dual:List ByteArray)(h:PrOk x d)(hm:MIn x cuts ds)(hq:CutsB cuts)(hl:dual.length<=1048576)(hs:∀s∈dual,s.size<=1048576):
   NC prog 26 [.agg (aG x),.sl (cuts.map dS),.sl (ds.map aW),.sl (dual.map Go.Aw.D.fA)] (dE (mL x cuts ds dual).1) (fun j=>.tup [.os j,int (mL x cuts ds dual).2]):=by
 have ag:=Bv x ds h.n8 h.ty;have ad:∀c∈(cG x ds).1,ColQ x c:=fun c hc=>KL h.n8 (Bl hc).1
 have hP:mL x cuts ds dual=(if((cG x ds).2 != 0)=true then([],(cG x ds).2)
   else if Dec.fJ ((cG x ds).1.map fun c=>(bS x c cuts ds dual).2)≠0 then([],Dec.fJ ((cG x ds).1.map fun c=>(bS x c cuts ds dual).2))
   else((cG x ds).1.map fun c=>⟨c,(bS x c cuts ds dual).1⟩,0)):=rfl
 refine ncb (fun t=>t == 8) Tryz.func26 ?_;unfold Tryz.f26;simp only[gdS];simp only[go_sem];generalize mL x cuts ds dual=RP at *;refine aK fun j T=>?_
 generalize u:aI _ j _=HGj;have R:HGj j=some (dE []):=by rw[<-u,aB];try rfl
 clear u T;simp only[go_sem,R];refine PC.use (Sq.NC.pc2 (C1 x d ds h hm.dl)) ?_;generalize cG x ds=A at *;obtain⟨A,e⟩:=A;simp only at ag ad hP;simp only[go_sem];refine aA (fun hb=>?_) (fun hb=>?_)
 . rw[if_pos hb]at hP
   simp only[go_sem];refine aK fun j T=>?_
   generalize u:aI _ j _=HGj;have R:HGj j=some (dE []):=by rw[<-u,aB];try rfl
   clear u T;simp only[go_sem,R];rw[hP];exact⟨j,rfl,R⟩
 rw[if_neg (by rw[hb];simp)]at hP;simp only[go_sem,Xaa];refine⟨by omega,?_⟩;refine aK fun j T=>?_
 generalize u:aI _ j _=HGj;have R:HGj j=some (dE []):=by rw[<-u,aB];try rfl
 clear u T;simp only[go_sem,R];refine⟨fun ρ H=>∃(k:Nat) (j:Nat),k<=A.length/\ρ 1=.sl (cuts.map dS)/\ρ 2=.sl (ds.map aW)/\ρ 3=.sl (dual.map Go.Aw.D.fA)/\ρ 4=.rp (aG x) 0/\ρ 29=.sl (A.map aS)/\ρ 30=int (A.length:Nat)/\ρ 31=int k/\ρ 12=.os j/\H j=some (dE ((A.take k).map fun c=>⟨c,(bS x c cuts ds dual).1⟩))/\(∀e∈(A.map fun c=>(bS x c cuts ds dual).2).take k,e=0),fun ρ _=>A.length-aT (ρ 31),⟨0,j,Xab _,by simp only[go_sem],by simp only[go_sem],by simp only[go_sem],by simp only[go_sem],by simp only[go_sem],by simp only[go_sem,Xaa],(by simp only[go_sem];rfl),by simp only[go_sem],R,by simp⟩,?_⟩;rintro ρ H ⟨k,j,hk,e1,e2,e3,e4,I,F,J,M,R,hz⟩;simp only[go_sem,e1,e2,e3,e4,I,F,J,M];refine aA (fun aa=>?_) (fun ac=>?_)
 . have aa:=ltB (by simpa using aa)
   obtain⟨c,hc⟩:=aN aa;have b1:=inB aa;have ae:=ad c (Xae hc);have ah:(A.map fun c=>(bS x c cuts ds dual).2)[k]?=some (bS x c cuts ds dual).2:=by rw[List.getElem?_map,hc];rfl
   have ai:((A.take (k+1)).map fun c=>(⟨c,(bS x c cuts ds dual).1⟩:Priced))=((A.take k).map fun c=>⟨c,(bS x c cuts ds dual).1⟩)++[⟨c,(bS x c cuts ds dual).1⟩]:=by
     rw[bP hc,Xam];rfl
   have aj:((A.take k).map fun c=>(⟨c,(bS x c cuts ds dual).1⟩:Priced)).length<=A.length:=by rw[Xaa,Xal];omega
   generalize ((A.take k).map fun c=>(⟨c,(bS x c cuts ds dual).1⟩:Priced))=L at *;simp only[go_sem,e1,e2,e3,e4,I,F,J,M,aF hc,b1];refine aK fun ab Z=>?_
   have E:j≠ab:=aQ R Z;simp only[go_sem,e1,e2,e3,e4,I,F,J,M,R];refine aJ (aB _ _ _) (by simp[dA]) ?_;generalize O:aI (aI _ ab _) ab _=HGi14;replace R:=(congrFun O.symm j).trans ((aD _ _ _ _ E).trans ((aD _ _ _ _ E).trans R));have af:HGi14 ab=some (dQ [c]):=by rw[<-O,aB];try rfl
   clear O Z;simp only[go_sem,e1,e2,e3,e4,I,F,J,M,af,R];refine PC.use (PD x c cuts ds dual hm ae.b hq ae.price hl hs) ?_;simp only[go_sem,e1,e2,e3,e4,I,F,J,M];refine aA (fun hb=>?_) (fun hb=>?_)
   . have he:=Dec.vV hz ah hb
     rw[if_pos (by rw[he];simpa using hb),he]at hP;simp only[go_sem];refine aK fun j T=>?_
     generalize u:aI _ j _=HGj;have R:HGj j=some (dE []):=by rw[<-u,aB];try rfl
     clear u T;simp only[go_sem,R];rw[hP];exact⟨j,rfl,R⟩
   . simp only[go_sem,e1,e2,e3,e4,I,F,J,M,af]
     refine Sq.Mt (a:=bI ⟨c,(bS x c cuts ds dual).1⟩) rfl ⟨bV _,?_⟩;refine aX R ⟨rfl,rfl⟩ (by simp only[go_sem]) (by simp only[Xaa,Xac,Xad,List.length_nil];omega) (fun j2 ak=>?_);simp only[go_sem,e1,e2,e3,e4,I,F,J,M,aP (show k<=4611686018427387904 by omega)];refine⟨⟨k+1,j2,aa,rfl,rfl,?_,iS (p:=fun e:Int=>e=0) ah (by simpa using hb) hz⟩,by simp only[aE];omega⟩;rw[ai,aB];exact congrArg some (aiU _ _)
 have ac:=geB hk (by simpa using ac);subst ac;rw[Xan (by rw[Xaa];exact Xaf _)]at hz;rw[if_neg (by rw[Dec.tO hz];simp)]at hP;rw[Xag]at R;simp only[go_sem,e1,e2,e3,e4,I,F,J,M];rw[hP];exact⟨j,rfl,R⟩
def okP(p:Priced):Prop:=bQ p.reduced=true
theorem xH{p:Priced}(h:okP p):p.reduced.size<=1048576:=Xaj (fB h) (by decide)
theorem Ox{a b:ByteArray}(E:bQ a=true)(F:bQ b=true):zU a b<0↔gJ a<gJ b:=by
 unfold zU Ju;rw[E,F,Bool.and_self,if_pos rfl];split
 next h=>exact⟨fun _=>h,fun _=>by decide⟩
 next h=>
   split
   . exact⟨fun u=>absurd u (by decide),fun u=>absurd u h⟩
   . exact⟨fun u=>absurd u (by decide),fun u=>absurd u h⟩
theorem BT{a b:Priced}(E:okP a)(u:okP b):decide (zU a.reduced b.reduced<0)=ltP a b:=by
 unfold ltP;rw[decide_eq_decide];exact Ox E u
theorem agJ:CmpOk 28 ltP okP:=⟨by kernel_rfl,fun x y E u=>⟨_,BT E u,SP x y (xH E) (xH u)⟩⟩
theorem AA:∀(l:List Priced) (m:Priced),lJ m l=l.foldl (fun m p=>if ltP p m=true then p else m) m
 | [],m=>rfl
 | p::l,m=>AA l _
theorem U8{l:List Priced}{p q:Priced}{k:Nat}(h:l[k]?=some q):lJ p (l.take (k+1))=if ltP q (lJ p (l.take k))=true then q else lJ p (l.take k):=by
 rw[AA,AA,Sq.iJ h]
theorem adA{p:Priced}{l:List Priced}(h:∀q∈p::l,okP q):okP (lJ p l):=h _ (Bw l p)
theorem Th(p:Priced)(l:List Priced)(hl:l.length<=1048576)(hr:∀q∈p::l,okP q):
   PC prog 27 [.sl ((p::l).map bI),nL 28] (.agg (bI (lJ p l))):=by
 have ak:aC prog 28=true:=by kernel_rfl
 refine pcd Tryz.func27 ?_;unfold Tryz.f27;simp only[gdS];simp only[go_sem];refine aK fun O ad=>?_
 generalize aa:aI _ O _=HGj4;have E:HGj4 O=some (dE [⟨Sq.cQ,ByteArray.empty⟩]):=by rw[<-aa,aB];try rfl
 clear aa ad;simp only[go_sem,E];refine aA (fun hb=>absurd (of_decide_eq_true hb) (by omega)) (fun _=>?_);have g0:((p::l).map bI).getD 0 []=bI p:=rfl;simp only[go_sem,g0,Xaa,Xad];refine⟨by omega,?_⟩;refine aK fun F ab=>?_
 have u:O≠F:=aQ E ab;simp only[go_sem,g0,E];refine aJ (aB _ _ _) (by simp[bV]) ?_;generalize I:aI (aI _ F _) F _=HGi5;replace E:=(congrFun I.symm O).trans ((aD _ _ _ _ u).trans ((aD _ _ _ _ u).trans E));have R5:HGi5 F=some (dE [p]):=by rw[<-I,aB];try rfl
 clear I ab;simp only[go_sem,g0,R5,E];refine⟨fun ρ H=>∃k:Nat,k<=l.length/\ρ 0=.sl ((p::l).map bI)/\ρ 1=nL 28/\ρ 4=.op O 0 0/\ρ 5=.op F 0 0/\ρ 6=int (k+1:Nat)/\H O=some (dE [⟨Sq.cQ,ByteArray.empty⟩])/\H F=some (dE [lJ p (l.take k)]),fun ρ _=>l.length+1-aT (ρ 6),⟨0,Xab _,by simp only[go_sem],by simp only[go_sem],by simp only[go_sem],by simp only[go_sem],(by simp only[go_sem];rfl),E,R5⟩,?_⟩;rintro ρ H ⟨k,hk,e0,e1,T,Z,e6,E,R5⟩;simp only[go_sem,e0,e1,T,Z,e6,Xaa,Xad];refine aA (fun J=>?_) (fun ac=>?_)
 . have J:k<l.length:=by have:=of_decide_eq_true J;omega
   obtain⟨q,hq⟩:=aN J;have am:(p::l)[k+1]?=some q:=by simpa using hq
   have g1:=aF (f:=bI) hq;have b1:(0:Int)<=((k+1:Nat):Int)/\((k+1:Nat):Int)<((l.length+1:Nat):Int):=by omega
   have hm:=U8 (p:=p) hq;have af:okP q:=hr q (List.mem_cons_of_mem _ (Xae hq));have ag:okP (lJ p (l.take k)):=adA fun z hz=>by
     rcases Xbn.1 hz with rfl|hz
     . exact hr _ (List.mem_cons_self ..)
     . exact hr z (List.mem_cons_of_mem _ (List.mem_of_mem_take hz))
   generalize lJ p (l.take k)=M at *;simp only[go_sem,e0,e1,T,Z,e6,Xaa,Xad];refine fE [F] [(0,true),(1,true),(2,true),(3,true),(4,true),(5,true),(6,false),(7,true)] (by simp[R5]) (by kernel_rfl) fun Hp Hr hp hr _ al=>?_
   have ae:=(hp F (by simp)).trans R5;simp only[go_sem,e0,e1,T,Z,e6,g1,b1,ak,Xaa,Xad,ae];have ah:=SP q M (xH af) (xH ag);have hd:=BT af ag;refine PC.use ah ?_;simp only[go_sem,e0,e1,T,Z,e6];refine jY hr ?_;simp only[go_sem,e0,e1,T,Z,e6];refine aA (fun hc=>?_) (fun hc=>?_)
   . have hc:ltP q M=true:=hd.symm.trans hc
     rw[if_pos hc]at hm;simp only[go_sem,e0,e1,T,Z,e6,g1,b1,Xaa,Xad];have ne:O≠F:=u;refine aJ R5 (by simp[bV]) ?_;have ai:aI H F (some (⟨69,8,[bI q++List.drop 8 (bI M)]⟩:Row)) F=some (dE [q]):=by rw[aB,jS,Xah];rfl
     have aj:aI H F (some (⟨69,8,[bI q++List.drop 8 (bI M)]⟩:Row)) O=some (dE [⟨Sq.cQ,ByteArray.empty⟩]):=(aD _ _ _ _ ne).trans E;simp only[go_sem,e0,e1,T,Z,e6,aP (show k+1<=4611686018427387904 by omega)];exact⟨⟨k+1,J,rfl,aj,by rw[hm];exact(aB _ _ _).symm.trans ai⟩,by simp only[aE];omega⟩
   . have hc:ltP q M=false:=hd.symm.trans hc
     rw[if_neg (by rw[hc];simp)]at hm;simp only[go_sem,e0,e1,T,Z,e6,aP (show k+1<=4611686018427387904 by omega)];exact⟨⟨k+1,J,rfl,E,by rw[hm];exact R5⟩,by simp only[aE];omega⟩
 . have ac:k=l.length:=by have:=of_decide_eq_false ac;omega
   subst ac;rw[Xag]at R5;simp only[go_sem,e0,e1,T,Z,e6,R5];refine aJ E (by simp[bV]) ?_;generalize hP:aI _ O _=HP;replace E:HP O=some (dE [lJ p l]):=by rw[<-hP,aB];rfl
   clear hP;simp only[go_sem,T,E];exact .refl _
theorem yK{x:Instance}{c:Column}{cuts:List Cut}{ds:List Decision}{dual:List ByteArray}(h:(bS x c cuts ds dual).2=0):bQ (bS x c cuts ds dual).1=true:=by
 unfold bS at h |-;split at h
 . exact absurd h (by decide)
 split at h
 next h1 h2=>exact absurd h h2
 next h1 h2=>
 rw[if_neg h1,if_neg h2];exact OE h
theorem adS{x:Instance}{cuts:List Cut}{ds:List Decision}{dual:List ByteArray}{p:Priced}(h:p∈(mL x cuts ds dual).1):p.column∈(cG x ds).1/\p.reduced=(bS x p.column cuts ds dual).1/\(bS x p.column cuts ds dual).2=0:=by
 unfold mL at h;split at h
 . cases h
 split at h
 . cases h
 next h1 h2=>
 obtain⟨c,u,rfl⟩:=List.mem_map.1 h;exact⟨u,rfl,Dec.tT (Decidable.not_not.1 h2) _ (List.mem_map.2 ⟨c,u,rfl⟩)⟩
theorem LD{x:Instance}{cuts:List Cut}{ds:List Decision}{dual:List ByteArray}{p:Priced}(h:p∈(mL x cuts ds dual).1):okP p:=by
 obtain⟨_,h1,u⟩:=adS h;show bQ p.reduced=true;rw[h1];exact yK u
theorem L8(x:Instance)(cuts:List Cut)(ds:List Decision)(dual:List ByteArray)(u:x.orders.length<=8)(E:x.types.length<=1000):(mL x cuts ds dual).1.length<=256000:=by
 unfold mL;split
 . exact Xab _
 split
 . exact Xab _
 . rw[Xaa]
   exact Bv x ds u E
def pQ(x:Instance)(d:Nat)(cuts:List Cut)(ds:List Decision)(dual:List ByteArray):Column×ByteArray×Int:=
 if(nN x d cuts ds dual != 0)=true then(Sq.cQ,emp,nN x d cuts ds dual)
 else if((mL x cuts ds dual).2 != 0)=true then(Sq.cQ,emp,(mL x cuts ds dual).2)
 else match (mL x cuts ds dual).1 with
 | []=>(Sq.cQ,emp,24)
 | p::l=>((lJ p l).column,(lJ p l).reduced,0)
theorem Q1(x:Instance)(d:Nat)(cuts:List Cut)(ds:List Decision)(dual:List ByteArray)(h:PrOk x d)(hm:MIn x cuts ds)(hq:∀q∈cuts,q.set<=9223372036854775807)(hl:dual.length<=1048576)(hs:∀s∈dual,s.size<=1048576):
   PC prog 10 [.agg (aG x),.sl (cuts.map dS),.sl (ds.map aW),.sl (dual.map Go.Aw.D.fA)] (.tup [.agg (aS (pQ x d cuts ds dual).1),str (pQ x d cuts ds dual).2.1,int (pQ x d cuts ds dual).2.2]):=by
 have F:pQ x d cuts ds dual=(if(nN x d cuts ds dual != 0)=true then(Sq.cQ,emp,nN x d cuts ds dual)
   else if((mL x cuts ds dual).2 != 0)=true then(Sq.cQ,emp,(mL x cuts ds dual).2)
   else match (mL x cuts ds dual).1 with
   | []=>(Sq.cQ,emp,24)
   | p::l=>((lJ p l).column,(lJ p l).reduced,0)):=rfl
 generalize pQ x d cuts ds dual=RP at *;refine pcd Tryz.func10 ?_;unfold Tryz.f10;simp only[gdS];simp only[go_sem];refine aK fun Z ag=>?_
 generalize ad:aI _ Z _=HGj8;have E:HGj8 Z=some (dQ [Sq.cQ]):=by rw[<-ad,aB];try rfl
 clear ad ag;simp only[go_sem,E];refine PC.use (MA x d cuts ds dual h hm) ?_;simp only[go_sem,E];refine aA (fun O=>?_) (fun O=>?_)
 . rw[if_pos O]at F
   simp only[go_sem,E];refine aJ E (by simp only[go_sem]) ?_;generalize F:aI _ Z _=HP;replace E:HP Z=some (dQ [Sq.cQ]):=by rw[<-F,aB];rfl
   clear F;simp only[go_sem,E];rw[F];exact .refl _
 rw[if_neg (by rw[O];simp)]at F;have ai:CutsB cuts:=⟨fun q af=>⟨AJ (xF (by simpa using O) q af),hq q af⟩⟩;have ah:∀p∈(mL x cuts ds dual).1,okP p:=fun p hp=>LD hp
 have ac:=L8 x cuts ds dual h.n8 h.ty;simp only[go_sem,E];refine PC.use (Sq.NC.pc2 (Xj x d cuts ds dual h hm ai hl hs)) ?_;generalize mL x cuts ds dual=A at *;obtain⟨A,e⟩:=A;simp only at F ah ac;simp only[go_sem,E];refine aA (fun O=>?_) (fun O=>?_)
 . rw[if_pos O]at F
   simp only[go_sem,E];refine aJ E (by simp only[go_sem]) ?_;generalize F:aI _ Z _=HP;replace E:HP Z=some (dQ [Sq.cQ]):=by rw[<-F,aB];rfl
   clear F;simp only[go_sem,E];rw[F];exact .refl _
 rw[if_neg (by rw[O];simp)]at F;simp only[go_sem,E,Xaa];refine aA (fun O=>?_) (fun O=>?_)
 . have h0:A.length=0:=by simpa using O
   obtain rfl:=Xas.1 h0;simp only[go_sem,E];refine aJ E (by simp only[go_sem]) ?_;generalize F:aI _ Z _=HP;replace E:HP Z=some (dQ [Sq.cQ]):=by rw[<-F,aB];rfl
   clear F;simp only[go_sem,E];rw[F];exact .refl _
 have h0:A.length≠0:=by simpa using O
 obtain⟨p,l,rfl⟩:∃p l,A=p::l:=by
   cases A with
   | nil=>exact absurd rfl h0
   | cons p l=>exact⟨p,l,rfl⟩
 simp only at F;have aj:=Th p l (by simp at ac;omega) ah;generalize lJ p l=M at *;simp only[go_sem,E];refine PC.use aj ?_;simp only[go_sem,E];refine aK fun J aa=>?_
 have u:Z≠J:=aQ E aa;simp only[go_sem,E];refine aJ (aB _ _ _) (by simp[bV]) ?_;generalize I:aI (aI _ J _) J _=HGi14;replace E:=(congrFun I.symm Z).trans ((aD _ _ _ _ u).trans ((aD _ _ _ _ u).trans E));have ae:HGi14 J=some (dE [M]):=by rw[<-I,aB];try rfl
 clear I aa;simp only[go_sem,ae,E];refine fE [J] [(0,true),(1,true),(2,true),(3,true),(4,false),(5,true),(6,true)] (by simp[ae]) (by kernel_rfl) fun Hp Hr hp hr _ ak=>?_
 have T:=(hp J (by simp)).trans ae;have ab:=(hr Z (by simp[u])).trans E;simp only[go_sem,T,ab];refine aJ ab (by simp[dA]) ?_;simp only[go_sem,T];refine oJ hr (by simpa using u) ?_;simp only[go_sem,aB];rw[F];exact .refl _
def BL(x:Instance)(d:Nat)(cuts:List Cut)(ds:List Decision)(dual:List ByteArray)(most:Int):List Column×Int:=
 if(nN x d cuts ds dual != 0)=true then([],nN x d cuts ds dual)
 else if(decide (most<1)||decide (most>8192))=true then([],2)
 else if((mL x cuts ds dual).2 != 0)=true then([],(mL x cuts ds dual).2)
 else(((zV (mL x cuts ds dual).1).take most.toNat).map (·.column),0)
theorem L5{S:List Priced}{k m:Nat}(h:∀p∈S.take k,qJ p=true)(J:k<=S.length)(u:m=k\/(k<=m/\∀p,S[k]?=some p->qJ p=false)):(S.takeWhile qJ).take m=S.take k:=by
 rw[Sq.Rz (k:=k) h];have M:(S.take k).length=k:=by rw[Xal];omega
 rcases u with rfl|⟨u,F⟩
 . rw[List.take_append_of_le_length (by omega),Xan (by omega)]
 . have : (S.drop k).takeWhile qJ = [] := by
     cases I:S.drop k with
     | nil=>rfl
     | cons p r=>
       have E:S[k]?=some p:=by
         have:=congrArg (fun l:List Priced=>l[0]?) I;simpa using this
       rw[List.takeWhile_cons,F p E];rfl
   rw[this,Xah,Xan (by omega)]
theorem FW{s:ByteArray}(h:bQ s=true):decide (yQ s>=0)= !decide (gJ s<0):=by
 unfold yQ;rw[if_pos h,<-Hg];unfold Ju;by_cases u:gJ s<0
 . rw[if_pos u,decide_eq_true u];rfl
 . rw[if_neg u,decide_eq_false u]
   split <;> rfl
theorem YC(L:List Priced)(p:Priced):(⟨43,7,(L.map (·.column)).map aS++[aS p.column]⟩:Row)=dQ ((L++[p]).map (·.column)):=by
 rw[Sq.N2,Xam];rfl
theorem WK(x:Instance)(d:Nat)(cuts:List Cut)(ds:List Decision)(dual:List ByteArray)(most:Int)(h:PrOk x d)(hm:MIn x cuts ds)(hq:∀q∈cuts,q.set<=9223372036854775807)(hl:dual.length<=1048576)(hs:∀s∈dual,s.size<=1048576):
   PC prog 13 [.agg (aG x),.sl (cuts.map dS),.sl (ds.map aW),.sl (dual.map Go.Aw.D.fA),int most] (.tup [.sl ((BL x d cuts ds dual most).1.map aS),int (BL x d cuts ds dual most).2]):=by
 have hP:BL x d cuts ds dual most=(if(nN x d cuts ds dual != 0)=true then([],nN x d cuts ds dual)
   else if(decide (most<1)||decide (most>8192))=true then([],2)
   else if((mL x cuts ds dual).2 != 0)=true then([],(mL x cuts ds dual).2)
   else(((zV (mL x cuts ds dual).1).take most.toNat).map (·.column),0)):=rfl
 generalize BL x d cuts ds dual most=RP at *;refine pcb (fun t=>t == 15) Tryz.func13 ?_;unfold Tryz.f13;simp only[gdS];simp only[go_sem];refine PC.use (MA x d cuts ds dual h hm) ?_;simp only[go_sem];refine aA (fun hb=>?_) (fun hb=>?_)
 . rw[if_pos hb]at hP
   simp only[go_sem];rw[hP];exact .refl _
 rw[if_neg (by rw[hb];simp)]at hP;have av:CutsB cuts:=⟨fun q ap=>⟨AJ (xF (by simpa using hb) q ap),hq q ap⟩⟩;have ah:∀p∈(mL x cuts ds dual).1,okP p:=fun p hp=>LD hp
 have ak:=L8 x cuts ds dual h.n8 h.ty;simp only[go_sem];refine aA (fun hb=>?_) (fun hb=>?_)
 . rw[if_pos hb]at hP
   simp only[go_sem];rw[hP];exact .refl _
 have a0:1<=most/\most<=8192:=by
   simp only[Xak,decide_eq_false_iff_not]at hb;omega
 rw[if_neg (by rw[hb];simp)]at hP;simp only[go_sem];refine NC.use (Xj x d cuts ds dual h hm av hl hs) fun j1 a5=>?_
 generalize mL x cuts ds dual=A at *;obtain⟨A,e⟩:=A;simp only at hP ah ak;simp only[go_sem];refine aA (fun hb=>?_) (fun hb=>?_)
 . rw[if_pos hb]at hP
   simp only[go_sem];rw[hP];exact .refl _
 rw[if_neg (by rw[hb];simp)]at hP;have R1:aI bY j1 (some (dE A)) j1=some (dE A):=aB _ _ _;simp only[go_sem];refine Kk Z8 agJ A j1 _ _ (by omega) ah R1 fun r=>?_
 rw[gZ];have R1:aI bY j1 (some (dE (uH ltP A))) j1=some (dE (uH ltP A)):=aB _ _ _;generalize aI bY j1 (some (dE (uH ltP A)))=H1 at *;have ax:∀p∈uH ltP A,okP p:=fun p hp=>ah p ((vS A).mem_iff.1 hp)
 have a6:(uH ltP A).length=A.length:=(vS A).length_eq;unfold zV at hP;generalize uH ltP A=S at *;simp only[go_sem];refine aK fun af ad=>?_
 have T:j1≠af:=aQ R1 ad;generalize Z:aI _ af _=HGj15;replace R1:=(congrFun Z.symm j1).trans ((aD _ _ _ _ T).trans R1);have al:HGj15 af=some (dQ []):=by rw[<-Z,aB];try rfl
 clear Z ad;simp only[go_sem,al,R1];refine⟨fun ρ H=>∃(k:Nat) (j:Nat),k<=S.length/\ρ 4=int most/\ρ 45=.os j1/\ρ 46=int (S.length:Nat)/\ρ 47=int k/\ρ 15=.os j/\H j=some (dQ ((S.take k).map (·.column)))/\H j1=some (dE S)/\(∀p∈S.take k,qJ p=true)/\k<=most.toNat,fun ρ _=>S.length-aT (ρ 47),⟨0,af,Xab _,by simp only[go_sem],by simp only[go_sem],by simp only[go_sem,Xaa],(by simp only[go_sem];rfl),by simp only[go_sem],al,R1,by simp,Xab _⟩,?_⟩;rintro ρ H ⟨k,j,hk,e4,I,M,F,J,R,RS,hz,ai⟩;simp only[go_sem,e4,I,M,F,J];refine aA (fun ab=>?_) (fun ag=>?_)
 . have ab:=ltB (by simpa using ab)
   obtain⟨p,hp⟩:=aN ab;have b1:=inB ab;have an:=ax p (Xae hp);have ar:=FW an;have az:((S.take k).map (·.column)).length=k:=by rw[Xaa,Xal];omega
   have ay:S.take (k+1)=S.take k++[p]:=bP hp;simp only[go_sem,e4,I,M,F,J,RS,aF hp,b1,Xaa];refine⟨ab,?_⟩;refine aK fun ae aa=>?_
   have E:j≠ae:=aQ R aa;have u:j1≠ae:=aQ RS aa;simp only[go_sem,e4,I,M,F,J,R,RS];refine aJ (aB _ _ _) (by simp[bV]) ?_;generalize O:aI (aI _ ae _) ae _=HGi17;replace R:=(congrFun O.symm j).trans ((aD _ _ _ _ E).trans ((aD _ _ _ _ E).trans R));replace RS:=(congrFun O.symm j1).trans ((aD _ _ _ _ u).trans ((aD _ _ _ _ u).trans RS));have ao:HGi17 ae=some (dE [p]):=by rw[<-O,aB];try rfl
   clear O aa;simp only[go_sem,e4,I,M,F,J,ao,R,RS];refine PC.use (ZO p.reduced (xH an)) ?_;simp only[go_sem,e4,I,M,F,J,R,Xaa];have aj:((S.take k).length:Int)=(k:Int):=by rw[Xal];omega
   refine aA (fun hc=>?_) (fun hc=>?_)
   . have ac : (S.takeWhile qJ).take most.toNat = S.take k := L5 hz hk (by
       by_cases hn:qJ p=true
       . left
         have e1:decide (yQ p.reduced>=0)=false:=by rw[ar,show decide (gJ p.reduced<0)=true from hn];rfl
         rw[e1,Bool.false_or]at hc;have:((S.take k).length:Int)=most:=by simpa using hc
         omega
       . right
         refine⟨ai,fun p' au=>?_⟩;rw[hp]at au;obtain rfl:=Option.some.inj au;simpa using hn)
     simp only[go_sem,e4,I,M,F,J];rw[hP,ac];exact .tup _ _ (.cons _ _ _ _ (.row _ _ _ R (ConvE.refl _)) (ConvL.refl _))
   rw[ar]at hc;simp only[Xak,Xbl]at hc;have hn:qJ p=true:=hc.1;have a4:¬(k:Int)=most:=by have:=hc.2;rw[aj]at this;simpa using this
   simp only[go_sem,e4,I,M,F,J,ao];refine aX R ⟨rfl,rfl⟩ (by simp only[go_sem]) (by simp only[Xaa,Xac,Xad,List.length_nil,Xal];omega) (fun j2 aq=>?_);have aw:j1≠j2:=fun e=>by rw[<-e,RS]at aq;cases aq
   have am:j1≠j:=fun e=>by rw[e,R]at RS;cases RS
   simp only[go_sem,e4,I,M,F,J,aP (show k<=4611686018427387904 by omega)];refine⟨⟨k+1,j2,ab,rfl,rfl,?_,?_,?_,by omega⟩,by simp only[aE];omega⟩
   . rw[ay,aB]
     exact congrArg some (YC _ _)
   . rw[aD _ _ _ _ aw,aD _ _ _ _ am];exact RS
   . exact Mv.aZ (p:=fun p=>qJ p=true) hp hn hz
 have ag:=geB hk (by simpa using ag);subst ag;have ac:(S.takeWhile qJ).take most.toNat=S.take S.length:=L5 hz (Xaf _) (.inr ⟨ai,fun p hp=>by
   rw[List.getElem?_eq_none (Xaf _)]at hp;cases hp⟩)
 simp only[go_sem,e4,I,M,F,J];rw[hP,ac];exact .tup _ _ (.cons _ _ _ _ (.row _ _ _ R (ConvE.refl _)) (ConvL.refl _))
def exO:Order:=⟨⟨#[111,97]⟩,[1],⟨-1,0,0,0⟩,⟨1,0,50,0⟩,0,0,1,-1,-1,false⟩
def exT:VType:=⟨⟨#[118,97,110]⟩,1,0,0,[5],0,0,0,1000,1000,0,5,1,0⟩
def exN:Network:=⟨[⟨#[104,117,98]⟩,⟨#[97,115,104]⟩],[⟨0,1,0,10,[⟨0,20⟩],[]⟩,⟨1,0,0,10,[⟨0,20⟩],[]⟩]⟩
def exX:Instance:=⟨exN,[exT],[exO],[],[]⟩
def exD:List ByteArray:=[zed 419430410,⟨#[48]⟩]
def exC:Column:=(pQ exX 1 [] [] exD).1
theorem KG:(pQ exX 1 [] [] exD).2=(⟨#[45,49,48]⟩,0)/\exC.set=1/\exC.price=419430400:=by decide +kernel
theorem WP:(BL exX 1 [] [] exD 5).2=0/\(BL exX 1 [] [] exD 5).1.length=1:=by decide +kernel
theorem FP:(cG exX []).2=0/\(cG exX []).1.length=1:=by decide +kernel
theorem Wf:LoadsOk exX 1 where
 dims:=by decide
 orders:=by decide
 types:=by decide
 load:=by
   intro o u;simp[exX,exO]at u;subst u;simp
 cap:=by
   intro t E;simp[exX,exT]at E;subst E;simp
theorem ahJ:Sq.NetOk exN where
 arcs:=by decide
 travel:=by
   intro a u;simp[exN]at u;rcases u with rfl|rfl <;> decide +kernel
 slow:=by
   intro a u;simp[exN]at u;rcases u with rfl|rfl <;> decide
theorem Wj:PrOk exX 1 where
 ev:=⟨ahJ,⟨by decide,by intro o u;simp[exX,exO]at u;subst u;rfl,by decide⟩,by decide,by decide⟩
 n8:=by decide
 ty:=by decide
 lo:=Wf
 ne:=by simp[exX]
theorem At:PC prog 24 [] (.agg (aG exX)):=by
 refine pcd Tryz.func24 ?_;unfold Tryz.f24;simp only[gdS];simp only[go_sem];refine aK fun i0 af=>?_
 generalize ad:aI _ i0 _=HGi0;have O:HGi0 i0=some (insR ⟨⟨[],[]⟩,[],[],[],[]⟩):=by rw[<-ad,aB];try rfl
 clear ad af;simp only[go_sem,O];refine aK fun i2 ae=>?_
 have J:i0≠i2:=aQ O ae;simp only[go_sem,O];refine aJ (aB _ _ _) (by simp) ?_;generalize ac:aI (aI _ i2 _) i2 _=HGi2;replace O:=(congrFun ac.symm i0).trans ((aD _ _ _ _ J).trans ((aD _ _ _ _ J).trans O));have R2:HGi2 i2=some (⟨25,2,[aY exN]⟩):=by rw[<-ac,aB];try rfl
 clear ac ae;simp only[go_sem,R2,O];refine aK fun i3 ab=>?_
 have M:i0≠i3:=aQ O ab;have I:i2≠i3:=aQ R2 ab;simp only[go_sem,O,R2];refine aJ (aB _ _ _) (by simp) ?_;generalize Z:aI (aI _ i3 _) i3 _=HGi3;replace O:=(congrFun Z.symm i0).trans ((aD _ _ _ _ M).trans ((aD _ _ _ _ M).trans O));replace R2:=(congrFun Z.symm i2).trans ((aD _ _ _ _ I).trans ((aD _ _ _ _ I).trans R2));have R3:HGi3 i3=some (ordR exO):=by rw[<-Z,aB];try rfl
 clear Z ab;simp only[go_sem,R3,O,R2];refine aK fun i4 aa=>?_
 have u:i0≠i4:=aQ O aa;have F:i2≠i4:=aQ R2 aa;have E:i3≠i4:=aQ R3 aa;simp only[go_sem,O,R2,R3];refine aJ (aB _ _ _) (by simp) ?_;generalize T:aI (aI _ i4 _) i4 _=HGi4;replace O:=(congrFun T.symm i0).trans ((aD _ _ _ _ u).trans ((aD _ _ _ _ u).trans O));replace R2:=(congrFun T.symm i2).trans ((aD _ _ _ _ F).trans ((aD _ _ _ _ F).trans R2));replace R3:=(congrFun T.symm i3).trans ((aD _ _ _ _ E).trans ((aD _ _ _ _ E).trans R3));have R4:HGi4 i4=some (typR exT):=by rw[<-T,aB];try rfl
 clear T aa;simp only[go_sem,R4,O,R2,R3];refine aJ O (by simp;decide) ?_;simp only[go_sem];exact .refl _
theorem zR:PC prog 9 [] (boo true):=by
 have Z:MIn exX [] []:=⟨by decide,by decide,by decide,by decide⟩;have hs:∀s∈exD,s.size<=1048576:=by decide +kernel
 have hb:=Q1 exX 1 [] [] exD Wj Z (fun q I=>by cases I) (by decide) hs;rw[show pQ exX 1 [] [] exD=(exC,⟨#[45,49,48]⟩,0)from Prod.ext rfl KG.1]at hb;have hn:=WK exX 1 [] [] exD 5 Wj Z (fun q I=>by cases I) (by decide) hs;have ha:=Sq.NC.pc2 (C1 exX 1 [] Wj (by decide));rw[FP.1]at ha;rw[WP.1]at hn;have T:=WP.2;have F:=FP.2;have O:=KG.2.1;have J:=KG.2.2;generalize (BL exX 1 [] [] exD 5).1=NL at *;generalize (cG exX []).1=AL at *;generalize exC=c at *;refine pcd Tryz.func9 ?_;unfold Tryz.f9;simp only[gdS];simp only[go_sem];refine PC.use (Ry 419430410 (by decide) (by decide)) ?_;simp only[go_sem];refine PC.use At ?_;simp only[go_sem];refine PC.use hb ?_;simp only[go_sem];refine aK fun M E=>?_
 simp only[go_sem];refine aJ (aB _ _ _) (by simp[dA]) ?_;generalize u:aI (aI _ M _) M _=HGi3;have R3:HGi3 M=some (dQ [c]):=by rw[<-u,aB];try rfl
 clear u E;simp only[go_sem,R3];refine PC.use At ?_;simp only[go_sem];refine PC.use hn ?_;simp only[go_sem];refine PC.use At ?_;simp only[go_sem];refine PC.use ha ?_;simp only[go_sem,R3,Xaa,O,J,T,F];exact cB (a:=true) (by rfl)
end Go.Proofs.YtohmomanmikphaaGreatDoor.Nu.Ps
end
section
namespace Go.Proofs.YtohmomanmikphaaGreatDoor.Nu.Ps
open Go.Proofs.Tryz(prog)
open Go.Aw Go.Aw.D Go.Proofs Ty Go.Nu Go.So
open Dec (pU eL fS)
open Sq (EvalB BestQ rL mC dQ gM kQ)
theorem ZF{x:Instance}(h:Acc x)(O:x.orders.length<=8):PrOk x (jI x.types).toNat:=by
 obtain⟨u,E⟩:=PV h;have h1:=h.arcs;have Z:=h.types;have h3:=h.apart;have h4:=h.before;refine⟨⟨⟨by omega,fun a F=>(h.arc a F).travel,fun a F=>by have:=(h.arc a F).slow;omega⟩,?_,by omega,by omega⟩,O,by omega,u,E⟩;obtain⟨t,r,I⟩:=List.exists_cons_of_ne_nil E;have J:kQ x=(t.cap.length:Nat):=by unfold kQ;rw[I];rfl
 have hc:=(u.cap t (by rw[I];exact List.mem_cons_self)).1;have T:=u.dims;exact⟨by rw[J];omega,fun o M=>by rw[J,(u.load o M).1];omega,by omega⟩
def RO(a:Ask3):Bool:=(((((decide ((a.x.orders.length:Int)>3)||decide ((a.x.types.length:Int)>3))||decide ((a.cuts.length:Int)>8))||decide ((a.d.length:Int)>8))||decide ((a.dual.length:Int)>40))||decide (((FG a.x).length:Int)>0))
def PA(a:Ask3):Bool:= !RO a&&a.dual.all fun s=> !decide ((s.size:Int)>60)
theorem aaL{a:Ask3}(h:PA a=true):Acc a.x/\a.x.orders.length<=3/\a.x.types.length<=3/\a.cuts.length<=8/\a.d.length<=8/\a.dual.length<=40/\∀s∈a.dual,s.size<=60:=by
 unfold PA RO at h;simp only[Xap,Xbp,Xak,decide_eq_false_iff_not,Xao]at h;obtain⟨⟨⟨⟨⟨⟨h1,F⟩,J⟩,O⟩,I⟩,M⟩,E⟩:=h;refine⟨aiD (Xas.1 (by omega)),by omega,by omega,by omega,by omega,by omega,fun s u=>?_⟩;have:=E s u;omega
theorem awO(a:Ask3)(Z:InB a.x)(hl:a.dual.length<=1048576):PC prog 8 [.agg (gY a)] (boo (PA a)):=by
 refine pcd Tryz.func8 ?_;unfold Tryz.f8;simp only[gdS];simp only[go_sem];refine⟨_,fun _=>(NC.pc (Z4 a.x Z)).qn,?_⟩;simp only[go_sem,Xaa];refine aA (fun E=>?_) (fun E=>?_)
 . have E:RO a=true:=E
   simp only[go_sem];refine cB ?_;unfold PA;rw[E];rfl
 have E:RO a=false:=E;have hF:PA a=a.dual.all fun s=> !decide ((s.size:Int)>60):=by unfold PA;rw[E];rfl
 rw[hF];simp only[go_sem];refine⟨fun ρ H=>∃(k:Nat),k<=a.dual.length/\ρ 1=.rp (gY a) 0/\ρ 3=int k/\(∀s∈a.dual.take k,decide ((s.size:Int)>60)=false),fun ρ _=>a.dual.length-aT (ρ 3),⟨0,Xab _,by simp only[go_sem],(by simp only[go_sem];rfl),by simp⟩,?_⟩;rintro ρ H ⟨k,hk,O,M,T⟩;simp only[go_sem,O,M];refine aA (fun u=>?_) (fun F=>?_)
 . have u:=ltB (by simpa using u)
   obtain⟨s,I⟩:=aN u;have b1:=inB u;simp only[go_sem,O,M,aF I,b1];refine aA (fun J=>?_) (fun J=>?_)
   . simp only[go_sem]
     refine cB ?_;exact(List.all_eq_false.2 ⟨s,Xae I,by
       have J:decide ((s.size:Int)>60)=true:=J;rw[J];simp⟩).symm
   . simp only[go_sem,O,M,aP (show k<=4611686018427387904 by omega)]
     exact⟨⟨k+1,u,rfl,iS (p:=fun s:ByteArray=>decide ((s.size:Int)>60)=false) I J T⟩,by simp only[aE];omega⟩
 have F:=geB hk (by simpa using F);subst F;rw[Xag]at T;simp only[go_sem,O,M];exact cB (Xao.2 fun s I=>by rw[T s I];rfl).symm
theorem Nz(l:List Visit)(hl:l.length<=1048576):PC prog 31 [.sl (l.map aL),.sl (l.map aL)] (boo true):=by
 refine pcd Tryz.func31 ?_;unfold Tryz.f31;simp only[gdS];simp only[go_sem];refine aA (fun T=>absurd T (by simp)) (fun _=>?_);simp only[go_sem];refine⟨fun ρ H=>∃(k:Nat),k<=l.length/\ρ 0=.sl (l.map aL)/\ρ 1=.sl (l.map aL)/\ρ 5=int k,fun ρ _=>l.length-aT (ρ 5),⟨0,Xab _,by simp only[go_sem],by simp only[go_sem],(by simp only[go_sem];rfl)⟩,?_⟩;rintro ρ H ⟨k,hk,F,I,E⟩;simp only[go_sem,F,I,E];refine aA (fun u=>?_) (fun O=>?_)
 . have u:=ltB (by simpa using u)
   obtain⟨v,M⟩:=aN u;have Z:=inB u;simp only[go_sem,F,I,E];refine dJ (by rfl) (by kernel_rfl) ?_;simp only[go_sem,F,I,E,aF M,Z,Xaa];refine aA (fun J=>?_) (fun J=>?_)
   . exact absurd J (by simp)
   . simp only[go_sem,F,I,E,aP (show k<=4611686018427387904 by omega)]
     exact⟨⟨k+1,u,rfl⟩,by simp only[aE];omega⟩
 simp only[go_sem];exact .refl _
theorem ND(c:Column)(h1:c.route.rests.length<=1048576)(M:c.route.visits.length<=1048576):PC prog 12 [.agg (aS c),.agg (aS c)] (boo true):=by
 refine pcd Tryz.func12 ?_;unfold Tryz.f12;simp only[gdS];simp only[go_sem];refine aA (fun Z=>absurd Z (by simp)) (fun _=>?_);simp only[go_sem];refine⟨fun ρ H=>∃(k:Nat),k<=c.route.rests.length/\ρ 2=.rp (aS c) 0/\ρ 3=.rp (aS c) 0/\ρ 5=int k,fun ρ _=>c.route.rests.length-aT (ρ 5),⟨0,Xab _,by simp only[go_sem],by simp only[go_sem],(by simp only[go_sem];rfl)⟩,?_⟩;rintro ρ H ⟨k,hk,I,F,E⟩;simp only[go_sem,I,F,E];refine aA (fun u=>?_) (fun aa=>?_)
 . have u:=ltB (by simpa using u)
   obtain⟨v,T⟩:=aN u;have O:=inB u;simp only[go_sem,I,F,E];refine dJ (by rfl) (by kernel_rfl) ?_;simp only[go_sem,I,F,E,aF T,O,Xaa];refine aA (fun J=>?_) (fun J=>?_)
   . exact absurd J (by simp)
   . simp only[go_sem,I,F,E,aP (show k<=4611686018427387904 by omega)]
     exact⟨⟨k+1,u,rfl⟩,by simp only[aE];omega⟩
 simp only[go_sem,I,F,E];refine PC.use (Nz c.route.visits M) ?_;simp only[go_sem];exact .refl _
end Go.Proofs.YtohmomanmikphaaGreatDoor.Nu.Ps
end
section
namespace Go.Proofs.YtohmomanmikphaaGreatDoor.Nu
open Go.Aw Go.Aw.D Go.Proofs Ty Go.Nu
open Dec (pU eL fS)
end Go.Proofs.YtohmomanmikphaaGreatDoor.Nu
end
section
namespace Go.Proofs.YtohmomanmikphaaGreatDoor.Nu.Ps
open Go.Aw Go.Aw.D Go.Proofs Ty Go.Nu Go.So
open Dec (pU eL fS)
open Sq (EvalB BestQ rL mC dQ gM kQ)
theorem UK{x:Instance}{c:Column}(E:x.orders.length<=8)(h:c∈rL x):c.route.rests.length<=1048576/\c.route.visits.length<=1048576:=by
 obtain⟨k,s,h⟩:=mC E h;obtain⟨l,u,_,_,F⟩:=h.is;have:=Sq.G2 (x:=x) (Int.le_of_lt h.pos) h.top (by omega);rw[u];exact⟨Xab _,by show l.length<=1048576;omega⟩
end Go.Proofs.YtohmomanmikphaaGreatDoor.Nu.Ps
end
section
namespace Go.Proofs.YtohmomanmikphaaGreatDoor.Nu.Ps
open Go.Proofs.Tryz(prog)
open Go.Aw Go.Aw.D Go.Proofs Ty Go.Nu Go.So
open Dec (pU eL fS)
open Sq (EvalB BestQ rL mC dQ gM kQ)
theorem VH{x:Instance}{d:Nat}{cuts:List Cut}{ds:List Decision}{dual:List ByteArray}(h:(pQ x d cuts ds dual).2.2≠0):
   (BL x d cuts ds dual 8192).1=[]/\((BL x d cuts ds dual 8192).2=(pQ x d cuts ds dual).2.2\/((pQ x d cuts ds dual).2.2=24/\(BL x d cuts ds dual 8192).2=0)):=by
 unfold pQ at h |-;unfold BL;by_cases h1:(nN x d cuts ds dual != 0)=true
 . rw[if_pos h1,if_pos h1]
   exact⟨rfl,.inl rfl⟩
 rw[if_neg h1]at h |-;rw[if_neg h1,if_neg (show ¬(decide ((8192:Int)<1)||decide ((8192:Int)>8192))=true by decide)];by_cases u:((mL x cuts ds dual).2 != 0)=true
 . rw[if_pos u,if_pos u]
   exact⟨rfl,.inl rfl⟩
 rw[if_neg u]at h |-;rw[if_neg u];generalize (mL x cuts ds dual).1=L at *;cases L with
 | nil=>exact⟨rfl,.inr ⟨rfl,rfl⟩⟩
 | cons p l=>exact absurd rfl h
theorem UA{x:Instance}{d:Nat}{cuts:List Cut}{ds:List Decision}{dual:List ByteArray}(h:(pQ x d cuts ds dual).2.2=0):
   ∃p l,(cG x ds).1.map (fun c=>(⟨c,(bS x c cuts ds dual).1⟩:Priced))=p::l/\(pQ x d cuts ds dual).1=(lJ p l).column/\(pQ x d cuts ds dual).2.1=(lJ p l).reduced /\
     BL x d cuts ds dual 8192=(((zV (p::l)).take 8192).map (·.column),0)/\(cG x ds).2=0/\(∀c∈(cG x ds).1,(bS x c cuts ds dual).2=0)/\∀q∈cuts,qY x d q=0:=by
 unfold pQ at h |-;unfold BL;by_cases h1:(nN x d cuts ds dual != 0)=true
 . rw[if_pos h1]at h
   exact absurd h (by simpa using h1)
 rw[if_neg h1]at h |-;rw[if_neg h1,if_neg (show ¬(decide ((8192:Int)<1)||decide ((8192:Int)>8192))=true by decide)];by_cases u:((mL x cuts ds dual).2 != 0)=true
 . rw[if_pos u]at h
   exact absurd h (by simpa using u)
 rw[if_neg u]at h |-;rw[if_neg u];have J:=xF (x:=x) (d:=d) (cuts:=cuts) (ds:=ds) (dual:=dual) (by simpa using h1);have E:mL x cuts ds dual=(if((cG x ds).2 != 0)=true then([],(cG x ds).2)
   else if Dec.fJ ((cG x ds).1.map fun c=>(bS x c cuts ds dual).2)≠0 then([],Dec.fJ ((cG x ds).1.map fun c=>(bS x c cuts ds dual).2))
   else((cG x ds).1.map fun c=>⟨c,(bS x c cuts ds dual).1⟩,0)):=rfl
 have u:(mL x cuts ds dual).2=0:=by simpa using u
 generalize mL x cuts ds dual=Q at *;by_cases F:((cG x ds).2 != 0)=true
 . rw[if_pos F]at E
   rw[E]at u;exact absurd u (by simpa using F)
 rw[if_neg F]at E;by_cases I:Dec.fJ ((cG x ds).1.map fun c=>(bS x c cuts ds dual).2)≠0
 . rw[if_pos I]at E
   rw[E]at u;exact absurd u I
 rw[if_neg I]at E;subst E;simp only at h |-;generalize O:((cG x ds).1.map fun c=>(⟨c,(bS x c cuts ds dual).1⟩:Priced))=L at *;cases L with
 | nil=>exact absurd h (by decide)
 | cons p l=>exact⟨p,l,rfl,rfl,rfl,rfl,by simpa using F,fun c M=>Dec.tT (Decidable.not_not.1 I) _ (List.mem_map.2 ⟨c,M,rfl⟩),J⟩
theorem aaF{s:ByteArray}(h:bQ s=true):decide (yQ s<0)=decide (gJ s<0):=by
 have:=FW h;by_cases u:yQ s<0
 . rw[decide_eq_true u]
   rw[decide_eq_false (by omega)]at this;cases e:decide (gJ s<0)with
   | true=>rfl
   | false=>rw[e]at this;cases this
 . rw[decide_eq_false u]
   rw[decide_eq_true (by omega)]at this;cases e:decide (gJ s<0)with
   | false=>rfl
   | true=>rw[e]at this;cases this
theorem KA{x:Instance}(ds:List Decision)(F:x.orders.length<=3)(I:x.types.length<=3):(cG x ds).1.length<=24:=by
 have u:=Sq.uB x x.types.length;have J:2^x.orders.length<=8:=Xaj (Xat (by decide) F) (by decide);have E:x.types.length*2^x.orders.length<=24:=Xaj (Nat.mul_le_mul I J) (by decide);have u:(rL x).length<=24:=Xaj u E;unfold cG;split
 . exact Xab _
 . exact Xaj (Xbo _ _) u
theorem adD(a:Ask3)(hx:InB a.x)(hl:a.dual.length<=1048576)(hs:∀s∈a.dual,s.size<=1048576)(hq:∀q∈a.cuts,q.set<=9223372036854775807):PC prog 6 [.agg (gY a)] (boo true):=by
 have hF:=awO a hx hl;refine pcd Tryz.func6 ?_;unfold Tryz.f6;simp only[gdS];simp only[go_sem];refine PC.use hF ?_;simp only[go_sem];refine aA (fun hb=>?_) (fun hb=>?_)
 . simp only[go_sem]
   refine PC.use zR ?_;simp only[go_sem];exact .refl _
 have hf:PA a=true:=by simpa using hb
 obtain⟨a5,hn,bw,b4,b2,b5,_⟩:=aaL hf;have ae:=ZF a5 (by omega);have hM:MIn a.x a.cuts a.d:=⟨by omega,by omega,by omega,by omega⟩;have hB:=Q1 a.x _ a.cuts a.d a.dual ae hM hq hl hs;have hN:=WK a.x _ a.cuts a.d a.dual 8192 ae hM hq hl hs;have hA:=Sq.NC.pc2 (C1 a.x _ a.d ae (by omega));have an:=VH (x:=a.x) (d:=(jI a.x.types).toNat) (cuts:=a.cuts) (ds:=a.d) (dual:=a.dual);have ag:=UA (x:=a.x) (d:=(jI a.x.types).toNat) (cuts:=a.cuts) (ds:=a.d) (dual:=a.dual);have be:=KA a.d hn bw;have al:∀c∈(cG a.x a.d).1,c∈rL a.x:=fun c hc=>(Bl hc).1
 generalize pQ a.x (jI a.x.types).toNat a.cuts a.d a.dual=B at *;generalize BL a.x (jI a.x.types).toNat a.cuts a.d a.dual 8192=N at *;generalize cG a.x a.d=A at *;simp only[go_sem];refine PC.use hB ?_;simp only[go_sem];refine aK fun i3 aw=>?_
 simp only[go_sem];refine aJ (aB _ _ _) (by simp[dA]) ?_;generalize am:aI (aI _ i3 _) i3 _=HGi3;have R3:HGi3 i3=some (dQ [B.1]):=by rw[<-am,aB];try rfl
 clear am aw;simp only[go_sem,R3];refine PC.use hN ?_;simp only[go_sem,Xaa];refine aA (fun hb=>?_) (fun hb=>?_)
 . obtain⟨h1,h2⟩:=an (by simpa using hb)
   rw[h1];simp only[go_sem,List.length_nil];refine⟨boo true,fun _=>zR.q rfl,?_⟩;simp only[go_sem];refine cB ?_;rcases h2 with h2|⟨h2,h3⟩
   . rw[h2];simp
   . rw[h2,h3];simp
 have bj:B.2.2=0:=by simpa using hb
 obtain⟨p,l,hP,bc,bt,rfl,a0,hr,bo⟩:=ag bj;obtain⟨A,eA⟩:=A;simp only at hP a0 hr hA be al;subst a0;have ay:CutsB a.cuts:=⟨fun q E=>⟨AJ (bo q E),hq q E⟩⟩;have ah:∀q∈p::l,q.column∈A/\q.reduced=(bS a.x q.column a.cuts a.d a.dual).1:=fun q E=>by
   rw[<-hP]at E;obtain⟨c,hc,rfl⟩:=List.mem_map.1 E;exact⟨hc,rfl⟩
 have a8:∀q∈p::l,gJ (lJ p l).reduced<=gJ q.reduced:=fun q E=>by
   rcases Xbn.1 E with rfl|E
   . exact(Je l q).1
   . exact(Je l p).2 q E
 have a7:∀c∈A,gJ (lJ p l).reduced<=gJ (bS a.x c a.cuts a.d a.dual).1:=fun c hc=>
   a8 ⟨c,(bS a.x c a.cuts a.d a.dual).1⟩ (hP▸List.mem_map.2 ⟨c,hc,rfl⟩)
 have a4:∀q∈p::l,bQ q.reduced=true:=fun q E=>by
   obtain⟨h1,h2⟩:=ah q E;rw[h2];exact yK (hr _ h1)
 have aq:=a4 _ (Bw l p);have bi:=(ah _ (Bw l p)).1;have ao:((zV (p::l)).take 8192).length=(A.filter fun c=>qJ ⟨c,(bS a.x c a.cuts a.d a.dual).1⟩).length:=by
   have I:=Wi (p::l);have e2:((p::l).filter qJ).length=(A.filter fun c=>qJ ⟨c,(bS a.x c a.cuts a.d a.dual).1⟩).length:=by
     rw[<-hP,List.filter_map,Xaa];rfl
   have J:=Xbo (fun c=>qJ ⟨c,(bS a.x c a.cuts a.d a.dual).1⟩) A;rw[Xal,I,e2];omega
 have bf:∀q∈(zV (p::l)).take 8192,q∈p::l/\gJ q.reduced<0:=fun q E=>V9 (List.mem_of_mem_take E)
 have bz:Asc ((zV (p::l)).take 8192):=(YD (p::l)).sublist (List.take_sublist _ _);have bq:∀q,((zV (p::l)).take 8192)[0]?=some q->q=lJ p l:=fun q E=>Uy (by rw[List.getElem?_take]at E;simpa using E)
 replace R3:HGi3 i3=some (dQ [(lJ p l).column]):=by rw[<-bc];exact R3
 rw[bt];clear bc an ag;generalize (zV (p::l)).take 8192=NL at *;generalize lJ p l=m at *;have b6:NL.length<=24:=by rw[ao];exact Xaj (Xbo _ _) be
 simp only[go_sem];refine PC.use hA ?_;simp only[go_sem];refine⟨fun ρ H=>∃(k:Nat),k<=A.length/\ρ 1=.rp (gY a) 0/\ρ 3=.op i3 0 0/\ρ 4=str m.reduced/\ρ 6=.sl ((NL.map (·.column)).map aS)/\ρ 7=int 0/\ρ 8=.sl (A.map aS)/\ρ 9=int 0/\ρ 11=int k/\ρ 10=int (((A.take k).filter fun c=>qJ ⟨c,(bS a.x c a.cuts a.d a.dual).1⟩).length:Nat)/\H i3=some (dQ [m.column]),fun ρ _=>A.length-aT (ρ 11),⟨0,Xab _,by simp only[go_sem],by simp only[go_sem],by simp only[go_sem],by simp only[go_sem],by simp only[go_sem],by simp only[go_sem],by simp only[go_sem],(by simp only[go_sem];rfl),(by simp only[go_sem];rfl),R3⟩,?_⟩;rintro ρ H ⟨k,hk,I,J,e4,M,T,e8,O,F,u,R3⟩;simp only[go_sem,I,J,e4,M,T,e8,O,F,u];refine aA (fun ab=>?_) (fun ac=>?_)
 . have ab:=ltB (by simpa using ab)
   obtain⟨c,hc⟩:=aN ab;have b1:=inB ab;have aj:=Xae hc;have av:=al c aj;have af:=KL ae.n8 av;have hR:=DQ a.x c a.cuts a.d a.dual hM af.b ay af.price hl hs;rw[hr c aj]at hR;have ad:=yK (hr c aj);have b0:=a7 c aj;have ak:=Sq.Dn (p:=fun c=>qJ ⟨c,(bS a.x c a.cuts a.d a.dual).1⟩) hc;have a9:qJ ⟨c,(bS a.x c a.cuts a.d a.dual).1⟩=decide (gJ (bS a.x c a.cuts a.d a.dual).1<0):=rfl;generalize (bS a.x c a.cuts a.d a.dual).1=s at *;have bx:decide (zU s m.reduced<0)=false:=decide_eq_false fun h=>absurd ((Ox ad aq).1 h) (Rat.not_lt.2 b0)
   have au:=vR s m.reduced (Xaj (fB ad) (by decide)) (Xaj (fB aq) (by decide));have ar:=RX s (Xaj (fB ad) (by decide));simp only[go_sem,I,J,e4,M,T,e8,O,F,u];refine sM [(0,true),(1,true),(2,true),(3,true),(4,true),(5,true),(6,true),(7,true),(8,true),(9,true),(10,true),(11,true),(12,false),(13,true),(14,true),(15,true),(16,true),(17,true)] (by kernel_rfl) ?_;simp only[go_sem,I,J,e4,M,T,e8,O,F,u,aF hc,b1,Xaa];refine PC.use hR ?_;simp only[go_sem,I,J,e4,M,T,e8,O,F,u];refine⟨_,fun _=>au.q rfl,?_⟩;simp only[go_sem,I,J,e4,M,T,e8,O,F,u,bx];refine aA (fun hd=>absurd hd (by simp)) (fun _=>?_);simp only[go_sem,I,J,e4,M,T,e8,O,F,u];refine PC.use ar ?_;simp only[go_sem,I,J,e4,M,T,e8,O,F,u];rw[aaF ad];refine aA (fun hd=>?_) (fun hd=>?_)
   . rw[if_pos (a9.trans hd)]at ak
     have ba:=congrArg List.length ak;rw[Xac,List.length_singleton]at ba;have bv:=Xbo (fun c=>qJ ⟨c,(bS a.x c a.cuts a.d a.dual).1⟩) (A.take k);rw[Xal]at bv;generalize ((A.take k).filter fun c=>qJ ⟨c,(bS a.x c a.cuts a.d a.dual).1⟩).length=cn at *;simp only[go_sem,I,J,e4,M,T,e8,O,F,u,aP (show k<=4611686018427387904 by omega),aP (show cn<=4611686018427387904 by omega)];exact⟨⟨k+1,ab,rfl,by rw[ba],R3⟩,by simp only[aE];omega⟩
   . rw[if_neg (by rw[a9.trans hd];simp),Xah]at ak
     simp only[go_sem,I,J,e4,M,T,e8,O,F,u,aP (show k<=4611686018427387904 by omega)];exact⟨⟨k+1,ab,rfl,by rw[ak],R3⟩,by simp only[aE];omega⟩
 have ac:=geB hk (by simpa using ac);subst ac;rw[Xag]at u;rw[<-ao]at u;simp only[go_sem,I,J,e4,M,T,e8,O,F,u];refine⟨fun ρ H=>∃(k:Nat) (s:ByteArray),k<=NL.length/\ρ 1=.rp (gY a) 0/\ρ 3=.op i3 0 0/\ρ 6=.sl ((NL.map (·.column)).map aS)/\ρ 7=int 0/\ρ 9=int 0/\ρ 10=int (NL.length:Nat)/\ρ 15=int k/\ρ 14=str s/\bQ s=true/\(∀q,NL[k]?=some q->gJ s<=gJ q.reduced)/\H i3=some (dQ [m.column]),fun ρ _=>NL.length-aT (ρ 15),⟨0,m.reduced,Xab _,by simp only[go_sem,I,J,e4,M,T,e8,O,F,u],by simp only[go_sem,I,J,e4,M,T,e8,O,F,u],by simp only[go_sem,I,J,e4,M,T,e8,O,F,u],by simp only[go_sem,I,J,e4,M,T,e8,O,F,u],by simp only[go_sem,I,J,e4,M,T,e8,O,F,u],by simp only[go_sem,I,J,e4,M,T,e8,O,F,u],(by simp only[go_sem,I,J,e4,M,T,e8,O,F,u];rfl),by simp only[go_sem,I,J,e4,M,T,e8,O,F,u],aq,fun q E=>a8 q (bf q (Xae E)).1,R3⟩,?_⟩;rintro ρ H ⟨k,s,hk,I,J,M,T,O,u,aa,Z,ad,bg,R3⟩;simp only[go_sem,I,J,M,T,O,u,aa,Z];refine aA (fun ab=>?_) (fun ac=>?_)
 . have ab:=ltB (by simpa using ab)
   obtain⟨q,hq⟩:=aN ab;have b1:=inB ab;have br:=Xae hq;obtain⟨bd,bu⟩:=bf q br;obtain⟨ax,bm⟩:=ah q bd;have ai:=a4 q bd;have av:=al _ ax;have af:=KL ae.n8 av;have hR:=DQ a.x q.column a.cuts a.d a.dual hM af.b ay af.price hl hs;rw[hr _ ax,<-bm]at hR;have bn:(NL.map (·.column))[k]?=some q.column:=by rw[List.getElem?_map,hq];rfl
   have a6:decide (yQ q.reduced>=0)=false:=by rw[FW ai,decide_eq_true bu];rfl
   have bh:decide (zU q.reduced s<0)=false:=decide_eq_false fun h=>absurd ((Ox ai ad).1 h) (Rat.not_lt.2 (bg q hq))
   have au:=vR q.reduced s (Xaj (fB ai) (by decide)) (Xaj (fB ad) (by decide));have ar:=RX q.reduced (Xaj (fB ai) (by decide));have bk:∀q',NL[k+1]?=some q'->gJ q.reduced<=gJ q'.reduced:=fun q' E=>by
     obtain⟨u1,u2⟩:=List.getElem?_eq_some_iff.1 hq;obtain⟨w1,w2⟩:=List.getElem?_eq_some_iff.1 E;have:=List.pairwise_iff_getElem.1 bz k (k+1) u1 w1 (by omega);rw[u2,w2]at this;exact this
   simp only[go_sem,I,J,M,T,O,u,aa,Z];refine sM [(0,true),(1,true),(2,true),(3,true),(4,true),(5,true),(6,true),(7,true),(8,true),(9,true),(10,true),(11,true),(12,false),(13,true),(14,true),(15,true),(16,true),(17,true)] (by kernel_rfl) ?_;simp only[go_sem,I,J,M,T,O,u,aa,Z,aF bn,b1,Xaa];refine PC.use hR ?_;simp only[go_sem,I,J,M,T,O,u,aa,Z];refine⟨_,fun _=>ar.q rfl,?_⟩;simp only[go_sem,I,J,M,T,O,u,aa,Z,a6];refine⟨_,fun _=>au.q rfl,?_⟩;simp only[go_sem,I,J,M,T,O,u,aa,Z,a6,bh];refine aA (fun hd=>absurd hd (by simp)) (fun _=>?_);simp only[go_sem,I,J,M,T,O,u,aa,Z,aP (show k<=4611686018427387904 by omega)];exact⟨⟨k+1,q.reduced,ab,rfl,rfl,ai,bk,R3⟩,by simp only[aE];omega⟩
 have ac:=geB hk (by simpa using ac);subst ac;simp only[go_sem,I,J,M,T,O,u,aa,Z];refine fE [i3] [(0,true),(1,true),(2,true),(3,true),(4,true),(5,true),(6,true),(7,true),(8,true),(9,true),(10,true),(11,true),(12,true),(13,true),(14,true),(15,true),(16,true),(17,true),(18,true),(19,true),(20,true),(21,true),(22,true),(23,true),(24,true),(25,true),(26,true)] (by simp[R3]) (by kernel_rfl) fun Hp Hr hp hr _ b3=>?_
 have az:=(hp i3 (by simp)).trans R3;simp only[go_sem,I,J,M,T,O,u,aa,Z,Xaa,az];have bb:=UK ae.n8 (al _ bi);have ap:=ND m.column bb.1 bb.2;cases NL with
 | nil=>
   refine⟨fun h=>absurd h.2 (by simp),fun h=>absurd h.2 (by simp),boo true,fun h=>absurd h.2 (by simp),?_⟩;simp only[go_sem,I,J,M,T,O,u,aa,Z];refine⟨boo true,fun _=>zR.q rfl,?_⟩;simp only[go_sem,I,J,M,T,O,u,aa,Z];refine jY hr ?_;simp only[go_sem];exact cB (by simp)
 | cons q r=>
   have bp:q=m:=bq q rfl;subst bp;have g0:(List.map aS (List.map (fun x:Priced=>x.column) (q::r))).getD 0 []=aS q.column:=rfl;rw[g0];refine⟨fun _=>⟨⟨by omega,by simp only[Xad];omega⟩,dA _⟩,fun _=>by rw[dA];exact Xaf 7,boo true,fun _=>ap.q rfl,?_⟩;simp only[go_sem,I,J,M,T,O,u,aa,Z];refine⟨boo true,fun _=>zR.q rfl,?_⟩;simp only[go_sem,I,J,M,T,O,u,aa,Z];refine jY hr ?_;simp only[go_sem];exact cB (by simp)
end Go.Proofs.YtohmomanmikphaaGreatDoor.Nu.Ps
end
section
namespace Go.Proofs.YtohmomanmikphaaGreatDoor
open Go.Aw Go.Aw.D
theorem inB_of{x:Instance}(h:CW 1048576 x):InB x:=by
 obtain⟨⟨J,E⟩,u,F,O,M⟩:=h;exact⟨J.1,J.2,E.1,fun a T=>⟨(E.2 a T).2.2.2.2.1.1,(E.2 a T).2.2.2.2.2.1⟩,u.1,fun t I=>⟨(u.2 t I).1,(u.2 t I).2.2.2.2.1.1⟩,F.1,fun t I=>⟨(F.2 t I).1,(F.2 t I).2.1.1⟩,O.1,M.1⟩
theorem pricingLeast_holds:Rows.PricingLeastUptoCardSaid:=pricingLeast.card fun a u=>Nu.Ps.adD a (inB_of u.1) u.2.2.2.1 u.2.2.2.2 fun q h=>(u.2.1.2 q h).2.1.2
#print axioms pricingLeast_holds
end Go.Proofs.YtohmomanmikphaaGreatDoor
end
