import Derived.Test.YtohmomanmikphaaGreatDoorPl13
set_option linter.unusedSimpArgs false
set_option linter.unusedVariables false
set_option maxRecDepth 100000
section
namespace Go.Proofs.YtohmomanmikphaaGreatDoor.Sq
open Go.Proofs.Tryz(prog)
open Go.Aw Go.Aw.D Go.Proofs Ty
open Mv (cH dK NC.pc aZ)
theorem pP{α:Type}{p:α->Bool}:∀(l:List α) (n:Int),0<=n->decide (nA p l n>=0)=l.any p
 | [],n,_=>rfl
 | a::r,n,hn=>by
   have ih:=pP (p:=p) r (n+1) (by omega);rw[Xax]at ih |-;simp only[decide_eq_true_eq]at ih |-;rw[List.any_cons,Xbt,<-ih];by_cases h:p a=true
   . rw[show nA p (a::r) n=n from if_pos h];exact⟨fun _=>.inl h,fun _=>hn⟩
   . rw[show nA p (a::r) n=nA p r (n+1)from if_neg h];exact⟨fun x=>.inr x,fun x=>x.resolve_left h⟩
theorem JC(l:List Int):(sP l).length=1:=(rfl)
theorem UN(l:List Int):(sP l).getD 0 .any=.sl (l.map bJ):=(rfl)
attribute [go_sem] JC UN
theorem AZ{g:Nat}{cap:List AV}{p:Visit->Bool}(l:List (Visit))(hl:l.length<=1048576)(T:aC prog g=true)(hg:∀v∈l,PC prog g (.agg (aL v)::cap) (boo (p v))):
   PC prog 345 [.sl (l.map aL),.fn g cap] (int (nA p l 0)):=by
 refine pcd Tryz.func345 ?_;unfold Tryz.f345;simp only[gdS];simp only[go_sem];refine⟨fun ρ _=>∃k:Nat,k<=l.length/\ρ 0=.sl (l.map aL)/\ρ 1=.fn g cap/\ρ 7=int l.length/\ρ 8=int k/\∀u∈l.take k,p u=false,fun ρ _=>l.length-aT (ρ 8),⟨0,Xab _,rfl,rfl,rfl,rfl,by simp⟩,?_⟩;rintro ρ H ⟨k,hk,h0,h1,M,I,O⟩;simp only[go_sem,h0,h1,M,I];refine aA (fun E=>?_) (fun F=>?_)
 . have E:=bD E
   obtain⟨u,J⟩:=aN E;have b1:=inB E;simp only[go_sem,h0,h1,M,I,aF J,b1,T];refine PC.use (hg u (Xae J)) ?_;simp only[go_sem,h0,h1,M,I];refine aA (fun Z=>?_) (fun Z=>?_)
   . simp only[go_sem,I]
     exact cH (by rw[nQ O J Z];omega)
   . simp only[go_sem,h0,h1,M,I,aP (show k<=4611686018427387904 by omega)]
     exact⟨⟨k+1,E,rfl,aZ (p:=fun u=>p u=false) J Z O⟩,by simp only[aE];omega⟩
 . have F:=bF hk F
   subst F;rw[Xag]at O;simp only[go_sem];exact cH (by rw[lM O])
theorem pY{g:Nat}{cap:List AV}{p:Visit->Bool}(l:List (Visit))(F:l.length<=1048576)(u:aC prog g=true)(E:∀v∈l,PC prog g (.agg (aL v)::cap) (boo (p v))):
   PC prog 306 [.sl (l.map aL),.fn g cap] (boo (l.any p)):=by
 refine pcd Tryz.func306 ?_;unfold Tryz.f306;simp only[gdS];simp only[go_sem];refine PC.use (AZ l F u E) ?_;simp only[go_sem];exact dK (pP l 0 (Xch _))
theorem Jt{g:Nat}{cap:List AV}{p:List Int->Bool}(l:List (List Int))(hl:l.length<=1048576)(T:aC prog g=true)(hg:∀v∈l,PC prog g (.sl (v.map bJ)::cap) (boo (p v))):
   PC prog 354 [.sl (l.map sP),.fn g cap] (int (nA p l 0)):=by
 refine pcd Tryz.func354 ?_;unfold Tryz.f354;simp only[gdS];simp only[go_sem];refine⟨fun ρ _=>∃k:Nat,k<=l.length/\ρ 0=.sl (l.map sP)/\ρ 1=.fn g cap/\ρ 7=int l.length/\ρ 8=int k/\∀u∈l.take k,p u=false,fun ρ _=>l.length-aT (ρ 8),⟨0,Xab _,rfl,rfl,rfl,rfl,by simp⟩,?_⟩;rintro ρ H ⟨k,hk,h0,h1,M,I,O⟩;simp only[go_sem,h0,h1,M,I];refine aA (fun E=>?_) (fun F=>?_)
 . have E:=bD E
   obtain⟨u,J⟩:=aN E;have b1:=inB E;simp only[go_sem,h0,h1,M,I,aF J,b1,T];refine PC.use (hg u (Xae J)) ?_;simp only[go_sem,h0,h1,M,I];refine aA (fun Z=>?_) (fun Z=>?_)
   . simp only[go_sem,I]
     exact cH (by rw[nQ O J Z];omega)
   . simp only[go_sem,h0,h1,M,I,aP (show k<=4611686018427387904 by omega)]
     exact⟨⟨k+1,E,rfl,aZ (p:=fun u=>p u=false) J Z O⟩,by simp only[aE];omega⟩
 . have F:=bF hk F
   subst F;rw[Xag]at O;simp only[go_sem];exact cH (by rw[lM O])
theorem D7{g:Nat}{cap:List AV}{p:List Int->Bool}(l:List (List Int))(F:l.length<=1048576)(u:aC prog g=true)(E:∀v∈l,PC prog g (.sl (v.map bJ)::cap) (boo (p v))):
   PC prog 315 [.sl (l.map sP),.fn g cap] (boo (l.any p)):=by
 refine pcd Tryz.func315 ?_;unfold Tryz.f315;simp only[gdS];simp only[go_sem];refine PC.use (Jt l F u E) ?_;simp only[go_sem];exact dK (pP l 0 (Xch _))
theorem Td(l:List Visit)(v:Visit)(hl:l.length<=1048576):PC prog 325 [.sl (l.map aL),.agg (aL v)] (int (fK l v)):=by
 refine pcd Tryz.func325 ?_;unfold Tryz.f325;simp only[gdS];simp only[go_sem];refine⟨fun ρ _=>∃k:Nat,k<=l.length/\ρ 0=.sl (l.map aL)/\ρ 3=.rp (aL v) 0/\ρ 7=int l.length/\ρ 8=int k/\∀u∈l.take k,F0 v u=false,fun ρ _=>l.length-aT (ρ 8),⟨0,Xab _,rfl,rfl,rfl,rfl,by simp⟩,?_⟩;rintro ρ H ⟨k,hk,h0,T,M,J,O⟩;simp only[go_sem,h0,T,M,J];refine aA (fun E=>?_) (fun I=>?_)
 . have E:=bD E
   obtain⟨u,Z⟩:=aN E;have b1:=inB E;have su:(v.order == u.order&&(v.drop == u.drop&&true))=F0 v u:=by
     unfold F0;rw[show(v.order == u.order)=(u.order == v.order)from Xax.2 (by simp only[Xaw];exact eq_comm),show(v.drop == u.drop)=(u.drop == v.drop)from by cases v.drop <;> cases u.drop <;> rfl]
   simp only[go_sem,h0,T,M,J];refine dJ (by rfl) (by kernel_rfl) ?_;simp only[go_sem,h0,T,M,J,aF Z,b1];refine aA (fun F=>?_) (fun F=>?_)
   . have F:F0 v u=true:=by rw[<-su];exact F
     simp only[go_sem,J];exact cH (by rw[fK,nQ O Z F];omega)
   . have F:F0 v u=false:=by rw[<-su];exact F
     simp only[go_sem,h0,T,M,J,aP (show k<=4611686018427387904 by omega)];exact⟨⟨k+1,E,rfl,aZ (p:=fun u=>F0 v u=false) Z F O⟩,by simp only[aE];omega⟩
 . have I:=bF hk I
   subst I;rw[Xag]at O;simp only[go_sem];exact cH (by rw[fK,lM O])
def inV(l:List Visit)(v:Visit):Bool:=decide (fK l v>=0)
theorem Qs(l:List Visit)(v:Visit)(u:l.length<=1048576):PC prog 346 [.sl (l.map aL),.agg (aL v)] (boo (inV l v)):=by
 refine pcd Tryz.func346 ?_;unfold Tryz.f346;simp only[gdS];simp only[go_sem];refine PC.use (Td l v u) ?_;simp only[go_sem];exact .refl _
theorem BI(l:List Visit)(v:Visit)(u:l.length<=1048576):PC prog 280 [.sl (l.map aL),.agg (aL v)] (int (fK l v)):=by
 refine pcd Tryz.func280 ?_;unfold Tryz.f280;simp only[gdS];simp only[go_sem];refine PC.use (Td l v u) ?_;simp only[go_sem];exact .refl _
def Fz(l:List Visit)(o:Int):Bool:=l.any fun v=>v.order == o
theorem aiJ(o:Int)(v:Visit):PC prog 347 [.agg (aL v),.rp [int o] 0] (boo (v.order == o)):=by
 refine pcd Tryz.func347 ?_;unfold Tryz.f347;simp only[gdS];simp only[go_sem];exact .refl _
theorem Ug(o:Int)(v:Visit):PC prog 348 [.agg (aL v),.rp [int o] 0] (boo (v.order == o)):=by
 refine pcd Tryz.func348 ?_;unfold Tryz.f348;simp only[gdS];simp only[go_sem];exact .refl _
theorem DM(l:List Visit)(o:Int)(u:l.length<=1048576):PC prog 311 [.sl (l.map aL),int o] (boo (Fz l o)):=by
 refine pcd Tryz.func311 ?_;unfold Tryz.f311;simp only[gdS];simp only[go_sem];refine PC.use (pY (p:=fun v=>v.order == o) l u (by kernel_rfl) (fun v _=>aiJ o v)) ?_;simp only[go_sem];exact .refl _
theorem QZ(l:List Order)(k:Int):PC prog 186 [.sl (l.map bE),int k] (boo (!dW k l.length)):=by
 refine pcd Tryz.func186 ?_;unfold Tryz.f186;simp only[gdS];simp only[go_sem];refine dK ?_;unfold dW;rw[Xax];simp
theorem vZ{α:Type}{p:α->Bool}{l:List α}{k:Nat}{x:α}(E:l[k]?=some x)(u:p x=false):l.all p=false:=by
 rw[List.all_eq_false];exact⟨x,Xae E,by simp[u]⟩
theorem BO{α:Type}{p:α->Bool}{l:List α}(h:∀x∈l.take l.length,p x=true):l.all p=true:=by
 rw[Xag]at h;rw[Xao];exact h
theorem WF(x:Int):rY .and .i64 x 1=x%2:=by
 have h:((BitVec.ofInt 64 x &&& BitVec.ofInt 64 1).toNat:Int)=x%2:=by
   rw[BitVec.toNat_and,BitVec.toNat_ofInt,BitVec.toNat_ofInt];have:((1:Int)%((2^64:Nat):Int)).toNat=1:=by decide
   rw[this,Nat.and_one_is_mod];omega
 refine Eq.trans (congrArg IntKind.i64.wrap h) ?_;exact aR (by omega)
theorem F3{a b:Nat}(E:a<2^63)(F:b<2^63):rY .or .i64 (a:Int) (b:Int)=((a ||| b:Nat):Int):=by
 have h:((BitVec.ofInt 64 (a:Int) ||| BitVec.ofInt 64 (b:Int)).toNat:Int)=((a ||| b:Nat):Int):=by
   rw[BitVec.toNat_or,BitVec.toNat_ofInt,BitVec.toNat_ofInt];have h1:((a:Int)%((2^64:Nat):Int)).toNat=a:=by omega
   have u:((b:Int)%((2^64:Nat):Int)).toNat=b:=by omega
   rw[h1,u]
 refine Eq.trans (congrArg IntKind.i64.wrap h) ?_;have:=Xcf E F;exact aR (by omega)
theorem rH{x:Int}{i:Nat}(h:i<=62):shV .shr .i64 x (i:Int)=x/2^i:=by
 show x.fdiv (2^min ((i:Int)).toNat 64)=_;have:min ((i:Int)).toNat 64=i:=by omega
 rw[this,Xcs _ (by exact Int.le_of_lt (Int.pow_pos (by decide)))]
theorem EH{i:Nat}(h:i<=62):shV .shl .i64 1 (i:Int)=((2^i:Nat):Int):=by
 show IntKind.i64.wrap (1*2^min ((i:Int)).toNat 64)=_;have:min ((i:Int)).toNat 64=i:=by omega
 rw[this,Int.one_mul];have u:(2:Nat)^i<=2^62:=Xat (by decide) h;have E:((2:Int)^i)=((2^i:Nat):Int):=by norm_cast
 rw[E];generalize 2^i=m at u;exact aR (by omega)
def dT(set i:Int):Bool:=decide (i>=0)&&decide (i<=62)&&((set/2^i.toNat)%2 == 1)
theorem wI(set i:Int):PC prog 121 [int set,int i] (boo (dT set i)):=by
 refine pcd Tryz.func121 ?_;unfold Tryz.f121;simp only[gdS];simp only[go_sem];refine⟨fun h=>?_,?_⟩
 . simp at h;omega
 . refine dK ?_
   unfold dT;rw[WF];by_cases h:0<=i/\i<=62
   . obtain⟨h0,h1⟩:=h
     have e:=rH (x:=set) (i:=i.toNat) (by omega);rw[Int.toNat_of_nonneg h0]at e;rw[e]
   . have:(decide (i>=0)&&decide (i<=62))=false:=by simp;omega
     rw[this];rfl
def Bz(l:List Visit):Nat:=l.foldl (fun s v=>s ||| 2^v.order.toNat) 0
theorem Vo(l:List Visit)(v:Visit):Bz (l++[v])=Bz l ||| 2^v.order.toNat:=by simp[Bz]
theorem Zt{m:Nat}(l:List Visit)(h:∀v∈l,v.order.toNat<m):Bz l<2^m:=by
 suffices ∀(l:List Visit) (s:Nat),s<2^m->(∀v∈l,v.order.toNat<m)->l.foldl (fun s v=>s ||| 2^v.order.toNat) s<2^m from this l 0 (Nat.two_pow_pos m) h
 intro l;induction l with
 | nil=>intro s u _;exact u
 | cons v r ih=>
   intro s u h;rw[List.foldl_cons];exact ih _ (Xcf u (Xci (by decide) (h v (by simp)))) fun v E=>h v (by simp[E])
theorem Wo(l:List Visit)(i:Nat):(Bz l).testBit i=l.any fun v=>v.order.toNat == i:=by
 suffices ∀(l:List Visit) (s:Nat),(l.foldl (fun s v=>s ||| 2^v.order.toNat) s).testBit i=(s.testBit i||l.any fun v=>v.order.toNat == i)from by
   have:=this l 0;simpa[Bz]using this
 intro l;induction l with
 | nil=>intro s;simp
 | cons v r ih=>
   intro s;rw[List.foldl_cons,ih,Nat.testBit_or,Nat.testBit_two_pow,List.any_cons,Bool.or_assoc];rfl
theorem Lz{s i:Nat}(h:s.testBit i=true):s ||| 2^i=s:=by
 apply Nat.eq_of_testBit_eq;intro j;rw[Nat.testBit_or,Nat.testBit_two_pow];by_cases e:i=j
 . subst e;simp[h]
 . simp[e]
def okV(v:Visit):Bool:= !(decide (v.order<0)||decide (v.order>62))
def sK(l:List Visit):Int×Int:=if l.all okV then(((Bz l:Nat):Int),0)else(0,2)
theorem Vb(r:Route)(hr:r.visits.length<=1048576):PC prog 349 [.agg (dL r)] (.tup [int (sK r.visits).1,int (sK r.visits).2]):=by
 refine pcd Tryz.func349 ?_;unfold Tryz.f349;simp only[gdS];simp only[go_sem];refine⟨fun ρ _=>∃k:Nat,k<=r.visits.length/\ρ 8=.sl (r.visits.map aL)/\ρ 9=int r.visits.length/\ρ 10=int k/\ρ 4=int (Bz (r.visits.take k):Nat)/\∀v∈r.visits.take k,okV v=true,fun ρ _=>r.visits.length-aT (ρ 10),⟨0,Xab _,rfl,rfl,rfl,rfl,by simp⟩,?_⟩;rintro ρ H ⟨k,hk,O,h9,E,M,hz⟩;simp only[go_sem,O,h9,E,M];refine aA (fun u=>?_) (fun J=>?_)
 . have u:=bD u
   obtain⟨v,F⟩:=aN u;have b1:=inB u;simp only[go_sem,O,h9,E,M,aF F,b1];refine aK fun j hj=>?_
   simp only[go_sem,O,h9,E,M,aF F,b1];refine aJ (aB _ _ _) (by simp[dG]) ?_;simp only[go_sem,O,h9,E,M,aF F,b1];refine aA (fun hb=>?_) (fun hb=>?_)
   . simp only[go_sem]
     have:sK r.visits=(0,2):=by unfold sK;rw[vZ F (by unfold okV;rw[hb];rfl)];rfl
     rw[this];exact .refl _
   . have Z:okV v=true:=by unfold okV;rw[hb];rfl
     have T:0<=v.order/\v.order<=62:=by simp[okV]at Z;omega
     have I:Bz (r.visits.take k)<2^63:=Zt _ fun v F=>by have:=hz v F;simp[okV]at this;omega
     have e1:=EH (i:=v.order.toNat) (by omega);rw[Int.toNat_of_nonneg T.1]at e1;have e2:=F3 (a:=Bz (r.visits.take k)) (b:=2^v.order.toNat) I (Xci (by decide) (by omega));simp only[go_sem,O,h9,E,M,aF F,b1,e1,e2,aP (show k<=4611686018427387904 by omega)];refine⟨T.1,⟨k+1,u,rfl,?_,aZ (p:=fun v=>okV v=true) F Z hz⟩,by simp only[aE];omega⟩;rw[bP F,Vo]
 . have J:=bF hk J
   subst J;simp only[go_sem,M];have:sK r.visits=(((Bz r.visits:Nat):Int),0):=by unfold sK;rw[BO hz];rfl
   rw[this,Xag];exact .refl _
theorem YO{s i:Nat}(F:s<2^63)(u:i<63)(h:s.testBit i=false):s ||| 2^i=s+2^i:=by
 have E:2^i<2^63:=Xci (by decide) u;have h0:BitVec.ofNat 64 s &&& BitVec.ofNat 64 (2^i)=0#64:=by
   apply BitVec.eq_of_toNat_eq;rw[BitVec.toNat_and,BitVec.toNat_ofNat,BitVec.toNat_ofNat,Xba (by omega),Xba (by omega)];apply Nat.eq_of_testBit_eq;intro j;rw[Nat.testBit_and,Nat.testBit_two_pow];by_cases e:i=j
   . subst e;simp[h]
   . simp[e]
 have h1:=congrArg BitVec.toNat (BitVec.add_eq_or_of_and_eq_zero (BitVec.ofNat 64 s) (BitVec.ofNat 64 (2^i)) h0);rw[BitVec.toNat_add,BitVec.toNat_or,BitVec.toNat_ofNat,BitVec.toNat_ofNat,Xba (by omega:s<2^64),Xba (by omega:2^i<2^64),Xba (by omega)]at h1;exact h1.symm
theorem CL{n:Int}(h:0<=n/\n<18446744073709551616):IntKind.u64.wrap n=n:=Mv.VE h
theorem uG{s:Nat}{i:Int}(h0:0<=i)(h1:i<=62):dT (s:Int) i=s.testBit i.toNat:=by
 rw[Nat.testBit_eq_decide_div_mod_eq];unfold dT;have u:((2:Int)^i.toNat)=((2^i.toNat:Nat):Int):=by norm_cast
 have:((s:Int)/2^i.toNat)=((s/2^i.toNat:Nat):Int):=by rw[u];rfl
 rw[this];generalize s/2^i.toNat=m;rw[Xax];simp only[Xaw,decide_eq_true_eq,Xap];omega
theorem TW{s:Nat}{i:Int}(h0:0<=i)(h1:i<=62):Ye (s:Int) i=s.testBit i.toNat:=by
 rw[<-uG h0 h1];unfold Ye dT;rw[CL (by omega)];obtain⟨n,rfl⟩:=Int.eq_ofNat_of_zero_le h0;rw[rH (by omega)];have u:((2:Int)^n)=((2^n:Nat):Int):=by norm_cast
 have e:((n:Int)).toNat=n:=Xbc n;rw[e];have:((s:Int)/2^n)=((s/2^n:Nat):Int):=by rw[u];rfl
 rw[this];generalize s/2^n=m;rw[Xcp (by omega)];rw[Xax];simp only[Xaw,decide_eq_true_eq,Xap];omega
theorem YY{s:Nat}{n:Int}(I:s<2^63)(h0:0<=n)(h1:n<=62):Zo (s:Int) n=((s ||| 2^n.toNat:Nat):Int):=by
 unfold Zo;rw[TW h0 h1];cases E:s.testBit n.toNat with
 | true=>rw[if_pos rfl,Lz E]
 | false=>
   rw[if_neg (by simp),CL (by omega)];obtain⟨k,rfl⟩:=Int.eq_ofNat_of_zero_le h0;have e:((k:Int)).toNat=k:=Xbc k;rw[e]at E |-;have J:2^k<2^63:=Xci (by decide) (by omega);have u:=YO I (by omega) E;have F:=Xcf I J;rw[u]at F |-;rw[EH (by omega),aR (by omega)];omega
theorem IY{l:List Visit}(h:∀v∈l,GY v=false):aeZ l=(Bz l:Nat):=by
 suffices ∀(l:List Visit) (s:Nat),s<2^63->(∀v∈l,GY v=false)->l.foldl (fun s v=>Zo s v.order) (s:Int)=((l.foldl (fun s v=>s ||| 2^v.order.toNat) s:Nat):Int)from this l 0 (by decide) h
 intro l;induction l with
 | nil=>intro s _ _;rfl
 | cons v r ih=>
   intro s F h;have E:=h v (by simp);unfold GY at E;simp only[Xak,decide_eq_false_iff_not]at E;rw[List.foldl_cons,List.foldl_cons,YY F (by omega) (by omega)];exact ih _ (Xcf F (Xci (by decide) (by omega))) fun u I=>h u (by simp[I])
theorem RA(v:Visit):okV v= !GY v:=rfl
theorem OC(l:List Visit):sK l=nD l:=by
 unfold sK nD;by_cases h:l.any GY=true
 . rw[if_pos h,if_neg]
   rw[Xao];intro I;obtain⟨v,u,E⟩:=Xbk.1 h;have:=I v u;rw[RA,E]at this;cases this
 . have F : ∀ v ∈ l, GY v = false := fun v u => by
     cases E:GY v with
     | false=>rfl
     | true=>exact absurd (Xbk.2 ⟨v,u,E⟩) h
   rw[if_neg h,if_pos (Xao.2 fun v u=>by rw[RA,F v u];rfl),IY F]
theorem Fb(r:Route)(u:r.visits.length<=1048576):PC prog 349 [.agg (dL r)] (.tup [int (nD r.visits).1,int (nD r.visits).2]):=OC r.visits▸Vb r u
def oC(o:Order)(i:Int):List Visit:=(if decide (o.pick.place>=0)=true then[⟨i,false⟩]else[])++(if decide (o.drop.place>=0)=true then[⟨i,true⟩]else[])
def jG(os:List Order)(i:Int):List Visit:=if dW i os.length=true then[]else match os[i.toNat]? with|some o=>oC o i|none=>[]
theorem Lf(o:Order)(i:Int):(oC o i).length<=2:=by unfold oC;split <;> split <;> simp
theorem rK(os:List Order)(i:Int):(jG os i).length<=2:=by
 unfold jG;split
 . simp
 . split
   . exact Lf _ _
   . simp
theorem qO(os:List Order)(i:Int):PC prog 118 [.sl (os.map bE),int i] (.sl ((jG os i).map aL)):=by
 refine pcb (fun t=>t == 5) Tryz.func118 ?_;unfold Tryz.f118;simp only[gdS];simp only[go_sem];refine aK fun j Z=>?_
 simp only[go_sem];refine PC.use (QZ os i) ?_;simp only[go_sem];refine aA (fun h0=>?_) (fun h0=>?_)
 . have I:dW i os.length=true:=by simpa using h0
   simp only[go_sem];rw[jG,if_pos I];exact .refl _
 have I:dW i os.length=false:=by simpa using h0
 have F:0<=i/\i<(os.length:Int):=by simp only[dW,Xak,decide_eq_false_iff_not]at I;omega
 obtain⟨o,E⟩:=aN (show i.toNat<os.length by omega);rw[jG,if_neg (by rw[I];simp),E];simp only[go_sem,aF E,F];refine aA (fun h1=>?_) (fun h1=>?_)
 . simp only[go_sem,aF E,F]
   refine aX (aB _ _ _) ⟨rfl,rfl⟩ ⟨rfl,trivial⟩ (by simp) (fun T O=>?_);simp only[go_sem,aF E,F];refine aA (fun u=>?_) (fun u=>?_)
   . simp only[go_sem,aF E,F]
     refine aX (aB _ _ _) ⟨rfl,rfl⟩ ⟨rfl,trivial⟩ (by simp) (fun M J=>?_);simp only[go_sem];have e:oC o i=[⟨i,false⟩,⟨i,true⟩]:=by unfold oC;rw[if_pos h1,if_pos u];rfl
     rw[e];exact .row _ _ _ (aB _ _ _) (ConvE.refl _)
   . simp only[go_sem]
     have e:oC o i=[⟨i,false⟩]:=by unfold oC;rw[if_pos h1,if_neg (by rw[u];simp)];rfl
     rw[e];exact .row _ _ _ (aB _ _ _) (ConvE.refl _)
 . simp only[go_sem,aF E,F]
   refine aA (fun u=>?_) (fun u=>?_)
   . simp only[go_sem,aF E,F]
     refine aX (aB _ _ _) ⟨rfl,rfl⟩ ⟨rfl,trivial⟩ (by simp) (fun M J=>?_);simp only[go_sem];have e:oC o i=[⟨i,true⟩]:=by unfold oC;rw[if_neg (by rw[h1];simp),if_pos u];rfl
     rw[e];exact .row _ _ _ (aB _ _ _) (ConvE.refl _)
   . simp only[go_sem]
     have e:oC o i=[]:=by unfold oC;rw[if_neg (by rw[h1];simp),if_neg (by rw[u];simp)];rfl
     rw[e];exact .row _ _ _ (aB _ _ _) (ConvE.refl _)
def vK(l:List Visit)(i:Nat):Bool:=decide (fK (l.take i) (l.getD i ⟨0,false⟩)>=0)
theorem Fk:∀l:List Visit,cZ 2 (l.map aL)
 | []=>trivial
 | _::r=>⟨rfl,Fk r⟩
theorem ZB(l:List Visit)(hl:l.length<=1048576):PC prog 309 [.sl (l.map aL)] (boo ((List.range l.length).any (vK l))):=by
 refine pcd Tryz.func309 ?_;unfold Tryz.f309;simp only[gdS];simp only[go_sem];refine⟨fun ρ _=>∃k:Nat,k<=l.length/\ρ 0=.sl (l.map aL)/\ρ 5=.sl (l.map aL)/\ρ 6=int l.length/\ρ 7=int k/\∀c∈(List.range l.length).take k,vK l c=false,fun ρ _=>l.length-aT (ρ 7),⟨0,Xab _,rfl,rfl,rfl,rfl,by simp⟩,?_⟩;rintro ρ H ⟨k,hk,h0,E,F,J,hz⟩;simp only[go_sem,h0,E,F,J];refine aA (fun u=>?_) (fun M=>?_)
 . have u:=bD u
   obtain⟨v,hv⟩:=aN u;have b1:=inB u;simp only[go_sem,h0,E,F,J,aF hv,b1];refine aK fun O T=>?_
   simp only[go_sem,h0,E,F,J];refine aJ (aB _ _ _) (by simp[dG]) ?_;generalize I:aI (aI _ O _) O _=HGi4;have Z:HGi4 O=some (⟨119,2,[aL v]⟩):=by rw[<-I,aB];try rfl
   clear I T;simp only[go_sem,h0,E,F,J,Z];refine fE [O] [(0,true),(1,true),(2,true),(3,true),(4,true),(5,true)] (by simp[Z]) (by kernel_rfl) fun Hp Hr hp hr _ aa=>?_
   have P4:=(hp O (by simp)).trans Z;simp only[go_sem,h0,E,F,J,P4,<-List.map_take];refine⟨by omega,_,(BI (l.take k) v (by simp;omega)).q rfl,?_⟩;simp only[go_sem,h0,E,F,J,P4];refine fI fun _ Hm _ _=>?_
   simp only[go_sem,h0,E,F,J];have ed:vK l k=decide (fK (l.take k) v>=0):=by simp[vK,List.getD,hv]
   refine aA (fun hb=>?_) (fun hb=>?_)
   . simp only[go_sem]
     exact dK (Xbk.2 ⟨k,Xbi.2 u,ed.trans hb⟩).symm
   . simp only[go_sem,h0,E,F,J,aP (show k<=4611686018427387904 by omega)]
     exact⟨⟨k+1,u,rfl,aZ (p:=fun c=>vK l c=false) (pA u) (ed.trans hb) hz⟩,by simp only[aE];omega⟩
 . have M:=bF hk M
   subst M;simp only[go_sem];refine dK ?_
   symm
   rw[List.any_eq_false];intro c hc;rw[hz c (by rw[Xan (by simp)];exact hc)];simp
def AM(l:List Visit):List Visit->Int->Bool
 | [],_=>true
 | w::r,last=>decide (fK l w>last)&&AM l r (fK l w)
def Dg(os:List Order)(l:List Visit)(v:Visit):Bool:=inV (jG os v.order) v&&AM l (jG os v.order) (-1)
theorem LB{α:Type}{l:List α}{k:Nat}{x:α}(h:l[k]?=some x):l.drop k=x::l.drop (k+1):=by
 obtain⟨u,rfl⟩:=List.getElem?_eq_some_iff.1 h;exact Xbz u
theorem WL(x:Instance)(l:List Visit)(hl:l.length<=1048576):PC prog 310 [.agg (aG x),.sl (l.map aL)] (boo (l.all (Dg x.orders l))):=by
 refine pcd Tryz.func310 ?_;unfold Tryz.f310;simp only[gdS];simp only[go_sem];refine⟨fun ρ _=>∃k:Nat,k<=l.length/\ρ 1=.sl (l.map aL)/\ρ 2=.rp (aG x) 0/\ρ 12=.sl (l.map aL)/\ρ 13=int l.length/\ρ 14=int k/\∀v∈l.take k,Dg x.orders l v=true,fun ρ _=>l.length-aT (ρ 14),⟨0,Xab _,rfl,rfl,rfl,rfl,rfl,by simp⟩,?_⟩;rintro ρ H ⟨k,hk,h1,J,u,F,E,hz⟩;simp only[go_sem,h1,J,u,F,E];refine aA (fun aa=>?_) (fun ae=>?_)
 . have aa:=bD aa
   obtain⟨v,hv⟩:=aN aa;have b1:=inB aa;simp only[go_sem,h1,J,u,F,E,aF hv,b1];refine aK fun i6 ai=>?_
   simp only[go_sem,h1,J,u,F,E];refine aJ (aB _ _ _) (by simp[dG]) ?_;generalize ac:aI (aI _ i6 _) i6 _=HGi6;have R6:HGi6 i6=some (⟨119,2,[aL v]⟩):=by rw[<-ac,aB];try rfl
   clear ac ai;simp only[go_sem,h1,J,u,F,E,R6];refine PC.use (qO x.orders v.order) ?_;have aj:=rK x.orders v.order;simp only[go_sem,h1,J,u,F,E,R6];refine PC.use (Qs (jG x.orders v.order) v (by omega)) ?_;simp only[go_sem,h1,J,u,F,E,R6];refine aA (fun hb=>?_) (fun hb=>?_)
   . simp only[go_sem]
     refine dK ?_
     symm
     exact vZ hv (by unfold Dg;rw[show inV (jG x.orders v.order) v=false by simpa using hb];rfl)
   have ag:inV (jG x.orders v.order) v=true:=by simpa using hb
   simp only[go_sem,h1,J,u,F,E,R6];refine⟨fun ρ _=>∃(m:Nat) (last:Int),m<=(jG x.orders v.order).length/\ρ 1=.sl (l.map aL)/\ρ 2=.rp (aG x) 0/\ρ 12=.sl (l.map aL)/\ρ 13=int l.length/\ρ 14=int k/\ρ 27=.sl ((jG x.orders v.order).map aL)/\ρ 28=int (jG x.orders v.order).length/\ρ 29=int m/\ρ 8=int last/\AM l (jG x.orders v.order) (-1)=AM l ((jG x.orders v.order).drop m) last,fun ρ _=>(jG x.orders v.order).length-aT (ρ 29),
     ⟨0,-1,Xab _,by simp only[go_sem,h1],by simp only[go_sem,J],by simp only[go_sem,u],by simp only[go_sem,F],by simp only[go_sem,E],by simp only[go_sem],by simp only[go_sem,Xaa],by simp only[go_sem];rfl,by simp only[go_sem],rfl⟩,?_⟩
   clear h1 J u F E R6;rintro ρ H ⟨m,last,hm,h1,J,u,F,E,T,M,O,h8,he⟩;simp only[go_sem,h1,J,u,F,E,T,M,O,h8];refine aA (fun I=>?_) (fun ab=>?_)
   . have I:=bD I
     obtain⟨w,hw⟩:=aN I;have b2:=inB I;simp only[go_sem,h1,J,u,F,E,T,M,O,h8,aF hw,b2];refine aK fun af ad=>?_
     simp only[go_sem,h1,J,u,F,E,T,M,O,h8];refine aJ (aB _ _ _) (by simp[dG]) ?_;generalize Z:aI (aI _ af _) af _=HGi10;have ah:HGi10 af=some (⟨119,2,[aL w]⟩):=by rw[<-Z,aB];try rfl
     clear Z ad;simp only[go_sem,h1,J,u,F,E,T,M,O,h8,ah];refine PC.use (BI l w hl) ?_;simp only[go_sem,h1,J,u,F,E,T,M,O,h8,ah];rw[LB hw]at he;refine aA (fun hb=>?_) (fun hb=>?_)
     . simp only[go_sem]
       refine dK ?_
       symm
       refine vZ hv ?_;unfold Dg;rw[ag,he,AM];have:decide (fK l w>last)=false:=by simp at hb |-;exact hb
       rw[this];rfl
     . simp only[go_sem,h1,J,u,F,E,T,M,O,h8,aP (show m<=4611686018427387904 by omega)]
       refine⟨⟨m+1,_,I,rfl,rfl,?_⟩,by simp only[aE];omega⟩;rw[he,AM];have:decide (fK l w>last)=true:=by simp at hb |-;exact hb
       rw[this];rfl
   . have ab:=bF hm ab
     subst ab;rw[Xca,AM]at he;simp only[go_sem,h1,J,u,F,E,aP (show k<=4611686018427387904 by omega)];exact⟨⟨k+1,aa,rfl,aZ (p:=fun v=>Dg x.orders l v=true) hv (by unfold Dg;rw[ag,he];rfl) hz⟩,by simp only[aE];omega⟩
 . have ae:=bF hk ae
   subst ae;simp only[go_sem];exact dK (BO hz).symm
def TQ(l:List Visit)(a b:Int):Bool:=decide (nA (fun v:Visit=>v.order == b) l 0<0)||(Fz l a&& !Fz (l.drop (nA (fun v:Visit=>v.order == b) l 0).toNat) a)
theorem RU{α:Type}{p:α->Bool}:∀(l:List α) (n:Int),nA p l n<n+l.length\/nA p l n= -1
 | [],n=>.inr rfl
 | a::r,n=>by
   unfold nA;split
   . left;simp;omega
   . rcases RU (p:=p) r (n+1)with h|h
     . left;simp;omega
     . right;exact h
theorem Ww(l:List Visit)(a b:Int)(F:l.length<=1048576):PC prog 312 [.sl (l.map aL),int a,int b] (boo (TQ l a b)):=by
 refine pcd Tryz.func312 ?_;unfold Tryz.f312;simp only[gdS];simp only[go_sem];refine PC.use (AZ (p:=fun v=>v.order == b) l F (by simp only[go_sem]) fun v _=>Ug b v) ?_;simp only[go_sem];have J:=RU (p:=fun v:Visit=>v.order == b) l 0;generalize E:nA (fun v:Visit=>v.order == b) l 0=I at J;refine aA (fun h0=>?_) (fun h0=>?_)
 . simp only[go_sem]
   refine dK ?_;unfold TQ;rw[E,h0];rfl
 . have u:0<=I:=by simp at h0;exact h0
   simp only[go_sem];refine PC.use (DM l a F) ?_;simp only[go_sem,<-List.map_drop];refine⟨fun _=>⟨⟨u,by omega⟩,Fk l⟩,_,fun _=>(DM (l.drop I.toNat) a (by simp;omega)).q rfl,?_⟩;simp only[go_sem];refine dK ?_;unfold TQ;rw[E,h0];rfl
theorem Ya(x:Instance)(v:Visit):PC prog 307 [.agg (aL v),.rp (aG x) 0] (boo (dW v.order x.orders.length)):=by
 refine pcd Tryz.func307 ?_;unfold Tryz.f307;simp only[gdS];simp only[go_sem];exact .refl _
theorem Yw(x:Instance)(v:Visit)(h:dW v.order x.orders.length=false):PC prog 308 [.agg (aL v),.rp (aG x) 0] (boo (MM x v.order)):=by
 have E:0<=v.order/\v.order<(x.orders.length:Int):=by simp only[dW,Xak,decide_eq_false_iff_not]at h;omega
 obtain⟨o,u⟩:=aN (show v.order.toNat<x.orders.length by omega);refine pcd Tryz.func308 ?_;unfold Tryz.f308;simp only[gdS];simp only[go_sem];simp only[go_sem,aF u,E];exact dK (by unfold MM;rw[u])
def xB(x:Instance)(l:List Visit):Int:=
 if((l.length:Int) == 0||l.any fun v=>dW v.order x.orders.length)=true then 2
 else if(l.any fun v=>MM x v.order)=true then 9
 else if((List.range l.length).any (vK l))=true then 6
 else if(!l.all (Dg x.orders l))=true then 19
 else if(x.apart.any fun q=>Fz l q.a&&Fz l q.b)=true then 20
 else if(x.before.any fun q=> !TQ l q.a q.b)=true then 21 else 0
theorem F2(x:Instance)(r:Route)(hl:r.visits.length<=1048576)(ha:x.apart.length<=1048576)(hb:x.before.length<=1048576):PC prog 272 [.agg (aG x),.agg (dL r)] (int (xB x r.visits)):=by
 refine pcd Tryz.func272 ?_;unfold Tryz.f272;simp only[gdS];simp only[go_sem];refine⟨_,fun _=>(pY (p:=fun v=>dW v.order x.orders.length) r.visits hl (by simp only[go_sem]) fun v _=>Ya x v).q rfl,?_⟩;simp only[go_sem];refine aA (fun c1=>?_) (fun c1=>?_)
 . simp only[go_sem]
   exact cH (by unfold xB;rw[if_pos c1])
 have af:∀v∈r.visits,dW v.order x.orders.length=false:=fun v hv=>by
   rw[Xak]at c1;have:=List.any_eq_false.1 c1.2 v hv;simpa using this
 have c1:¬((r.visits.length:Int) == 0||r.visits.any fun v=>dW v.order x.orders.length)=true:=by rw[c1];simp
 simp only[go_sem];refine PC.use (pY (p:=fun v=>MM x v.order) r.visits hl (by simp only[go_sem]) fun v hv=>Yw x v (af v hv)) ?_;simp only[go_sem];refine aA (fun c2=>?_) (fun c2=>?_)
 . simp only[go_sem]
   exact cH (by unfold xB;rw[if_neg c1,if_pos c2])
 have c2:¬(r.visits.any fun v=>MM x v.order)=true:=by rw[c2];simp
 simp only[go_sem];refine PC.use (ZB r.visits hl) ?_;simp only[go_sem];refine aA (fun c3=>?_) (fun c3=>?_)
 . simp only[go_sem]
   exact cH (by unfold xB;rw[if_neg c1,if_neg c2,if_pos c3])
 have c3:¬((List.range r.visits.length).any (vK r.visits))=true:=by rw[c3];simp
 simp only[go_sem];refine PC.use (WL x r.visits hl) ?_;simp only[go_sem];refine aA (fun c4=>?_) (fun c4=>?_)
 . simp only[go_sem]
   exact cH (by unfold xB;rw[if_neg c1,if_neg c2,if_neg c3,if_pos c4])
 have c4:¬(!r.visits.all (Dg x.orders r.visits))=true:=by rw[c4];simp
 simp only[go_sem];refine⟨fun ρ _=>∃k:Nat,k<=x.apart.length/\ρ 2=.rp (aG x) 0/\ρ 5=.sl (r.visits.map aL)/\ρ 33=.sl (x.apart.map cM)/\ρ 34=int x.apart.length/\ρ 35=int k/\∀q∈x.apart.take k,(Fz r.visits q.a&&Fz r.visits q.b)=false,fun ρ _=>x.apart.length-aT (ρ 35),⟨0,Xab _,by simp only[go_sem],by simp only[go_sem],by simp only[go_sem],by simp only[go_sem],by simp only[go_sem];rfl,by simp⟩,?_⟩;rintro ρ H ⟨k,hk,h2,E,F,J,I,hz⟩;simp only[go_sem,h2,E,F,J,I];refine aA (fun u=>?_) (fun O=>?_)
 . have u:=bD u
   obtain⟨q,hq⟩:=aN u;have b1:=inB u;simp only[go_sem,h2,E,F,J,I,aF hq,b1];refine aK fun i7 ad=>?_
   simp only[go_sem,h2,E,F,J,I];refine aJ (aB _ _ _) (by simp[kX]) ?_;generalize ac:aI (aI _ i7 _) i7 _=HGi7;have R7:HGi7 i7=some (⟨194,2,[cM q]⟩):=by rw[<-ac,aB];try rfl
   clear ac ad;simp only[go_sem,h2,E,F,J,I,R7];refine⟨by decide,PC.use (DM r.visits q.a hl) ?_⟩;simp only[go_sem,h2,E,F,J,I,R7];refine⟨fun _=>by decide,_,fun _=>(DM r.visits q.b hl).q rfl,?_⟩;simp only[go_sem,h2,E,F,J,I];refine aA (fun M=>?_) (fun M=>?_)
   . simp only[go_sem]
     exact cH (by unfold xB;rw[if_neg c1,if_neg c2,if_neg c3,if_neg c4,if_pos (Xbk.2 ⟨q,Xae hq,M⟩)])
   . simp only[go_sem,h2,E,F,J,I,aP (show k<=4611686018427387904 by omega)]
     exact⟨⟨k+1,u,rfl,aZ (p:=fun q:Pair=>(Fz r.visits q.a&&Fz r.visits q.b)=false) hq M hz⟩,by simp only[aE];omega⟩
 have O:=bF hk O;subst O;rw[Xag]at hz;have c5:¬(x.apart.any fun q=>Fz r.visits q.a&&Fz r.visits q.b)=true:=by rw[AU hz];simp
 simp only[go_sem,h2,E];refine⟨fun ρ _=>∃k:Nat,k<=x.before.length/\ρ 5=.sl (r.visits.map aL)/\ρ 51=.sl (x.before.map cM)/\ρ 52=int x.before.length/\ρ 53=int k/\∀q∈x.before.take k,(!TQ r.visits q.a q.b)=false,fun ρ _=>x.before.length-aT (ρ 53),⟨0,Xab _,by simp only[go_sem,E],by simp only[go_sem],by simp only[go_sem],by simp only[go_sem];rfl,by simp⟩,?_⟩;clear h2 E F J I hz hk;rintro ρ H ⟨k,hk,E,T,Z,aa,hz⟩;simp only[go_sem,E,T,Z,aa];refine aA (fun u=>?_) (fun O=>?_)
 . have u:=bD u
   obtain⟨q,hq⟩:=aN u;have b1:=inB u;simp only[go_sem,E,T,Z,aa,aF hq,b1];refine aK fun i9 ae=>?_
   simp only[go_sem,E,T,Z,aa];refine aJ (aB _ _ _) (by simp[kX]) ?_;generalize ab:aI (aI _ i9 _) i9 _=HGi9;have R9:HGi9 i9=some (⟨194,2,[cM q]⟩):=by rw[<-ab,aB];try rfl
   clear ab ae;simp only[go_sem,E,T,Z,aa,R9];refine⟨by decide,⟨by decide,PC.use (Ww r.visits q.a q.b hl) ?_⟩⟩;simp only[go_sem,E,T,Z,aa];refine aA (fun M=>?_) (fun M=>?_)
   . simp only[go_sem]
     exact cH (by unfold xB;rw[if_neg c1,if_neg c2,if_neg c3,if_neg c4,if_neg c5,if_pos (Xbk.2 ⟨q,Xae hq,M⟩)])
   . simp only[go_sem,E,T,Z,aa,aP (show k<=4611686018427387904 by omega)]
     exact⟨⟨k+1,u,rfl,aZ (p:=fun q:Pair=>(!TQ r.visits q.a q.b)=false) hq M hz⟩,by simp only[aE];omega⟩
 have O:=bF hk O;subst O;rw[Xag]at hz;simp only[go_sem];exact cH (by unfold xB;rw[if_neg c1,if_neg c2,if_neg c3,if_neg c4,if_neg c5,if_neg (by rw[AU hz];simp)])
def fH(x:Instance)(v:Visit):Stop×Int:=if(iZ x v).2=true then((iZ x v).1,0)else(kH,if dW v.order x.orders.length=true then 2 else 19)
theorem SX(x:Instance)(v:Visit):PC prog 191 [.sl (x.orders.map bE),.agg (aL v)] (.tup [.agg (eI (fH x v).1),int (fH x v).2]):=by
 refine pcd Tryz.func191 ?_;unfold Tryz.f191;simp only[gdS];simp only[go_sem];refine aK fun T ac=>?_
 generalize J:aI _ T _=HGi4;have E:HGi4 T=some (yZ kH):=by rw[<-J,aB];try rfl
 clear J ac;simp only[go_sem,E];refine PC.use (QZ x.orders v.order) ?_;simp only[go_sem];refine aA (fun h1=>?_) (fun h1=>?_)
 . have h1:dW v.order x.orders.length=true:=by simpa using h1
   have e:fH x v=(kH,2):=by unfold fH iZ;rw[if_pos h1,if_pos h1];rfl
   rw[e];simp only[go_sem];refine aJ E (by simp) ?_;simp only[go_sem];exact .refl _
 have h1:dW v.order x.orders.length=false:=by simpa using h1
 have aa:0<=v.order/\v.order<(x.orders.length:Int):=by
   simp only[dW,Xak,decide_eq_false_iff_not]at h1;omega
 obtain⟨o,ho⟩:=aN (show v.order.toNat<x.orders.length by omega);have e0:iZ x v=(wV o v,decide ((wV o v).place>=0)):=by unfold iZ;rw[if_neg (by rw[h1];simp),ho]
 have e:fH x v=if(wV o v).place<0 then(kH,19)else(wV o v,0):=by
   unfold fH;rw[e0,if_neg (show ¬dW v.order x.orders.length=true by rw[h1];simp)];by_cases h:(wV o v).place<0
   . rw[if_pos h,if_neg (by simp;omega)]
   . rw[if_neg h,if_pos (by simp;omega)]
 rw[e];simp only[go_sem,aF ho,aa];refine aK fun Z I=>?_
 have u:T≠Z:=aQ E I;simp only[go_sem,E];refine aJ (aB _ _ _) (by simp[lD]) ?_;generalize F:aI (aI _ Z _) Z _=HGi6;replace E:=(congrFun F.symm T).trans ((aD _ _ _ _ u).trans ((aD _ _ _ _ u).trans E));have O:HGi6 Z=some (yZ o.pick):=by rw[<-F,aB];try rfl
 clear F I;simp only[go_sem,O,E];refine bH (fun ab H'=>ab 4=.op T 0 0/\ab 6=.op Z 0 0/\H' T=some (yZ kH)/\H' Z=some (yZ (wV o v))) ?_ fun K hK=>aA (fun hb=>?_) (fun hb=>?_)
 . clear E O
   rintro ρ H ⟨h4,h6,E,O⟩;simp only[go_sem,h4,h6,O];refine aA (fun M=>?_) (fun M=>?_)
   . have M:(wV o v).place<0:=by simpa using M
     rw[if_pos M];simp only[go_sem,h4];refine aJ E (by simp) ?_;simp only[go_sem,h4];exact .refl _
   . have M:¬(wV o v).place<0:=by simpa using M
     rw[if_neg M];simp only[go_sem,h4,h6,O];refine aJ E (by simp[lD]) ?_;simp only[go_sem,h4];exact .refl _
 . simp only[go_sem,aF ho,aa]
   refine aJ O (by simp[lD]) ?_;simp only[go_sem];refine hK _ _ ⟨by simp only[go_sem],by simp only[go_sem],by rw[aD _ _ _ _ u];exact E,?_⟩;rw[aB,wV,if_pos hb];rfl
 . simp only[go_sem]
   refine hK _ _ ⟨by simp only[go_sem],by simp only[go_sem],E,?_⟩;rw[wV,if_neg (by rw[hb];simp)];exact O
def rI(set:Int)(k:Nat):List Int:=((List.range k).filter fun i:Nat=>dT set (i:Int)).map fun i:Nat=>(i:Int)
def gE(set:Int):List Int:=rI set 63
theorem oY(set:Int)(k:Nat):rI set (k+1)=rI set k++(if dT set (k:Int)=true then[(k:Int)]else[]):=by
 unfold rI;rw[Xbr,List.filter_append,Xam];by_cases h:dT set (k:Int)=true
 . simp[h]
 . simp[h]
theorem rQ(set:Int)(k:Nat):(rI set k).length<=k:=by
 unfold rI;rw[Xaa];exact Xaj (Xbo _ _) (by simp)
theorem mX(set:Int):PC prog 117 [int set] (.sl ((gE set).map bJ)):=by
 refine pcb (fun t=>t == 3) Tryz.func117 ?_;unfold Tryz.f117;simp only[gdS];simp only[go_sem];refine aK fun j T=>?_
 simp only[go_sem];refine⟨fun ρ H=>∃k:Nat,k<=63/\ρ 0=int set/\ρ 5=int k/\∃j,ρ 3=.os j/\H j=some (pR (rI set k)),fun ρ _=>63-aT (ρ 5),⟨0,Xab _,rfl,rfl,j,rfl,aB _ _ _⟩,?_⟩;clear T;rintro ρ H ⟨k,Z,h0,I,j,E,R⟩;simp only[go_sem,h0,I,E];refine aA (fun u=>?_) (fun F=>?_)
 . have u:k<63:=by simp at u;omega
   simp only[go_sem,h0,I,E];refine PC.use (wI set k) ?_;simp only[go_sem,h0,I,E];refine aA (fun J=>?_) (fun J=>?_)
   . simp only[go_sem,h0,I,E]
     refine aX R ⟨rfl,rfl⟩ ⟨rfl,trivial⟩ (by have:=rQ set k;simp;omega) (fun O M=>?_);simp only[go_sem,h0,I,E,aP (show k<=4611686018427387904 by omega)];refine⟨⟨k+1,u,rfl,O,rfl,?_⟩,by simp only[aE];omega⟩;rw[oY,if_pos J];exact fY (l':=[(k:Int)]) rfl
   . simp only[go_sem,h0,I,E,aP (show k<=4611686018427387904 by omega)]
     refine⟨⟨k+1,u,rfl,j,rfl,?_⟩,by simp only[aE];omega⟩;rw[oY,if_neg (by rw[J];simp),Xah];exact R
 . have F:k=63:=by simp at F;omega
   subst F;simp only[go_sem,E];exact .row _ _ _ R (ConvE.refl _)
def afY(a b:Int):Int:=W (a+b)
def VB(a b:Int):Int:=W (a-b)
theorem ajH(a b:Int):PC prog 372 [int a,int b] (int (afY a b)):=by
 refine pcd Tryz.func372 ?_;unfold Tryz.f372;simp only[gdS];simp only[go_sem];exact .refl _
theorem Er(a b:Int):PC prog 373 [int a,int b] (int (VB a b)):=by
 refine pcd Tryz.func373 ?_;unfold Tryz.f373;simp only[gdS];simp only[go_sem];exact .refl _
theorem WZ{α:Type}{l:List α}{k n:Nat}{x z:α}(E:l.length=n)(h:l[k]?=some x):(l.take k++List.replicate (n-k) z).set k x=l.take (k+1)++List.replicate (n-(k+1)) z:=by
 have u:=(List.getElem?_eq_some_iff.1 h).1;have e:n-k=(n-(k+1))+1:=by omega
 rw[bP h,e,List.replicate_succ,List.set_append_right _ _ (by simp;omega)];have:k-(l.take k).length=0:=by simp;omega
 rw[this,List.set_cons_zero];simp
theorem IT{g:Nat}{op:Int->Int->Int}(a b:List Int)(hl:a.length<=1048576)(T:a.length=b.length)(ab:aC prog g=true)(hg:∀p q,PC prog g [int p,int q] (int (op p q))):
   NC prog 371 [.sl (a.map bJ),.sl (b.map bJ),.v (.func (.func g) #[] #[])] (pR (List.zipWith op a b)) (fun j=>.tup [.os j,int 0]):=by
 have O:(List.zipWith op a b).length=a.length:=by rw[List.length_zipWith,<-T,Nat.min_self]
 refine ncb (fun _=>false) Tryz.func371 ?_;unfold Tryz.f371;simp only[gdS];simp only[go_sem];refine aA (fun hb=>by rw[T]at hb;simp at hb) (fun _=>?_);simp only[go_sem];refine⟨⟨by omega,by omega⟩,aK fun j hj=>?_⟩;simp only[go_sem];refine⟨fun ρ H=>∃k:Nat,k<=a.length/\ρ 0=.sl (a.map bJ)/\ρ 1=.sl (b.map bJ)/\ρ 2=.v (.func (.func g) #[] #[])/\ρ 8=.os j/\ρ 19=int a.length/\ρ 20=int k/\H j=some (pR ((List.zipWith op a b).take k++List.replicate (a.length-k) 0)),fun ρ _=>a.length-aT (ρ 20),⟨0,Xab _,rfl,rfl,rfl,rfl,by simp only[go_sem,Xaa],rfl,?_⟩,?_⟩
 . rw[aB]
   simp[pR,List.map_replicate,bJ]
 clear hj;rintro ρ H ⟨k,hk,h0,h1,Z,M,E,F,R⟩;simp only[go_sem,h0,h1,Z,M,E,F];refine aA (fun u=>?_) (fun J=>?_)
 . have u:=bD u
   obtain⟨p,hp⟩:=aN u;obtain⟨q,hq⟩:=aN (show k<b.length by omega);have b1:=inB u;have b2:=inB (show k<b.length by omega);simp only[go_sem,h0,h1,Z,M,E,F];refine sM [(0,true),(1,true),(2,true),(3,true),(4,true),(5,true),(6,true),(7,true),(8,false),(9,false),(10,false),(11,false),(12,false),(13,false)] (by kernel_rfl) ?_;simp only[go_sem,h0,h1,Z,M,E,F,aF hp,aF hq,b1,b2,ab];refine PC.use (hg p q) ?_;have I:((List.zipWith op a b).take k++List.replicate (a.length-k) 0:List Int).length=a.length:=by simp[O];omega
   simp only[go_sem,h0,h1,Z,M,E,F,R];refine⟨⟨b1.1,by rw[I];exact b1.2⟩,eM so3 R (by rw[Xaa,I];exact⟨u,rfl,Xaf 1⟩) ?_⟩;have hz:(List.zipWith op a b)[k]?=some (op p q):=by rw[List.getElem?_zipWith,hp,hq]
   have aa:k<((List.zipWith op a b).take k++List.replicate (a.length-k) 0:List Int).length:=by omega
   obtain⟨y,hy⟩:=aN aa;have hs:=WZ (n:=a.length) (z:=(0:Int)) O hz;simp only[go_sem,h0,h1,Z,M,E,F,aF hy,aP (show k<=4611686018427387904 by omega)];refine⟨⟨k+1,u,rfl,?_⟩,by simp only[aE];omega⟩;rw[<-hs];show _=some (⟨3,1,_⟩:Row);rw[List.map_set];rfl
 . have J:=bF hk J
   subst J;simp only[go_sem,M];refine⟨j,rfl,?_⟩;rw[R,Xan (by omega)];simp
def wY(a b:List Int):List Int:=List.zipWith afY a b
def AS(a b:List Int):List Int:=List.zipWith VB a b
theorem afT(a b:List Int)(E:a.length<=1048576)(u:a.length=b.length):NC prog 352 [.sl (a.map bJ),.sl (b.map bJ)] (pR (wY a b)) (fun j=>.tup [.os j,int 0]):=by
 refine ncb (fun _=>false) Tryz.func352 ?_;unfold Tryz.f352;simp only[gdS];simp only[go_sem];refine NC.use (IT a b E u (by simp only[go_sem]) ajH) fun j F=>?_
 simp only[go_sem];exact⟨j,rfl,aB _ _ _⟩
theorem alW(a b:List Int)(E:a.length<=1048576)(u:a.length=b.length):NC prog 353 [.sl (a.map bJ),.sl (b.map bJ)] (pR (AS a b)) (fun j=>.tup [.os j,int 0]):=by
 refine ncb (fun _=>false) Tryz.func353 ?_;unfold Tryz.f353;simp only[gdS];simp only[go_sem];refine NC.use (IT a b E u (by simp only[go_sem]) Er) fun j F=>?_
 simp only[go_sem];exact⟨j,rfl,aB _ _ _⟩
theorem NC.pc2{f:FuncId}{args:List AV}{r:Row}{y:AV}(h:NC prog f args r (fun j=>.tup [.os j,y])):PC prog f args (.tup [.sl r.es,y]):=
 RC.conv (RC.mono h fun x H' ⟨k,u,E⟩=>by rw[u];exact .tup _ _ (.cons _ _ _ _ (.row _ _ _ E (ConvE.refl _)) (ConvL.refl _)))
theorem Zf(a c:List Int)(hl:a.length<=1048576):PC prog 317 [.sl (a.map bJ),.sl (c.map bJ)] (boo (kA a c)):=by
 refine pcd Tryz.func317 ?_;unfold Tryz.f317;simp only[gdS];simp only[go_sem];refine aA (fun T=>?_) (fun T=>?_)
 . simp only[go_sem]
   refine dK ?_;unfold kA;have:((a.length:Int) == (c.length:Int))=false:=by simpa[bne]using T
   rw[this];rfl
 have O:a.length=c.length:=by simp[bne]at T;omega
 simp only[go_sem];refine⟨fun ρ _=>∃k:Nat,k<=a.length/\ρ 1=.sl (c.map bJ)/\ρ 12=.sl (a.map bJ)/\ρ 13=int a.length/\ρ 14=int k/\∀i∈(List.range a.length).take k,decide (a.getD i 0>c.getD i 0)=false,fun ρ _=>a.length-aT (ρ 14),⟨0,Xab _,rfl,rfl,by simp only[go_sem,Xaa],rfl,by simp⟩,?_⟩;rintro ρ H ⟨k,hk,h1,F,J,E,hz⟩;simp only[go_sem,h1,F,J,E];refine aA (fun u=>?_) (fun M=>?_)
 . have u:=bD u
   obtain⟨p,Z⟩:=aN u;obtain⟨q,hq⟩:=aN (show k<c.length by omega);have b1:=inB u;have b2:=inB (show k<c.length by omega);have e1:a.getD k 0=p:=by simp[List.getD,Z]
   have e2:c.getD k 0=q:=by simp[List.getD,hq]
   simp only[go_sem,h1,F,J,E,aF Z,aF hq,b1,b2];refine aA (fun I=>?_) (fun I=>?_)
   . simp only[go_sem]
     refine dK ?_;unfold kA
     symm
     rw[Bool.and_eq_false_iff];right;exact vZ (pA u) (by rw[e1,e2,I];rfl)
   . simp only[go_sem,h1,F,J,E,aP (show k<=4611686018427387904 by omega)]
     exact⟨⟨k+1,u,rfl,aZ (p:=fun i=>decide (a.getD i 0>c.getD i 0)=false) (pA u) (by rw[e1,e2];exact I) hz⟩,by simp only[aE];omega⟩
 . have M:=bF hk M
   subst M;simp only[go_sem];refine dK ?_;unfold kA
   symm
   rw[Xap];refine⟨by simp[O],Xao.2 fun i hi=>?_⟩;rw[hz i (by rw[Xan (by simp)];exact hi)];rfl
theorem JS(x:Instance):PC prog 351 [.sl (x.types.map bC)] (int (kQ x)):=by
 refine pcd Tryz.func351 ?_;unfold Tryz.f351;simp only[gdS];simp only[go_sem];refine aA (fun u=>?_) (fun u=>?_)
 . simp only[go_sem]
   have:x.types=[]:=List.eq_nil_of_length_eq_zero (by simp at u;simpa using u);exact cH (by unfold kQ;rw[this];rfl)
 . have h0 : 0 < x.types.length := by
     rcases Xbx x.types.length with h|h
     . rw[h]at u;simp at u
     . exact h
   obtain⟨t,E⟩:=aN h0;have F:(0:Int)<=0/\(0:Int)<(x.types.length:Int):=⟨Xch _,by omega⟩;simp only[go_sem,aF (k:=0) E,F];exact cH (by unfold kQ;rw[E])
def uD(c s:Int):Bool:=(decide (c>=0)&&decide (s>=0))&&(rY .andNot .i64 s c == 0)
theorem ahA(t:VType)(s:Int):PC prog 313 [.agg (bC t),int s] (boo (uD t.skills s)):=by
 refine pcd Tryz.func313 ?_;unfold Tryz.f313;simp only[gdS];simp only[go_sem];exact .refl _
def tB(x:Instance)(s:List Int)(i:Int):List Int:=match x.orders[i.toNat]? with
 | some o=>if decide (o.pick.place<0)=true then wY s o.load else s
 | none=>s
def mN(x:Instance)(set dims:Int):List Int:=(gE set).foldl (tB x) (List.replicate dims.toNat 0)
theorem iJ{α u:Type}{f:u->α->u}{l:List α}{k:Nat}{x:α}{b:u}(h:l[k]?=some x):(l.take (k+1)).foldl f b=f ((l.take k).foldl f b) x:=by rw[bP h,List.foldl_append];rfl
theorem FU{x:Instance}{d:Nat}(E:∀o∈x.orders,o.load.length=d)(l:List Int):(l.foldl (tB x) (List.replicate d 0)).length=d:=by
 suffices ∀(l:List Int) (s:List Int),s.length=d->(l.foldl (tB x) s).length=d from this l _ (by simp)
 intro l;induction l with
 | nil=>intro s h;exact h
 | cons i r ih=>
   intro s h;rw[List.foldl_cons];refine ih _ ?_;unfold tB;split
   . rename_i o u
     split
     . unfold wY
       rw[List.length_zipWith,h,E o (Xae u),Nat.min_self]
     . exact h
   . exact h
theorem acE(x:Instance)(set dims:Int)(h0:0<=dims)(h1:dims<=1048576)(hd:∀o∈x.orders,o.load.length=dims.toNat)(hm:∀i∈gE set,0<=i/\i<(x.orders.length:Int)):
   PC prog 350 [.agg (aG x),int set,int dims] (.sl ((mN x set dims).map bJ)):=by
 have ab:(gE set).length<=63:=rQ set 63;refine pcb (fun t=>t == 28) Tryz.func350 ?_;unfold Tryz.f350;simp only[gdS];simp only[go_sem];refine⟨⟨⟨h0,Xch _⟩,by omega⟩,aK fun j hj=>?_⟩;simp only[go_sem];refine PC.use (mX set) ?_;simp only[go_sem];refine⟨fun ρ H=>∃k:Nat,k<=(gE set).length/\ρ 3=.rp (aG x) 0/\ρ 13=.sl ((gE set).map bJ)/\ρ 14=int (gE set).length/\ρ 15=int k/\∃j,ρ 7=.os j/\H j=some (pR (((gE set).take k).foldl (tB x) (List.replicate dims.toNat 0))),fun ρ _=>(gE set).length-aT (ρ 15),⟨0,Xab _,rfl,rfl,by simp only[go_sem,Xaa],rfl,j,rfl,?_⟩,?_⟩
 . rw[aB];simp[pR,List.map_replicate,bJ]
 clear hj;rintro ρ H ⟨k,hk,O,I,E,u,j,J,R⟩;simp only[go_sem,O,I,E,u,J];refine aA (fun F=>?_) (fun M=>?_)
 . have F:=bD F
   obtain⟨i,Z⟩:=aN F;have b1:=inB F;have b2:=hm i (Xae Z);obtain⟨o,T⟩:=aN (show i.toNat<x.orders.length by omega);have es:((gE set).take (k+1)).foldl (tB x) (List.replicate dims.toNat 0)=if decide (o.pick.place<0)=true then wY (((gE set).take k).foldl (tB x) (List.replicate dims.toNat 0)) o.load else((gE set).take k).foldl (tB x) (List.replicate dims.toNat 0):=by
     rw[iJ Z,tB,T]
   have aa:=FU hd ((gE set).take k);generalize hS:((gE set).take k).foldl (tB x) (List.replicate dims.toNat 0)=s at *;simp only[go_sem,O,I,E,u,J,aF Z,b1,aF T,b2];refine aA (fun hb=>?_) (fun hb=>?_)
   . simp only[go_sem,O,I,E,u,J,aF T,b2]
     refine C2 (by simp only[go_sem,J]) R fun Hr ad hr=>?_
     simp only[go_sem,O,I,E,u,J,aF T,b2];refine NC.use (afT s o.load (by omega) (by rw[aa,hd o (Xae T)])) fun j2 ac=>?_
     simp only[go_sem,O,I,E,u,J,aP (show k<=4611686018427387904 by omega)];exact⟨⟨k+1,F,rfl,j2,rfl,by rw[es,if_pos hb];exact aB _ _ _⟩,by simp only[aE];omega⟩
   . simp only[go_sem,O,I,E,u,J,aP (show k<=4611686018427387904 by omega)]
     exact⟨⟨k+1,F,rfl,j,rfl,by rw[es,if_neg (by rw[hb];simp)];exact R⟩,by simp only[aE];omega⟩
 . have M:=bF hk M
   subst M;rw[Xag]at R;simp only[go_sem,J];exact .row _ _ _ R (ConvE.refl _)
def T0(x:Instance)(s:List Int)(v:Visit):List Int:=match x.orders[v.order.toNat]? with
 | some o=>if v.drop=true then AS s o.load else wY s o.load
 | none=>s
def N1(x:Instance)(l:List Visit)(k:Nat):List Int:=(l.take k).foldl (T0 x) (mN x (nD l).1 (kQ x))
def vH(x:Instance)(l:List Visit)(k:Nat):List (List Int):=(List.range k).map (N1 x l)
theorem TA{x:Instance}{l:List Visit}{k:Nat}{v:Visit}(h:l[k]?=some v):N1 x l (k+1)=T0 x (N1 x l k) v:=iJ h
structure LoadB(x:Instance):Prop where
 dims:0<=kQ x/\kQ x<=1048576
 load:∀o∈x.orders,o.load.length=(kQ x).toNat
 few:x.orders.length<=63
theorem Vk{x:Instance}(E:LoadB x){s:List Int}{v:Visit}(h:s.length=(kQ x).toNat):(T0 x s v).length=(kQ x).toNat:=by
 unfold T0;split
 . rename_i o u
   have:=E.load o (Xae u);split
   . unfold AS;rw[List.length_zipWith,h,this,Nat.min_self]
   . unfold wY;rw[List.length_zipWith,h,this,Nat.min_self]
 . exact h
theorem NK{x:Instance}(u:LoadB x)(l:List Visit)(k:Nat):(N1 x l k).length=(kQ x).toNat:=by
 suffices ∀(l:List Visit) (s:List Int),s.length=(kQ x).toNat->(l.foldl (T0 x) s).length=(kQ x).toNat from this _ _ (FU u.load _)
 intro l;induction l with
 | nil=>intro s h;exact h
 | cons v r ih=>intro s h;rw[List.foldl_cons];exact ih _ (Vk u h)
theorem Vz{s:Nat}{i:Int}(h:i∈gE (s:Int)):0<=i/\i<=62/\s.testBit i.toNat=true:=by
 unfold gE rI at h;obtain⟨k,F,rfl⟩:=List.mem_map.1 h;obtain⟨h1,u⟩:=List.mem_filter.1 F;have E:=Xbi.1 h1;refine⟨by omega,by omega,?_⟩
 rwa [uG (by omega) (by omega)]at u
theorem YB{x:Instance}{l:List Visit}(h:xB x l=0):∀v∈l,0<=v.order/\v.order<(x.orders.length:Int):=by
 intro v E;by_cases u:((l.length:Int) == 0||l.any fun v=>dW v.order x.orders.length)=true
 . unfold xB at h;rw[if_pos u]at h;cases h
 . have u : dW v.order x.orders.length = false := by
     rw[Bool.not_eq_true,Xak]at u;have:=List.any_eq_false.1 u.2 v E;simpa using this
   simp only[dW,Xak,decide_eq_false_iff_not]at u;omega
theorem Tr{x:Instance}(M:LoadB x){l:List Visit}(h:∀v∈l,0<=v.order/\v.order<(x.orders.length:Int)):nD l=(((Bz l:Nat):Int),0)/\∀i∈gE (nD l).1,0<=i/\i<(x.orders.length:Int):=by
 have u:∀v∈l,GY v=false:=fun v E=>by
   have:=h v E;have:=M.few;simp only[GY,Xak,decide_eq_false_iff_not];omega
 have e:nD l=(((Bz l:Nat):Int),0):=by
   unfold nD;rw[if_neg (by rw[AU u];simp),IY u]
 refine⟨e,fun i I=>?_⟩;rw[e]at I;obtain⟨h0,h1,F⟩:=Vz I;rw[Wo]at F;obtain⟨v,E,J⟩:=Xbk.1 F;have:=h v E;have:v.order.toNat=i.toNat:=by simpa using J
 omega
def oD(x:Instance)(l:List Visit):List (List Int)×Int:=if(xB x l != 0)=true then([],xB x l)else(vH x l (l.length+1),0)
theorem Wq(x:Instance)(r:Route)(hx:LoadB x)(hl:r.visits.length<=1048576)(ha:x.apart.length<=1048576)(hb:x.before.length<=1048576):
   PC prog 314 [.agg (aG x),.agg (dL r)] (.tup [.sl ((oD x r.visits).1.map sP),int (oD x r.visits).2]):=by
 refine pcb (fun t=>t == 35) Tryz.func314 ?_;unfold Tryz.f314;simp only[gdS];simp only[go_sem];refine PC.use (F2 x r hl ha hb) ?_;simp only[go_sem];refine aA (fun hc=>?_) (fun hc=>?_)
 . simp only[go_sem]
   have:oD x r.visits=([],xB x r.visits):=by unfold oD;rw[if_pos hc]
   rw[this];exact .refl _
 have e0:oD x r.visits=(vH x r.visits (r.visits.length+1),0):=by unfold oD;rw[if_neg (by rw[hc];simp)]
 have aj:xB x r.visits=0:=by simpa[bne]using hc
 have ae:=YB aj;obtain⟨eo,hm⟩:=Tr hx ae;simp only[go_sem];refine PC.use (Fb r hl) ?_;simp only[go_sem];refine aA (fun ah=>by rw[eo]at ah;simp at ah) (fun _=>?_);simp only[go_sem];refine sM [(0,true),(1,true),(2,false),(3,false),(4,false),(5,false),(6,false)] (by kernel_rfl) ?_;simp only[go_sem];refine PC.use (JS x) ?_;simp only[go_sem];refine PC.use (acE x _ _ hx.dims.1 hx.dims.2 hx.load hm) ?_;simp only[go_sem];refine aK fun j hj=>?_
 simp only[go_sem];refine⟨fun ρ H=>∃k:Nat,k<=r.visits.length/\ρ 2=.rp (aG x) 0/\ρ 37=.sl (r.visits.map aL)/\ρ 38=int r.visits.length/\ρ 39=int k/\ρ 9=.sl ((N1 x r.visits k).map bJ)/\∃j,ρ 10=.os j/\H j=some (azV (vH x r.visits (k+1))),fun ρ _=>r.visits.length-aT (ρ 39),⟨0,Xab _,rfl,rfl,by simp only[go_sem,Xaa],rfl,rfl,j,rfl,aB _ _ _⟩,?_⟩;clear hj;rintro ρ H ⟨k,hk,T,u,F,E,h9,j,I,R⟩;simp only[go_sem,T,u,F,E,h9,I];refine aA (fun O=>?_) (fun ad=>?_)
 . have O:=bD O
   obtain⟨v,hv⟩:=aN O;have b1:=inB O;have ai:=ae v (Xae hv);obtain⟨o,ho⟩:=aN (show v.order.toNat<x.orders.length by omega);have am:=hx.load o (Xae ho);have al:=NK hx r.visits k;have hd:=hx.dims;have hn:=TA (x:=x) hv;unfold T0 at hn;rw[ho]at hn;simp only at hn;simp only[go_sem,T,u,F,E,h9,I,aF hv,b1];refine aK fun ab Z=>?_
   have J:j≠ab:=aQ R Z;simp only[go_sem,T,u,F,E,h9,I,R];refine aJ (aB _ _ _) (by simp[dG]) ?_;generalize M:aI (aI _ ab _) ab _=HGi12;replace R:=(congrFun M.symm j).trans ((aD _ _ _ _ J).trans ((aD _ _ _ _ J).trans R));have ac:HGi12 ab=some (⟨119,2,[aL v]⟩):=by rw[<-M,aB];try rfl
   clear M Z;simp only[go_sem,T,u,F,E,h9,I,ac,R];have af:vH x r.visits (k+2)=vH x r.visits (k+1)++[N1 x r.visits (k+1)]:=by unfold vH;rw[Xbr,Xam];rfl
   have ag:(vH x r.visits (k+1)).length=k+1:=by simp[vH]
   refine aA (fun aa=>?_) (fun aa=>?_)
   . simp only[go_sem,T,u,F,E,h9,I,ac,aF ho,ai]
     refine PC.use (NC.pc2 (alW (N1 x r.visits k) o.load (by omega) (by omega))) ?_;simp only[go_sem,T,u,F,E,h9,I];refine aA (fun hb=>by simp at hb) (fun _=>?_);simp only[go_sem,T,u,F,E,h9,I];refine aX R ⟨rfl,rfl⟩ ⟨rfl,trivial⟩ (by simp only[Xaa,ag,Xad,List.length_nil];omega) (fun j' ak=>?_);simp only[go_sem,T,u,F,E,aP (show k<=4611686018427387904 by omega)];refine⟨⟨k+1,O,rfl,by rw[hn,if_pos aa],j',rfl,?_⟩,by simp only[aE];omega⟩;rw[aB,af,hn,if_pos aa];show _=some (⟨86,1,_⟩:Row);rw[Xam];rfl
   . simp only[go_sem,T,u,F,E,h9,I,ac,aF ho,ai]
     refine PC.use (NC.pc2 (afT (N1 x r.visits k) o.load (by omega) (by omega))) ?_;simp only[go_sem,T,u,F,E,h9,I];refine aA (fun hb=>by simp at hb) (fun _=>?_);simp only[go_sem,T,u,F,E,h9,I];refine aX R ⟨rfl,rfl⟩ ⟨rfl,trivial⟩ (by simp only[Xaa,ag,Xad,List.length_nil];omega) (fun j' ak=>?_);simp only[go_sem,T,u,F,E,aP (show k<=4611686018427387904 by omega)];refine⟨⟨k+1,O,rfl,by rw[hn,if_neg (by rw[aa];simp)],j',rfl,?_⟩,by simp only[aE];omega⟩;rw[aB,af,hn,if_neg (by rw[aa];simp)];show _=some (⟨86,1,_⟩:Row);rw[Xam];rfl
 . have ad:=bF hk ad
   subst ad;simp only[go_sem,I];rw[e0];exact .tup _ _ (.cons _ _ _ _ (.row _ _ _ R (ConvE.refl _)) (ConvL.refl _))
theorem aaJ(x:Instance)(r:Route)(a:List Int)(J:a.length<=1048576)(I:dW r.type x.types.length=false):
   PC prog 316 [.sl (a.map bJ),.rp (aG x) 0,.rp (dL r) 0] (boo (!kA a (NJ x r.type))):=by
 have u:0<=r.type/\r.type<(x.types.length:Int):=by
   simp only[dW,Xak,decide_eq_false_iff_not]at I;omega
 obtain⟨t,E⟩:=aN (show r.type.toNat<x.types.length by omega);have F:NJ x r.type=t.cap:=by unfold NJ;rw[E]
 refine pcd Tryz.func316 ?_;unfold Tryz.f316;simp only[gdS];simp only[go_sem];simp only[go_sem,aF E,u];refine PC.use (Zf a t.cap J) ?_;simp only[go_sem];rw[F];exact .refl _
def Bm(x:Instance)(r:Route):Int:=
 if dW r.type x.types.length=true then 2 else if((oD x r.visits).2 != 0)=true then(oD x r.visits).2
 else if((oD x r.visits).1.any fun l=> !kA l (NJ x r.type))=true then 17 else 0
theorem PG{x:Instance}(E:LoadB x){l:List Visit}:(oD x l).1.length<=l.length+1/\∀a∈(oD x l).1,a.length=(kQ x).toNat:=by
 unfold oD;split
 . simp
 . refine⟨by simp[vH],fun a u=>?_⟩
   obtain⟨k,_,rfl⟩:=List.mem_map.1 u;exact NK E l k
theorem Zc(x:Instance)(r:Route)(J:LoadB x)(hl:r.visits.length<=1048575)(Z:x.apart.length<=1048576)(O:x.before.length<=1048576):
   PC prog 274 [.agg (aG x),.agg (dL r)] (int (Bm x r)):=by
 refine pcd Tryz.func274 ?_;unfold Tryz.f274;simp only[gdS];simp only[go_sem];refine aA (fun h1=>?_) (fun h1=>?_)
 . simp only[go_sem]
   exact cH (by unfold Bm;rw[if_pos (show dW r.type x.types.length=true from h1)])
 have h1:dW r.type x.types.length=false:=h1;have F:¬dW r.type x.types.length=true:=by rw[h1];simp
 simp only[go_sem];refine PC.use (Wq x r J (by omega) Z O) ?_;simp only[go_sem];refine aA (fun u=>?_) (fun u=>?_)
 . simp only[go_sem]
   exact cH (by unfold Bm;rw[if_neg F,if_pos u])
 have M:¬((oD x r.visits).2 != 0)=true:=by rw[u];simp
 obtain⟨ln,T⟩:=PG J (l:=r.visits);have hd:=J.dims;simp only[go_sem];refine PC.use (D7 (p:=fun a=> !kA a (NJ x r.type)) (oD x r.visits).1 (by omega) (by simp only[go_sem]) fun a I=>aaJ x r a (by rw[T a I];omega) h1) ?_;simp only[go_sem];refine aA (fun E=>?_) (fun E=>?_)
 . simp only[go_sem]
   exact cH (by unfold Bm;rw[if_neg F,if_neg M,if_pos E])
 . simp only[go_sem]
   exact cH (by unfold Bm;rw[if_neg F,if_neg M,if_neg (by rw[E];simp)])
theorem afV{H:aH}{a b:ByteArray}(h:a=b):Conv H (.v (.string a)) (.v (.string b)):=h▸.refl _
theorem abF(n:Nat)(J:n<20):PC prog 337 [int n] (str (jB n)):=by
 refine pcd Tryz.func337 ?_;unfold Tryz.f337;simp only[gdS];simp only[go_sem];refine aA (fun E=>?_) (fun E=>?_)
 . simp only[go_sem,aP (show n<=4611686018427387904 by omega)]
   have u:n=0\/n=1\/n=2\/n=3\/n=4\/n=5\/n=6\/n=7\/n=8\/n=9:=by simp at E;omega
   rcases u with rfl|rfl|rfl|rfl|rfl|rfl|rfl|rfl|rfl|rfl <;> exact⟨by decide,afV (by rw[uJ (by omega)];rfl)⟩
 . have I:10<=n:=by simp at E;omega
   have w1:IntKind.i64.wrap ((n:Int)*2)=((n*2:Nat):Int):=by rw[aR (by omega)];omega
   have F:IntKind.i64.wrap (((n*2:Nat):Int)+2)=((n*2+2:Nat):Int):=by rw[aR (by omega)];omega
   simp only[go_sem,w1,F];have u:n=10\/n=11\/n=12\/n=13\/n=14\/n=15\/n=16\/n=17\/n=18\/n=19:=by omega
   rcases u with rfl|rfl|rfl|rfl|rfl|rfl|rfl|rfl|rfl|rfl <;> exact⟨by decide,afV (by rw[zC (by omega),uJ (by omega)];rfl)⟩
theorem MN(n:Nat)(E:n<20):PC prog 296 [int n,int 10] (str (jB n)):=by
 refine pcd Tryz.func296 ?_;unfold Tryz.f296;simp only[gdS];simp only[go_sem];refine aA (fun _=>?_) (fun u=>by simp at u);simp only[go_sem];refine aA (fun u=>?_) (fun u=>by simp at u;omega);simp only[go_sem];refine PC.use (abF n E) ?_;simp only[go_sem];exact .refl _
theorem Z0(n:Nat)(u:n<20):PC prog 261 [int n] (str (jB n)):=by
 refine pcd Tryz.func261 ?_;unfold Tryz.f261;simp only[gdS];simp only[go_sem];refine PC.use (MN n u) ?_;simp only[go_sem];exact .refl _
theorem On(n:Nat)(u:n<20):PC prog 224 [int n] (str (jB n)):=by
 refine pcd Tryz.func224 ?_;unfold Tryz.f224;simp only[gdS];simp only[go_sem];refine PC.use (Z0 n u) ?_;simp only[go_sem];exact .refl _
theorem rC{n:Int}(h: -9223372036854775808<=n/\n<=9223372036854775807):W n=n:=aR h
theorem Ng(n a b:Int):PC prog 359 [int n,int a,int b] (boo (decide (n>=a)&&decide (n<=b))):=by
 refine pcd Tryz.func359 ?_;unfold Tryz.f359;simp only[gdS];simp only[go_sem];exact .refl _
structure TravB(l:List Point):Prop where
 len:1<=l.length/\l.length<=16
 pt:∀p∈l,0<=p.t/\p.t<=4096/\p.t<=p.a/\p.a<=p.t+4096
 mono:∀i,i+1<l.length->(dX l i).t<(dX l (i+1)).t/\(dX l i).a<=(dX l (i+1)).a
theorem gG{α:Type}{b:Bool}{f:α}(h:opt b f=[]):b=false:=by
 cases b with
 | false=>rfl
 | true=>simp[opt]at h
theorem adU{l:List Point}(h:jR l=[]):TravB l:=by
 unfold jR at h;rw[Xbs]at h;have h1:=gG h.1;unfold F8 at h1;simp only[Xak,decide_eq_false_iff_not]at h1;have F:∀i,i<l.length->gP l i=[]:=fun i E=>List.flatMap_eq_nil_iff.1 h.2 i (Xbi.2 E)
 have J:∀p∈l,0<=p.t/\p.t<=4096/\p.t<=p.a/\p.a<=p.t+4096:=fun p I=>by
   obtain⟨i,E,rfl⟩:=List.getElem_of_mem I;have:=F i E;unfold gP at this;rw[Xbs]at this;have u:=gG this.1;rw[eG (List.getElem?_eq_getElem E)]at u;unfold pH at u;simp only[Xak,decide_eq_false_iff_not]at u;have w:=aR (n:=l[i].t+4096) (by omega);omega
 refine⟨by omega,J,fun i E=>?_⟩;have:=F (i+1) E;unfold gP at this;rw[Xbs]at this;have u:=gG this.2;unfold JI at u;have e:i+1-1=i:=rfl;rw[e]at u;simp at u;exact u
theorem JQ{l:List Point}(h:TravB l):∀(i j:Nat),i<j->j<l.length->(dX l i).t<(dX l j).t
 | i,0,hij,_=>by omega
 | i,j+1,hij,hj=>by
   have h1:=(h.mono j hj).1;by_cases e:i=j
   . subst e;exact h1
   . have:=JQ h i j (by omega) (by omega)
     omega
theorem YP(l:List Point)(h:TravB l):PC prog 377 [.sl (l.map cA)] (.sl []):=by
 have hl:=h.len;refine pcd Tryz.func377 ?_;unfold Tryz.f377;simp only[gdS];simp only[go_sem];refine aA (fun O=>by exfalso;simp only[Xbt,Xaw,decide_eq_true_eq]at O;omega) (fun _=>?_);simp only[go_sem];refine⟨fun ρ _=>∃k:Nat,k<=l.length/\ρ 0=.sl (l.map cA)/\ρ 19=.sl (l.map cA)/\ρ 20=int l.length/\ρ 21=int k/\ρ 3=.sl [],fun ρ _=>l.length-aT (ρ 21),⟨0,Xab _,rfl,rfl,rfl,rfl,rfl⟩,?_⟩;rintro ρ H ⟨k,hk,h0,u,E,F,I⟩;simp only[go_sem,h0,u,E,F,I];refine aA (fun J=>?_) (fun af=>?_)
 . have J:=bD J
   obtain⟨p,hp⟩:=aN J;have b1:=inB J;have ac:=h.pt p (Xae hp);simp only[go_sem,h0,u,E,F,I,aF hp,b1];refine aK fun i5 aa=>?_
   simp only[go_sem,h0,u,E,F,I];refine aJ (aB _ _ _) (by simp[gH]) ?_;generalize M:aI (aI _ i5 _) i5 _=HGi5;have T:HGi5 i5=some (⟨104,2,[cA p]⟩):=by rw[<-M,aB];rfl
   clear M aa;simp only[go_sem,h0,u,E,F,I,T];refine PC.use (On k (by omega)) ?_;simp only[go_sem,h0,u,E,F,I,T];refine PC.use (Ng _ _ _) ?_;simp only[go_sem,h0,u,E,F,I,T];have w:=aR (n:=p.t+4096) (by omega);refine aA (fun O=>by exfalso;rw[w]at O;simp at O;omega) (fun _=>?_);simp only[go_sem,h0,u,E,F,I,T];refine fE [i5] [(0,false),(1,false),(2,false),(3,true),(4,true),(5,true),(6,false),(7,false),(8,false),(9,false),(10,false),(11,false),(12,false),(13,true),(14,true),(15,true),(16,false),(17,false),(18,false),(19,false),(20,false),(21,false),(22,false),(23,false)] (by simp[T]) (by kernel_rfl) fun Hp Hr ab hr _ ae=>?_
   have P5:=(ab i5 (by simp)).trans T;obtain⟨q,hq⟩:=aN (show k-1<l.length by omega);have Z:decide ((k:Int)>0)=true->(0<=IntKind.i64.wrap ((k:Int)-1)/\IntKind.i64.wrap ((k:Int)-1)<(l.length:Int)):=fun hg=>by
     simp at hg;rw[nX (show k<=4611686018427387904 by omega)];omega
   simp only[go_sem,h0,u,E,F,I,P5,Y9 (show k<=4611686018427387904 by omega),aF hq];refine⟨Z,fun hg=>Z hg.1,fI fun _ Hm _ _=>?_⟩;simp only[go_sem,h0,u,E,F,I];have hm:0<k->q.t<p.t/\q.a<=p.a:=fun ad=>by
     have:=h.mono (k-1) (by omega);rw[show k-1+1=k by omega,eG hp,eG hq]at this;exact this
   refine aA (fun O=>?_) (fun _=>?_)
   . exfalso
     simp only[Xbt,Xap,decide_eq_true_eq]at O;have:=hm (by omega);omega
   simp only[go_sem,h0,u,E,F,I,aP (show k<=4611686018427387904 by omega)];exact⟨⟨k+1,J,rfl⟩,by simp only[aE];omega⟩
 . simp only[go_sem,I]
   exact .refl _
theorem JH(l:List Point)(h:TravB l):PC prog 360 [.sl (l.map cA)] (boo true):=by
 refine pcd Tryz.func360 ?_;unfold Tryz.f360;simp only[gdS];simp only[go_sem];refine PC.use (YP l h) ?_;simp only[go_sem];exact .refl _
theorem Io(p:Point)(t:Int):PC prog 379 [.agg (cA p),int t] (int (W (p.t-t))):=by
 refine pcd Tryz.func379 ?_;unfold Tryz.f379;simp only[gdS];simp only[go_sem];exact .refl _
def bs(l:List Point)(t:Int):Nat:=(l.takeWhile fun p=>decide (p.t<t)).length
def yE(l:List Point)(t:Int):Bool:=decide ((bs l t:Int)<(l.length:Int))&&((dX l (bs l t)).t-t == 0)
theorem Xv{α:Type}{p:α->Bool}:∀(l:List α) (i:Nat),i<=l.length->(∀c x,c<i->l[c]?=some x->p x=true)->(∀x,l[i]?=some x->p x=false)->(l.takeWhile p).length=i
 | [],i,hi,_,_=>by simp at hi;simp[hi]
 | a::r,0,_,_,h2=>by
   have:=h2 a rfl;simp[List.takeWhile,this]
 | a::r,i+1,hi,h1,h2=>by
   have E:=h1 0 a (by omega) rfl;rw[List.takeWhile_cons,if_pos E,Xad,Xv r i (by simpa using hi) (fun c x F u=>h1 (c+1) x (by omega) (by simpa using u)) (fun x u=>h2 x (by simpa using u))]
theorem ajZ{l:List Point}{t:Int}{i:Nat}(F:i<=l.length)(h1:∀c,c<i->(dX l c).t<t)(E:i<l.length->t<=(dX l i).t):bs l t=i:=by
 refine Xv l i F (fun c x I u=>?_) (fun x u=>?_)
 . have:=h1 c I
   rw[eG u]at this;simpa using this
 . have:=E (List.getElem?_eq_some_iff.1 u).1
   rw[eG u]at this;simp;omega
theorem UV(l:List Point)(t:Int)(h:TravB l)(ht:0<=t/\t<=1073741824):PC prog 378 [.sl (l.map cA),int t,.v (.func (.func 379) #[] #[])] (.tup [int (bs l t),boo (yE l t)]):=by
 have hl:=h.len;refine pcd Tryz.func378 ?_;unfold Tryz.f378;simp only[gdS];simp only[go_sem];have ac:aC prog 379=true:=by kernel_rfl
 refine⟨fun ρ _=>∃i j:Nat,i<=j/\j<=l.length/\ρ 0=.sl (l.map cA)/\ρ 1=int t/\ρ 2=.v (.func (.func 379) #[] #[])/\ρ 8=int l.length/\ρ 9=int i/\ρ 10=int j/\(∀c,c<i->(dX l c).t<t)/\(j<l.length->t<=(dX l j).t),fun ρ _=>aT (ρ 10)-aT (ρ 9),⟨0,l.length,Xab _,Xaf _,rfl,rfl,rfl,rfl,rfl,rfl,fun c hc=>by omega,fun hc=>by omega⟩,?_⟩;rintro ρ H ⟨i,j,ag,hj,h0,h1,O,T,h9,F,hz,hy⟩;simp only[go_sem,h0,h1,O,T,h9,F];refine aA (fun u=>?_) (fun aa=>?_)
 . have u:i<j:=by simp at u;omega
   have w1:IntKind.i64.wrap ((i:Int)+(j:Int))=((i+j:Nat):Int):=by rw[aR (by omega)];omega
   have w2:IntKind.u64.wrap ((i+j:Nat):Int)=((i+j:Nat):Int):=CL (by omega);have w3:shV .shr .u64 ((i+j:Nat):Int) 1=(((i+j)/2:Nat):Int):=by
     show((i+j:Nat):Int).fdiv (2^min (1:Int).toNat 64)=_;rw[Xcs _ (by decide)];rfl
   have w4:IntKind.i64.wrap (((i+j)/2:Nat):Int)=(((i+j)/2:Nat):Int):=aR (by omega);have hm:(i+j)/2<l.length:=by omega
   generalize ah:(i+j)/2=m at w3 w4 hm;have ai:i<=m/\m<j:=by omega
   obtain⟨p,Z⟩:=aN hm;have b1:=inB hm;have ab:=h.pt p (Xae Z);have e:W (p.t-t)=p.t-t:=rC (by omega);simp only[go_sem,h0,h1,O,T,h9,F,w1,w2,w3,w4,aF Z,b1,ac];refine⟨by decide,PC.use (Io p t) ?_⟩;simp only[go_sem,h0,h1,O,T,h9,F,e];refine lC (fun E _=>∃i' M:Nat,i'<=M/\M<=l.length/\M-i'<j-i/\E 0=.sl (l.map cA)/\E 1=int t/\E 2=.v (.func (.func 379) #[] #[])/\E 8=int l.length/\E 9=int i'/\E 10=int M/\(∀c,c<i'->(dX l c).t<t)/\(M<l.length->t<=(dX l M).t)) ?_ fun K hK _ _=>aA (fun hb=>?_) (fun hb=>?_)
   . rintro E H' ⟨i',M,a1,a2,a3,c0,c1,c2,c8,c9,ad,cz,cy⟩
     exact⟨⟨i',M,a1,a2,c0,c1,c2,c8,c9,ad,cz,cy⟩,by rw[c9,ad];simp only[aE];omega⟩
   . have hb:p.t-t<0:=by simpa using hb
     simp only[go_sem,h0,h1,O,T,h9,F,aP (show m<=4611686018427387904 by omega)];refine hK _ _ ⟨m+1,j,by omega,hj,by omega,by simp only[go_sem,h0],by simp only[go_sem,h1],by simp only[go_sem,O],by simp only[go_sem,T],by simp only[go_sem],by simp only[go_sem,F],fun c hc=>?_,hy⟩;have e2:=eG Z;by_cases e3:c=m
     . subst e3;rw[e2];omega
     . have:=JQ h c m (by omega) hm
       rw[e2]at this;omega
   . have hb:¬p.t-t<0:=by simpa using hb
     simp only[go_sem,h0,h1,O,T,h9,F];refine hK _ _ ⟨i,m,by omega,by omega,by omega,by simp only[go_sem,h0],by simp only[go_sem,h1],by simp only[go_sem,O],by simp only[go_sem,T],by simp only[go_sem,h9],by simp only[go_sem],hz,fun _=>?_⟩;rw[eG Z];omega
 . have aa:i=j:=by simp at aa;omega
   subst aa;have ae:bs l t=i:=ajZ hj hz hy;simp only[go_sem,h0,h1,O,T,h9,F,ac];have I:decide ((i:Int)<(l.length:Int))=true->(l.map cA).getD i []=cA (dX l i):=fun J=>by
     have u:i<l.length:=by simp at J;omega
     obtain⟨p,Z⟩:=aN u;rw[aF Z,eG Z]
   have af:decide ((i:Int)<(l.length:Int))=true->0<=(i:Int)/\(i:Int)<(l.length:Int):=fun J=>by simp at J;omega
   refine⟨fun J=>⟨af J,by rw[I J];rfl⟩,fun J=>by rw[I J];exact Xaf _,int (W ((dX l i).t-t)),fun J=>by rw[I J,BH];exact(Io _ t).q rfl,?_⟩;simp only[go_sem];have e:yE l t=(decide ((i:Int)<(l.length:Int))&&(W ((dX l i).t-t) == 0)):=by
     unfold yE;rw[ae];by_cases u:i<l.length
     . have ab:=h.pt _ (Xae (aN u).choose_spec)
       rw[<-eG (aN u).choose_spec]at ab;rw[rC (by omega)]
     . have:decide ((i:Int)<(l.length:Int))=false:=by simp;omega
       rw[this];rfl
   rw[ae,e];exact .refl _
def Yg(p q:Point)(t:Int):Int:=W (p.a+IntKind.i64.wrap (Int.tdiv (W (W (W (W (t-p.t)*W (q.a-p.a))+W (q.t-p.t))-1)) (W (q.t-p.t))))
def GL(l:List Point)(t:Int):Int:=
 if yE l t=true then(dX l (bs l t)).a else if((bs l t:Int) == 0)=true then Bx (dX l 0) t
 else if((bs l t:Int) == (l.length:Int))=true then Bx (dX l (bs l t-1)) t else Yg (dX l (bs l t-1)) (dX l (bs l t)) t
theorem afX(l:List Point)(t:Int):bs l t<=l.length:=by
 have:=congrArg List.length (List.takeWhile_append_dropWhile (p:=fun p:Point=>decide (p.t<t)) (l:=l));rw[Xac]at this;unfold bs;omega
theorem Uh(l:List Point)(t:Int)(h:TravB l)(ht:0<=t/\t<=1073741824):PC prog 361 [.sl (l.map cA),int t] (int (GL l t)):=by
 have hl:=h.len;have hb:=afX l t;refine pcd Tryz.func361 ?_;unfold Tryz.f361;simp only[gdS];simp only[go_sem];refine PC.use (UV l t h ht) ?_;simp only[go_sem];obtain⟨i,hi⟩:∃i,bs l t=i:=⟨_,rfl⟩;have aa:GL l t=if yE l t=true then(dX l i).a else if((i:Int) == 0)=true then Bx (dX l 0) t else if((i:Int) == (l.length:Int))=true then Bx (dX l (i-1)) t else Yg (dX l (i-1)) (dX l i) t:=by unfold GL;rw[hi]
 rw[hi]at hb |-;rw[aa];refine aA (fun h1=>?_) (fun h1=>?_)
 . have ab:i<l.length:=by unfold yE at h1;rw[hi]at h1;simp at h1;omega
   obtain⟨p,I⟩:=aN ab;have b1:=inB ab;simp only[go_sem,aF I,b1];rw[if_pos h1,eG I];exact .refl _
 simp only[go_sem];refine aA (fun T=>?_) (fun T=>?_)
 . obtain⟨p,I⟩:=aN (show 0<l.length by omega)
   simp only[go_sem];refine dJ (by rfl) (by kernel_rfl) ?_;simp only[go_sem,aF I];rw[if_neg (by rw[h1];simp),if_pos T,eG I];have b0:(0:Int)<=0/\(0:Int)<(l.length:Int):=by omega
   exact⟨b0,b0,.refl _⟩
 simp only[go_sem];refine aA (fun h3=>?_) (fun h3=>?_)
 . have ac:i≠0:=by simpa using T
   obtain⟨p,I⟩:=aN (show i-1<l.length by omega);simp only[go_sem];refine dJ (by rfl) (by kernel_rfl) ?_;have w:IntKind.i64.wrap ((i:Int)-1)=((i-1:Nat):Int):=by rw[aR (by omega)];omega
   have b1:=inB (show i-1<l.length by omega);simp only[go_sem,w,aF I,b1];rw[if_neg (by rw[h1];simp),if_neg (by rw[T];simp),if_pos h3,eG I];exact .refl _
 have ac:i≠0:=by simpa using T
 have ai:i≠l.length:=by simp at h3;omega
 obtain⟨p,I⟩:=aN (show i-1<l.length by omega);obtain⟨q,hq⟩:=aN (show i<l.length by omega);have w:IntKind.i64.wrap ((i:Int)-1)=((i-1:Nat):Int):=by rw[aR (by omega)];omega
 have b1:=inB (show i-1<l.length by omega);have b2:=inB (show i<l.length by omega);have J:=(h.mono (i-1) (by omega)).1;rw[show i-1+1=i by omega,eG I,eG hq]at J;have ah:=h.pt p (Xae I);have ae:=h.pt q (Xae hq);rw[if_neg (by rw[h1];simp),if_neg (by rw[T];simp),if_neg (by rw[h3];simp),eG I,eG hq];simp only[go_sem];refine AH (fun O H'=>O 1=int t/\∃F E,O 7=.op F 0 0/\O 8=.op E 0 0/\H' F=some (⟨104,2,[cA p]⟩:Row)/\H' E=some (⟨104,2,[cA q]⟩:Row)/\F≠E) ?_ fun K hK=>?_
 . rintro ρ H ⟨h1,F,E,h7,Z,R7,R8,u⟩
   simp only[go_sem,h1,h7,Z,R7,R8];refine fE [F,E] [(0,true),(1,true),(2,true),(3,true),(4,true),(5,true),(6,true),(7,true),(8,true),(9,true),(10,true),(11,true),(12,true),(13,true),(14,true),(15,false),(16,false),(17,false),(18,false)] (by simp[R7,R8]) (by kernel_rfl) fun Hp M I hr _ ag=>?_
   have P7:=(I F (by simp)).trans R7;have P8:=(I E (by simp)).trans R8;simp only[go_sem,h1,h7,Z,P7,P8];refine⟨abI (by omega),fI fun _ Hm _ _=>?_⟩;simp only[go_sem];exact .refl _
 . refine vA [] (.q 0 (.q 1 (.q 2 (.q 3 (.q 4 (.q 5 (.q 6 (.q 7 (.q 8 (.a2 9 (.a1 10 (.a1 11 (.a1 12 .nil))) 10 (.a1 9 (.a1 11 (.a1 12 .nil))))))))))))) (by simp) (by kernel_rfl) fun Hp M _ af _ _=>?_
   simp only[go_sem,w,aF I,aF hq,b1,b2];have rP:∀{a b:Nat} {G:aH} {z:List AV} {y:List AV},a≠b->G a=some (⟨104,2,[z]⟩:Row)->aI G b (some (⟨104,2,[y]⟩:Row)) a=some (⟨104,2,[z]⟩:Row):=fun ad hG=>by rw[aD _ _ _ _ ad];exact hG
   refine mE ?_ ?_
   . simp only[go_sem]
     refine aK fun F h7=>?_
     simp only[go_sem];refine aK fun E Z=>?_
     have u:=aQ (aB _ _ _) Z;have S7:=jV (r':=(⟨104,2,[[int 0,int 0]]⟩:Row)) (aB M F (some (⟨104,2,[[int 0,int 0]]⟩:Row))) Z;have S8:=aB (aI M F (some (⟨104,2,[[int 0,int 0]]⟩:Row))) E (some (⟨104,2,[[int 0,int 0]]⟩:Row));generalize aI (aI M F _) E _=G at S7 S8 |-;simp only[go_sem];refine aJ S7 (by simp[gH]) ?_;simp only[go_sem];refine aJ (afB S8 u.symm) (by simp[gH]) ?_;simp only[go_sem];refine fI fun _ Hm _ J=>hK _ _ ⟨by simp only[go_sem],F,E,by simp only[go_sem],by simp only[go_sem],?_,?_,u⟩
     . rw[J F (by simp),aD _ _ _ _ u,aB]
     . rw[J E (by simp),aB]
   . simp only[go_sem]
     refine aK fun E Z=>?_
     simp only[go_sem];refine aK fun F h7=>?_
     have u:=(aQ (aB _ _ _) h7).symm;have S8:=jV (r':=(⟨104,2,[[int 0,int 0]]⟩:Row)) (aB M E (some (⟨104,2,[[int 0,int 0]]⟩:Row))) h7;have S7:=aB (aI M E (some (⟨104,2,[[int 0,int 0]]⟩:Row))) F (some (⟨104,2,[[int 0,int 0]]⟩:Row));generalize aI (aI M E _) F _=G at S7 S8 |-;simp only[go_sem];refine aJ S7 (by simp[gH]) ?_;simp only[go_sem];refine aJ (afB S8 u.symm) (by simp[gH]) ?_;simp only[go_sem];refine fI fun _ Hm _ J=>hK _ _ ⟨by simp only[go_sem],F,E,by simp only[go_sem],by simp only[go_sem],?_,?_,u⟩
     . rw[J F (by simp),aD _ _ _ _ u,aB]
     . rw[J E (by simp),aB]
theorem Sn{α:Type}{p:α->Bool}:∀l:List α,(∀c x,c<(l.takeWhile p).length->l[c]?=some x->p x=true)/\(∀x,l[(l.takeWhile p).length]?=some x->p x=false)
 | []=>⟨fun c x h _=>by simp at h,fun x h=>by simp at h⟩
 | a::r=>by
   obtain⟨h1,I⟩:=Sn (p:=p) r;by_cases E:p a=true
   . rw[List.takeWhile_cons,if_pos E]
     refine⟨fun c x F u=>?_,fun x u=>I x (by simpa using u)⟩;cases c with
     | zero=>simp at u;subst u;exact E
     | succ c=>exact h1 c x (by simpa using F) (by simpa using u)
   . rw[List.takeWhile_cons,if_neg E]
     refine⟨fun c x F _=>by simp at F,fun x u=>?_⟩;simp at u;subst u;simpa using E
theorem Rb{p:Point}{t:Int}(u:0<=p.t/\p.t<=4096/\p.t<=p.a/\p.a<=p.t+4096)(e:p.t=t):Bx p t=p.a:=by
 unfold Bx;subst e;rw[rC (n:=p.t+p.a) (by omega),rC (by omega)];omega
theorem Zw{p q:Point}{t:Int}(E:0<=p.t/\p.t<=4096/\p.t<=p.a/\p.a<=p.t+4096)(F:0<=q.t/\q.t<=4096/\q.t<=q.a/\q.a<=q.t+4096)(u:p.t<q.t)(e:p.t=t):OA p q t=p.a:=by
 unfold OA;subst e;rw[Int.sub_self,show W 0=0 from rfl,Int.zero_mul,show W 0=0 from rfl,Int.zero_add,rC (n:=q.t) (by omega),rC (n:=q.t-p.t) (by omega),rC (n:=q.t-p.t-1) (by omega),
   Xcn (by omega),Int.ediv_eq_zero_of_lt (by omega) (by omega)]
 rw[show IntKind.i64.wrap 0=0 from rfl,Int.add_zero,rC (by omega)]
theorem agG{p q:Point}{t:Int}(M:0<=p.t/\p.t<=4096/\p.t<=p.a/\p.a<=p.t+4096)(O:0<=q.t/\q.t<=4096/\q.t<=q.a/\q.a<=q.t+4096)(T:p.a<=q.a)(h1:p.t<=t)(J:t<q.t):OA p q t=Yg p q t:=by
 unfold OA Yg;have I:0<=t-p.t/\t-p.t<=4096:=by omega
 have u:0<=q.a-p.a/\q.a-p.a<=8192:=by omega
 have E:0<=(t-p.t)*(q.a-p.a):=Int.mul_nonneg I.1 u.1;have F:(t-p.t)*(q.a-p.a)<=4096*8192:=Int.mul_le_mul I.2 u.2 u.1 (by omega);rw[rC (n:=t-p.t) (by omega),rC (n:=q.a-p.a) (by omega),rC (n:=(t-p.t)*(q.a-p.a)) (by omega),rC (n:=q.t-p.t) (by omega)];generalize (t-p.t)*(q.a-p.a)=m at E F;rw[rC (n:=m+q.t) (by omega),rC (n:=m+q.t-p.t) (by omega),rC (n:=m+(q.t-p.t)) (by omega),show m+q.t-p.t=m+(q.t-p.t)by omega]
def Pz(l:List Point)(t:Int):Int:=match (List.range (l.length-1)).find? (qB l t)with
 | some k=>OA (dX l k) (dX l (k+1)) t
 | none=>if decide (t>(dX l 0).t)=true then Bx (dX l (l.length-1)) t else Bx (dX l 0) t
theorem Ii{l:List Point}{t:Int}{k:Nat}(h:(List.range (l.length-1)).find? (qB l t)=some k):Pz l t=OA (dX l k) (dX l (k+1)) t:=by unfold Pz;rw[h]
theorem Me{l:List Point}{t:Int}(h:(List.range (l.length-1)).find? (qB l t)=none)(u:t>(dX l 0).t):Pz l t=Bx (dX l (l.length-1)) t:=by unfold Pz;rw[h];exact if_pos (by simpa using u)
theorem MP{l:List Point}{t:Int}(h:(List.range (l.length-1)).find? (qB l t)=none)(u:¬t>(dX l 0).t):Pz l t=Bx (dX l 0) t:=by unfold Pz;rw[h];exact if_neg (by simpa using u)
theorem ajE{l:List Point}{t:Int}{i:Nat}(u:bs l t=i)(h:i<l.length/\(dX l i).t=t):GL l t=(dX l i).a:=by
 unfold GL yE;rw[u];exact if_pos (by simp;omega)
theorem aiK{l:List Point}{t:Int}{i:Nat}(u:bs l t=i)(h:¬(i<l.length/\(dX l i).t=t)):GL l t=if((i:Int) == 0)=true then Bx (dX l 0) t
 else if((i:Int) == (l.length:Int))=true then Bx (dX l (i-1)) t else Yg (dX l (i-1)) (dX l i) t:=by
 unfold GL yE;rw[u];exact if_neg (by simp;intro E;omega)
theorem Vi{l:List Point}{t:Int}(h:TravB l)(hr:jR l=[])(ht:0<=t/\t<=1073741824):nI l t=GL l t:=by
 have hl:=h.len;have hb:=afX l t;obtain⟨ag,af⟩:=Sn (p:=fun p:Point=>decide (p.t<t)) l;have E:∀c,c<bs l t->(dX l c).t<t:=fun c M=>by
   obtain⟨x,hx⟩:=aN (show c<l.length by omega);have:=ag c x M hx;rw[eG hx];simpa using this
 have T:bs l t<l.length->t<=(dX l (bs l t)).t:=fun ah=>by
   obtain⟨x,hx⟩:=aN ah;have:=af x hx;rw[eG hx];simpa using this
 have Z:∀c,c<l.length->0<=(dX l c).t/\(dX l c).t<=4096/\(dX l c).t<=(dX l c).a/\(dX l c).a<=(dX l c).t+4096:=fun c M=>by
   obtain⟨x,hx⟩:=aN M;rw[eG hx];exact h.pt x (Xae hx)
 unfold nI;have ac:CG l t=false:=by unfold CG;rw[hr];simp;omega
 rw[if_neg (by rw[ac];simp)];show Pz l t=GL l t;obtain⟨i,hi⟩:∃i,bs l t=i:=⟨_,rfl⟩;rw[hi]at hb E T;have u:(∀c,c+1<l.length->qB l t c=false)->(List.range (l.length-1)).find? (qB l t)=none:=fun hn=>Hj fun c M=>hn c (by have:=Xbi.1 M;omega)
 have J:∀k,k+1<l.length->(∀c,c<k->qB l t c=false)->qB l t k=true->(List.range (l.length-1)).find? (qB l t)=some k:=fun k hk hn hy=>Nl (k:=k) (fun y ad=>by
   rw[List.take_range]at ad;exact hn y (by have:=Xbi.1 ad;omega)) (pA (by omega)) hy
 have F:∀c,c+1<l.length->(dX l (c+1)).t<=t->qB l t c=false:=fun c _ M=>by unfold qB;simp;omega
 by_cases aa:i<l.length/\(dX l i).t=t
 . rw[ajE hi aa]
   obtain⟨I,he⟩:=aa;have ab:∀c,c+1<l.length->c+1<=i->qB l t c=false:=fun c M aj=>F c M (by
     by_cases e:c+1=i
     . rw[e];omega
     . have:=E (c+1) (by omega);omega)
   by_cases O:i+1<l.length
   . have hm:=h.mono i O
     rw[Ii (J i O (fun c M=>ab c (by omega) (by omega)) (by unfold qB;simp;omega))];exact Zw (Z i I) (Z (i+1) O) hm.1 he
   . have hn:=u fun c M=>ab c M (by omega)
     have ae:i=l.length-1:=by omega
     by_cases h0:i=0
     . rw[h0]at he I |-
       rw[MP hn (by omega)];exact Rb (Z 0 I) he
     . have:=E 0 (by omega)
       rw[Me hn this,<-ae];exact Rb (Z i I) he
 . rw[aiK hi aa]
   by_cases h0:i=0
   . subst h0
     have hh:=T (by omega);have ai:(dX l 0).t≠t:=fun e=>aa ⟨by omega,e⟩
     rw[MP (u fun c M=>by
       have:(dX l 0).t<=(dX l c).t:=by
         by_cases e:c=0
         . rw[e];omega
         . have:=JQ h 0 c (by omega) (by omega);omega
       unfold qB;simp;omega) (by omega),if_pos (by simp)]
   . rw[if_neg (by simp;omega)]
     by_cases hn:i=l.length
     . have:=E 0 (by omega)
       rw[Me (u fun c M=>F c M (by have:=E (c+1) (by omega);omega)) this,if_pos (by simp;omega),hn]
     . have I:i<l.length:=by omega
       have hh:=T I;have ai:(dX l i).t≠t:=fun e=>aa ⟨I,e⟩
       have ak:=E (i-1) (by omega);have e1:i-1+1=i:=by omega
       rw[Ii (J (i-1) (by omega) (fun c M=>F c (by omega) (by have:=E (c+1) (by omega);omega)) (by unfold qB;rw[e1];simp;omega)),if_neg (by simp;omega)];rw[e1];have hm:=h.mono (i-1) (by omega);rw[e1]at hm;exact agG (Z (i-1) (by omega)) (Z i I) hm.2 (by omega) (by omega)
theorem UM(l:List Point)(t:Int)(F:jR l=[]):PC prog 327 [.sl (l.map cA),int t] (int (nI l t)):=by
 have h:=adU F;refine pcd Tryz.func327 ?_;unfold Tryz.f327;simp only[gdS];simp only[go_sem];refine PC.use (Ng _ _ _) ?_;simp only[go_sem];refine⟨_,fun _=>(JH l h).q rfl,?_⟩;simp only[go_sem];have u:CG l t=(!(decide (t>=0)&&decide (t<=1073741824))|| !true):=by
   unfold CG;rw[F,Xax];simp
 rw[<-u];refine aA (fun E=>?_) (fun E=>?_)
 . simp only[go_sem]
   exact cH (by unfold nI;rw[if_pos E])
 have I:0<=t/\t<=1073741824:=by unfold CG at E;simp at E;omega
 simp only[go_sem];refine PC.use (Uh l t h I) ?_;simp only[go_sem];exact cH (Vi h F I).symm
theorem NY(n:Network)(i:Int):PC prog 281 [.agg (aY n),int i] (boo (Ks n i)):=by
 refine pcd Tryz.func281 ?_;unfold Tryz.f281;simp only[gdS];simp only[go_sem];exact .refl _
def LJ(a:Arc):List AV:=[int a.src,int a.dst,int a.profile]
theorem acO(a:Arc):PC prog 326 [.agg (gB a)] (.agg (LJ a)):=by
 refine pcb (fun t=>t == 2) Tryz.func326 ?_;unfold Tryz.f326;simp only[gdS];simp only[go_sem];refine aK fun j u=>?_
 simp only[go_sem];refine aJ (aB _ _ _) (by simp) ?_;simp only[go_sem];exact .refl _
structure NetOk(n:Network):Prop where
 arcs:n.arcs.length<=1048576
 travel:∀a∈n.arcs,jR a.travel=[]
 slow:∀a∈n.arcs,a.slow.length<=1048576
theorem QK(a:Arc)(t:Int)(ha:jR a.travel=[])(aa:a.slow.length<=1048576):PC prog 283 [.agg (gB a),int t] (int (Fu a t)):=by
 refine pcd Tryz.func283 ?_;unfold Tryz.f283;simp only[gdS];simp only[go_sem];refine PC.use (UM a.travel t ha) ?_;simp only[go_sem];refine⟨fun ρ _=>∃k:Nat,k<=a.slow.length/\ρ 1=int t/\ρ 13=.sl (a.slow.map cA)/\ρ 14=int a.slow.length/\ρ 5=int ((a.slow.take k).foldl (D0 t) (nI a.travel t))/\ρ 15=int k,fun ρ _=>a.slow.length-aT (ρ 15),⟨0,Xab _,rfl,rfl,rfl,rfl,rfl⟩,?_⟩;rintro ρ H ⟨k,hk,h1,F,E,M,u⟩;simp only[go_sem,h1,F,E,M,u];refine aA (fun I=>?_) (fun T=>?_)
 . have I:=bD I
   obtain⟨p,hp⟩:=aN I;have b1:=inB I;have hs:(a.slow.take (k+1)).foldl (D0 t) (nI a.travel t)=D0 t ((a.slow.take k).foldl (D0 t) (nI a.travel t)) p:=by rw[bP hp,List.foldl_append];rfl
   simp only[go_sem,h1,F,E,M,u,aF hp,b1];refine aK fun i7 Z=>?_
   simp only[go_sem,h1,F,E,M,u];refine aJ (aB _ _ _) (by simp[gH]) ?_;generalize O:aI (aI _ i7 _) i7 _=HGi7;have R7:HGi7 i7=some (⟨104,2,[cA p]⟩):=by rw[<-O,aB];rfl
   clear O Z;simp only[go_sem,h1,F,E,M,u,R7];refine lC (fun J _=>J 1=int t/\J 13=.sl (a.slow.map cA)/\J 14=int a.slow.length/\J 5=int ((a.slow.take (k+1)).foldl (D0 t) (nI a.travel t))/\J 15=int k) ?_ fun K hK _ _=>aA (fun hb=>?_) (fun hb=>?_)
   . clear h1 F E M u
     rintro ρ H ⟨h1,F,E,M,u⟩;simp only[go_sem,h1,F,E,M,u,aP (show k<=4611686018427387904 by omega)];exact⟨⟨k+1,I,rfl,rfl⟩,by simp only[aE];omega⟩
   . simp only[go_sem,h1,F,E,M,u,R7]
     refine hK _ _ ⟨by simp only[go_sem,h1],by simp only[go_sem,F],by simp only[go_sem,E],?_,by simp only[go_sem,u]⟩;simp only[go_sem];rw[hs,D0,if_pos hb];rfl
   . simp only[go_sem]
     refine hK _ _ ⟨by simp only[go_sem,h1],by simp only[go_sem,F],by simp only[go_sem,E],?_,by simp only[go_sem,u]⟩;simp only[go_sem,M];rw[hs,D0,if_neg (by rw[hb];simp)]
 . have T:=bF hk T
   subst T;simp only[go_sem,M];rw[Xag];exact .refl _
theorem adH(n:Network)(p f t:Int)(hl:n.arcs.length<=1048576):PC prog 282 [.agg (aY n),int p,int f,int t] (.tup [.agg (gB ((yL n p f t).getD BR)),boo (yL n p f t).isSome]):=by
 refine pcd Tryz.func282 ?_;unfold Tryz.f282;simp only[gdS];simp only[go_sem];refine aK fun j8 am=>?_
 generalize ah:aI _ j8 _=HGj8;have R8:HGj8 j8=some (⟨107,6,[gB BR]⟩):=by rw[<-ah,aB];rfl
 clear ah am;simp only[go_sem,R8];refine aK fun F ae=>?_
 have I:j8≠F:=aQ R8 ae;simp only[go_sem,R8];refine aJ (aB _ _ _) (by simp[gH]) ?_;generalize ac:aI (aI _ F _) F _=HGj10;replace R8:=(congrFun ac.symm j8).trans ((aD _ _ _ _ I).trans ((aD _ _ _ _ I).trans R8));have J:HGj10 F=some (⟨340,3,[[int f,int t,int p]]⟩):=by rw[<-ac,aB];rfl
 clear ac ae;simp only[go_sem,J,R8];refine⟨fun ρ H=>∃k:Nat,k<=n.arcs.length/\ρ 8=.op j8 0 0/\ρ 10=.op F 0 0/\ρ 18=.sl (n.arcs.map gB)/\ρ 19=int n.arcs.length/\ρ 20=int k/\H j8=some (⟨107,6,[gB BR]⟩:Row)/\H F=some (⟨340,3,[[int f,int t,int p]]⟩:Row)/\∀a∈n.arcs.take k,KZ p f t a=false,fun ρ _=>n.arcs.length-aT (ρ 20),⟨0,Xab _,rfl,rfl,rfl,rfl,rfl,R8,J,by simp⟩,?_⟩;clear R8 J;rintro ρ H ⟨k,hk,h8,ab,aa,T,Z,R8,J,hz⟩;simp only[go_sem,h8,ab,aa,T,Z];refine aA (fun af=>?_) (fun ak=>?_)
 . have af:=bD af
   obtain⟨a,aj⟩:=aN af;have b1:=inB af;simp only[go_sem,h8,ab,aa,T,Z,aF aj,b1];refine aK fun O ad=>?_
   have E:j8≠O:=aQ R8 ad;have u:F≠O:=aQ J ad;simp only[go_sem,h8,ab,aa,T,Z,R8,J];refine aJ (aB _ _ _) (by simp[jF]) ?_;generalize M:aI (aI _ O _) O _=HGi12;replace R8:=(congrFun M.symm j8).trans ((aD _ _ _ _ E).trans ((aD _ _ _ _ E).trans R8));replace J:=(congrFun M.symm F).trans ((aD _ _ _ _ u).trans ((aD _ _ _ _ u).trans J));have ag:HGi12 O=some (⟨107,6,[gB a]⟩):=by rw[<-M,aB];rfl
   clear M ad;simp only[go_sem,h8,ab,aa,T,Z,ag,R8,J];refine fE [O] [(0,true),(1,true),(2,false),(3,false)] (by simp[ag]) (by kernel_rfl) fun Hp Hr hp hr _ ar=>?_
   have an:=(hp O (by simp)).trans ag;have ai:=(hr F (by simp[u])).trans J;simp only[go_sem,h8,ab,aa,T,Z,an,ai];refine⟨_,(acO a).q rfl,?_⟩;simp only[go_sem,h8,ab,aa,T,Z,an,ai,LJ];refine fI fun _ Hm aq ao=>?_
   have M8:Hm j8=some (⟨107,6,[gB BR]⟩:Row):=by
     have n1:j8∉[O]:=by simp[E]
     rw[ao j8 n1];exact(hr j8 n1).trans R8
   have al:=(aq O (by simp)).trans ag;have ap:Hm F=_:=(ao F (by simp[u])).trans ai;simp only[go_sem,h8,ab,aa,T,Z,M8,ap,al];have ea:(a.src == f&&(a.dst == t&&(a.profile == p&&true)))=KZ p f t a:=by unfold KZ;rw[Xco,Bool.and_assoc]
   rw[ea];refine aA (fun hb=>?_) (fun hb=>?_)
   . simp only[go_sem,h8,al]
     refine aJ M8 (by simp[jF]) ?_;simp only[go_sem,h8,jF];have:yL n p f t=some a:=Nl hz aj hb;rw[this];exact .refl _
   . simp only[go_sem,h8,ab,aa,T,Z,aP (show k<=4611686018427387904 by omega)]
     exact⟨⟨k+1,af,rfl,M8,ap,aZ (p:=fun a=>KZ p f t a=false) aj hb hz⟩,by simp only[aE];omega⟩
 . have ak:=bF hk ak
   subst ak;rw[Xag]at hz;simp only[go_sem,h8];refine aJ R8 (by simp) ?_;simp only[go_sem,h8];have:yL n p f t=none:=Hj hz;rw[this];exact .refl _
theorem WS(n:Network)(p f t time:Int)(T:NetOk n):PC prog 244 [.agg (aY n),int p,int f,int t,int time] (.tup [int (jN n p f t time).1,int (jN n p f t time).2.1,int (jN n p f t time).2.2]):=by
 refine pcd Tryz.func244 ?_;unfold Tryz.f244;simp only[gdS];simp only[go_sem];refine PC.use (NY n f) ?_;simp only[go_sem];refine⟨_,fun _=>(NY n t).q rfl,?_⟩;simp only[go_sem];refine aA (fun h1=>?_) (fun h1=>?_)
 . simp only[go_sem]
   have:jN n p f t time=(0,0,11):=by unfold jN;rw[if_pos h1]
   rw[this];exact .refl _
 simp only[go_sem];refine aA (fun M=>?_) (fun M=>?_)
 . simp only[go_sem]
   have:jN n p f t time=(time,0,0):=by unfold jN;rw[if_neg (by rw[h1];simp),if_pos M]
   rw[this];exact .refl _
 have hg:jN n p f t time=match yL n p f t with|some a=>(Fu a time,a.miles,0)|none=>(0,0,12):=by unfold jN;rw[if_neg (by rw[h1];simp),if_neg (by rw[M];simp)];rfl
 rw[hg];simp only[go_sem];refine PC.use (adH n p f t T.arcs) ?_;simp only[go_sem];refine aK fun F I=>?_
 simp only[go_sem];refine aJ (aB _ _ _) (by simp[jF]) ?_;generalize u:aI (aI _ F _) F _=HGj13;have E:HGj13 F=some (⟨107,6,[gB ((yL n p f t).getD BR)]⟩):=by rw[<-u,aB];rfl
 clear u I;simp only[go_sem,E];cases Z:yL n p f t with
 | none=>
   refine aA (fun _=>?_) (fun O=>by simp at O);simp only[go_sem];exact .refl _
 | some a=>
   have J:=List.mem_of_find?_eq_some Z;refine aA (fun O=>by simp at O) (fun _=>?_);rw[Z]at E;simp only[go_sem,Option.getD_some,jF];refine dJ (by rfl) (by kernel_rfl) ?_;simp only[go_sem,Option.getD_some,E,jF];refine⟨_,(QK a time (T.travel a J) (T.slow a J)).q rfl,?_⟩;simp only[go_sem,Option.getD_some,E,jF];exact .refl _
theorem Sa(s:Stop)(a:Int):PC prog 284 [.agg (eI s),int a] (.tup [int (if kF a s.start>s.close then 0 else kF a s.start),int (if kF a s.start>s.close then 14 else 0)]):=by
 refine pcd Tryz.func284 ?_;unfold Tryz.f284;simp only[gdS];simp only[go_sem];refine aA (fun u=>?_) (fun u=>?_)
 . have u:kF a s.start>s.close:=by simpa using u
   simp only[go_sem];rw[if_pos u,if_pos u];exact .refl _
 . have u:¬kF a s.start>s.close:=by simpa using u
   simp only[go_sem];rw[if_neg u,if_neg u];exact .refl _
end Go.Proofs.YtohmomanmikphaaGreatDoor.Sq
end
