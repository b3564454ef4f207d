import Derived.Test.YtohmomanmikphaaGreatDoorPf12
set_option linter.unusedSimpArgs false
set_option linter.unusedVariables false
set_option maxRecDepth 100000
section
namespace Go.Proofs.YtohmomanmikphaaGreatDoor.Sq
open Go.Proofs.Tryz(prog)
open Go.Aw Go.Aw.D Go.Proofs Ty
open Mv (bW cN NC.pc aT)
theorem nX{α:Type}{p:α->Bool}:∀(l:List α) (n:Int),0<=n->decide (lU p l n>=0)=l.any p
 | [],n,_=>rfl
 | a::r,n,hn=>by
   have ih:=nX (p:=p) r (n+1) (by omega);rw[Xau]at ih |-;simp only[decide_eq_true_eq]at ih |-;rw[List.any_cons,Xbl,<-ih];by_cases h:p a=true
   . rw[show lU p (a::r) n=n from if_pos h];exact⟨fun _=>.inl h,fun _=>hn⟩
   . rw[show lU p (a::r) n=lU p r (n+1)from if_neg h];exact⟨fun x=>.inr x,fun x=>x.resolve_left h⟩
theorem Iu(l:List Int):(rD l).length=1:=(rfl)
theorem Ra(l:List Int):(rD l).getD 0 .any=.sl (l.map bN):=(rfl)
attribute [go_sem] Iu Ra
theorem AR{g:Nat}{cap:List AV}{p:Visit->Bool}(l:List (Visit))(hl:l.length<=1048576)(T:aC prog g=true)(hg:∀v∈l,PC prog g (.agg (aK v)::cap) (boo (p v))):
   PC prog 345 [.sl (l.map aK),.fn g cap] (int (lU p l 0)):=by
 refine pcd Tryz.func345 ?_;unfold Tryz.f345;simp only[gdS];simp only[go_sem];refine⟨fun ρ _=>∃k:Nat,k<=l.length/\ρ 0=.sl (l.map aK)/\ρ 1=.fn g cap/\ρ 7=int l.length/\ρ 8=int k/\∀u∈l.take k,p u=false,fun ρ _=>l.length-aV (ρ 8),⟨0,Xac _,rfl,rfl,rfl,rfl,by simp⟩,?_⟩;rintro ρ H ⟨k,hk,h0,h1,J,I,M⟩;simp only[go_sem,h0,h1,J,I];refine aB (fun E=>?_) (fun F=>?_)
 . have E:=aZ E
   obtain⟨u,O⟩:=aN E;have b1:=inB E;simp only[go_sem,h0,h1,J,I,aE O,b1,T];refine PC.use (hg u (Xae O)) ?_;simp only[go_sem,h0,h1,J,I];refine aB (fun Z=>?_) (fun Z=>?_)
   . simp only[go_sem,I]
     exact bW (by rw[mS M O Z];omega)
   . simp only[go_sem,h0,h1,J,I,aP (show k<=4611686018427387904 by omega)]
     exact⟨⟨k+1,E,rfl,aT (p:=fun u=>p u=false) O Z M⟩,by simp only[aF];omega⟩
 . have F:=bC hk F
   subst F;rw[Xag]at M;simp only[go_sem];exact bW (by rw[kN M])
theorem oJ{g:Nat}{cap:List AV}{p:Visit->Bool}(l:List (Visit))(F:l.length<=1048576)(u:aC prog g=true)(E:∀v∈l,PC prog g (.agg (aK v)::cap) (boo (p v))):
   PC prog 306 [.sl (l.map aK),.fn g cap] (boo (l.any p)):=by
 refine pcd Tryz.func306 ?_;unfold Tryz.f306;simp only[gdS];simp only[go_sem];refine PC.use (AR l F u E) ?_;simp only[go_sem];exact cN (nX l 0 (Xbx _))
theorem H8{g:Nat}{cap:List AV}{p:List Int->Bool}(l:List (List Int))(hl:l.length<=1048576)(T:aC prog g=true)(hg:∀v∈l,PC prog g (.sl (v.map bN)::cap) (boo (p v))):
   PC prog 354 [.sl (l.map rD),.fn g cap] (int (lU p l 0)):=by
 refine pcd Tryz.func354 ?_;unfold Tryz.f354;simp only[gdS];simp only[go_sem];refine⟨fun ρ _=>∃k:Nat,k<=l.length/\ρ 0=.sl (l.map rD)/\ρ 1=.fn g cap/\ρ 7=int l.length/\ρ 8=int k/\∀u∈l.take k,p u=false,fun ρ _=>l.length-aV (ρ 8),⟨0,Xac _,rfl,rfl,rfl,rfl,by simp⟩,?_⟩;rintro ρ H ⟨k,hk,h0,h1,J,I,M⟩;simp only[go_sem,h0,h1,J,I];refine aB (fun E=>?_) (fun F=>?_)
 . have E:=aZ E
   obtain⟨u,O⟩:=aN E;have b1:=inB E;simp only[go_sem,h0,h1,J,I,aE O,b1,T];refine PC.use (hg u (Xae O)) ?_;simp only[go_sem,h0,h1,J,I];refine aB (fun Z=>?_) (fun Z=>?_)
   . simp only[go_sem,I]
     exact bW (by rw[mS M O Z];omega)
   . simp only[go_sem,h0,h1,J,I,aP (show k<=4611686018427387904 by omega)]
     exact⟨⟨k+1,E,rfl,aT (p:=fun u=>p u=false) O Z M⟩,by simp only[aF];omega⟩
 . have F:=bC hk F
   subst F;rw[Xag]at M;simp only[go_sem];exact bW (by rw[kN M])
theorem C3{g:Nat}{cap:List AV}{p:List Int->Bool}(l:List (List Int))(F:l.length<=1048576)(u:aC prog g=true)(E:∀v∈l,PC prog g (.sl (v.map bN)::cap) (boo (p v))):
   PC prog 315 [.sl (l.map rD),.fn g cap] (boo (l.any p)):=by
 refine pcd Tryz.func315 ?_;unfold Tryz.f315;simp only[gdS];simp only[go_sem];refine PC.use (H8 l F u E) ?_;simp only[go_sem];exact cN (nX l 0 (Xbx _))
theorem PL(l:List Visit)(v:Visit)(hl:l.length<=1048576):PC prog 325 [.sl (l.map aK),.agg (aK v)] (int (eV l v)):=by
 refine pcd Tryz.func325 ?_;unfold Tryz.f325;simp only[gdS];simp only[go_sem];refine⟨fun ρ _=>∃k:Nat,k<=l.length/\ρ 0=.sl (l.map aK)/\ρ 3=.rp (aK v) 0/\ρ 7=int l.length/\ρ 8=int k/\∀u∈l.take k,Em v u=false,fun ρ _=>l.length-aV (ρ 8),⟨0,Xac _,rfl,rfl,rfl,rfl,by simp⟩,?_⟩;rintro ρ H ⟨k,hk,h0,O,M,J,T⟩;simp only[go_sem,h0,O,M,J];refine aB (fun E=>?_) (fun F=>?_)
 . have E:=aZ E
   obtain⟨u,Z⟩:=aN E;have b1:=inB E;have su:(v.order == u.order&&(v.drop == u.drop&&true))=Em v u:=by
     unfold Em;rw[show(v.order == u.order)=(u.order == v.order)from Xau.2 (by simp only[beq_iff_eq];exact eq_comm),show(v.drop == u.drop)=(u.drop == v.drop)from by cases v.drop <;> cases u.drop <;> rfl]
   simp only[go_sem,h0,O,M,J];refine dA (by rfl) (by kernel_rfl) ?_;simp only[go_sem,h0,O,M,J,aE Z,b1];refine aB (fun I=>?_) (fun I=>?_)
   . have I:Em v u=true:=by rw[<-su];exact I
     simp only[go_sem,J];exact bW (by rw[eV,mS T Z I];omega)
   . have I:Em v u=false:=by rw[<-su];exact I
     simp only[go_sem,h0,O,M,J,aP (show k<=4611686018427387904 by omega)];exact⟨⟨k+1,E,rfl,aT (p:=fun u=>Em v u=false) Z I T⟩,by simp only[aF];omega⟩
 . have F:=bC hk F
   subst F;rw[Xag]at T;simp only[go_sem];exact bW (by rw[eV,kN T])
def inV(l:List Visit)(v:Visit):Bool:=decide (eV l v>=0)
theorem N3(l:List Visit)(v:Visit)(u:l.length<=1048576):PC prog 346 [.sl (l.map aK),.agg (aK v)] (boo (inV l v)):=by
 refine pcd Tryz.func346 ?_;unfold Tryz.f346;simp only[gdS];simp only[go_sem];refine PC.use (PL l v u) ?_;simp only[go_sem];exact .refl _
theorem AP(l:List Visit)(v:Visit)(u:l.length<=1048576):PC prog 280 [.sl (l.map aK),.agg (aK v)] (int (eV l v)):=by
 refine pcd Tryz.func280 ?_;unfold Tryz.f280;simp only[gdS];simp only[go_sem];refine PC.use (PL l v u) ?_;simp only[go_sem];exact .refl _
def DK(l:List Visit)(o:Int):Bool:=l.any fun v=>v.order == o
theorem aeC(o:Int)(v:Visit):PC prog 347 [.agg (aK v),.rp [int o] 0] (boo (v.order == o)):=by
 refine pcd Tryz.func347 ?_;unfold Tryz.f347;simp only[gdS];simp only[go_sem];exact .refl _
theorem Sl(o:Int)(v:Visit):PC prog 348 [.agg (aK v),.rp [int o] 0] (boo (v.order == o)):=by
 refine pcd Tryz.func348 ?_;unfold Tryz.f348;simp only[gdS];simp only[go_sem];exact .refl _
theorem Cl(l:List Visit)(o:Int)(u:l.length<=1048576):PC prog 311 [.sl (l.map aK),int o] (boo (DK l o)):=by
 refine pcd Tryz.func311 ?_;unfold Tryz.f311;simp only[gdS];simp only[go_sem];refine PC.use (oJ (p:=fun v=>v.order == o) l u (by kernel_rfl) (fun v _=>aeC o v)) ?_;simp only[go_sem];exact .refl _
theorem PR(l:List Order)(k:Int):PC prog 186 [.sl (l.map bD),int k] (boo (!dG k l.length)):=by
 refine pcd Tryz.func186 ?_;unfold Tryz.f186;simp only[gdS];simp only[go_sem];refine cN ?_;unfold dG;rw[Xau];simp
theorem qU{α:Type}{p:α->Bool}{l:List α}{k:Nat}{x:α}(E:l[k]?=some x)(u:p x=false):l.all p=false:=by
 rw[List.all_eq_false];exact⟨x,Xae E,by simp[u]⟩
theorem wG{α:Type}{p:α->Bool}{l:List α}(h:∀x∈l.take l.length,p x=true):l.all p=true:=by
 rw[Xag]at h;rw[Xao];exact h
theorem T2(x:Int):qI .and .i64 x 1=x%2:=by
 have h:((BitVec.ofInt 64 x &&& BitVec.ofInt 64 1).toNat:Int)=x%2:=by
   rw[BitVec.toNat_and,BitVec.toNat_ofInt,BitVec.toNat_ofInt];have:((1:Int)%((2^64:Nat):Int)).toNat=1:=by decide
   rw[this,Nat.and_one_is_mod];omega
 refine Eq.trans (congrArg IntKind.i64.wrap h) ?_;exact bA (by omega)
theorem D4{a b:Nat}(u:a<2^63)(F:b<2^63):qI .or .i64 (a:Int) (b:Int)=((a ||| b:Nat):Int):=by
 have h:((BitVec.ofInt 64 (a:Int) ||| BitVec.ofInt 64 (b:Int)).toNat:Int)=((a ||| b:Nat):Int):=by
   rw[BitVec.toNat_or,BitVec.toNat_ofInt,BitVec.toNat_ofInt];have h1:((a:Int)%((2^64:Nat):Int)).toNat=a:=by omega
   have E:((b:Int)%((2^64:Nat):Int)).toNat=b:=by omega
   rw[h1,E]
 refine Eq.trans (congrArg IntKind.i64.wrap h) ?_;have:=Xbs u F;exact bA (by omega)
theorem rT{x:Int}{i:Nat}(h:i<=62):shV .shr .i64 x (i:Int)=x/2^i:=by
 show x.fdiv (2^min ((i:Int)).toNat 64)=_;have:min ((i:Int)).toNat 64=i:=by omega
 rw[this,Xcf _ (by exact Int.le_of_lt (Int.pow_pos (by decide)))]
theorem DS{i:Nat}(h:i<=62):shV .shl .i64 1 (i:Int)=((2^i:Nat):Int):=by
 show IntKind.i64.wrap (1*2^min ((i:Int)).toNat 64)=_;have:min ((i:Int)).toNat 64=i:=by omega
 rw[this,Int.one_mul];have u:(2:Nat)^i<=2^62:=Xav (by decide) h;have E:((2:Int)^i)=((2^i:Nat):Int):=by norm_cast
 rw[E];generalize 2^i=m at u;exact bA (by omega)
def dH(set i:Int):Bool:=decide (i>=0)&&decide (i<=62)&&((set/2^i.toNat)%2 == 1)
theorem tK(set i:Int):PC prog 121 [int set,int i] (boo (dH set i)):=by
 refine pcd Tryz.func121 ?_;unfold Tryz.f121;simp only[gdS];simp only[go_sem];refine⟨fun h=>?_,?_⟩
 . simp at h;omega
 . refine cN ?_
   unfold dH;rw[T2];by_cases h:0<=i/\i<=62
   . obtain⟨h0,h1⟩:=h
     have e:=rT (x:=set) (i:=i.toNat) (by omega);rw[Int.toNat_of_nonneg h0]at e;rw[e]
   . have:(decide (i>=0)&&decide (i<=62))=false:=by simp;omega
     rw[this];rfl
def A9(l:List Visit):Nat:=l.foldl (fun s v=>s ||| 2^v.order.toNat) 0
theorem Xf(l:List Visit)(v:Visit):A9 (l++[v])=A9 l ||| 2^v.order.toNat:=by simp[A9]
theorem YR{m:Nat}(l:List Visit)(h:∀v∈l,v.order.toNat<m):A9 l<2^m:=by
 suffices ∀(l:List Visit) (s:Nat),s<2^m->(∀v∈l,v.order.toNat<m)->l.foldl (fun s v=>s ||| 2^v.order.toNat) s<2^m from this l 0 (Nat.two_pow_pos m) h
 intro l;induction l with
 | nil=>intro s u _;exact u
 | cons v r ih=>
   intro s u h;rw[List.foldl_cons];exact ih _ (Xbs u (Xby (by decide) (h v (by simp)))) fun v E=>h v (by simp[E])
theorem Xb(l:List Visit)(i:Nat):(A9 l).testBit i=l.any fun v=>v.order.toNat == i:=by
 suffices ∀(l:List Visit) (s:Nat),(l.foldl (fun s v=>s ||| 2^v.order.toNat) s).testBit i=(s.testBit i||l.any fun v=>v.order.toNat == i)from by
   have:=this l 0;simpa[A9]using this
 intro l;induction l with
 | nil=>intro s;simp
 | cons v r ih=>
   intro s;rw[List.foldl_cons,ih,Nat.testBit_or,Nat.testBit_two_pow,List.any_cons,Bool.or_assoc];rfl
theorem KG{s i:Nat}(h:s.testBit i=true):s ||| 2^i=s:=by
 apply Nat.eq_of_testBit_eq;intro j;rw[Nat.testBit_or,Nat.testBit_two_pow];by_cases e:i=j
 . subst e;simp[h]
 . simp[e]
def okV(v:Visit):Bool:= !(decide (v.order<0)||decide (v.order>62))
def qQ(l:List Visit):Int×Int:=if l.all okV then(((A9 l:Nat):Int),0)else(0,2)
theorem Tc(r:Route)(hr:r.visits.length<=1048576):PC prog 349 [.agg (cX r)] (.tup [int (qQ r.visits).1,int (qQ r.visits).2]):=by
 refine pcd Tryz.func349 ?_;unfold Tryz.f349;simp only[gdS];simp only[go_sem];refine⟨fun ρ _=>∃k:Nat,k<=r.visits.length/\ρ 8=.sl (r.visits.map aK)/\ρ 9=int r.visits.length/\ρ 10=int k/\ρ 4=int (A9 (r.visits.take k):Nat)/\∀v∈r.visits.take k,okV v=true,fun ρ _=>r.visits.length-aV (ρ 10),⟨0,Xac _,rfl,rfl,rfl,rfl,by simp⟩,?_⟩;rintro ρ H ⟨k,hk,Z,O,E,M,hz⟩;simp only[go_sem,Z,O,E,M];refine aB (fun u=>?_) (fun I=>?_)
 . have u:=aZ u
   obtain⟨v,F⟩:=aN u;have b1:=inB u;simp only[go_sem,Z,O,E,M,aE F,b1];refine aM fun j hj=>?_
   simp only[go_sem,Z,O,E,M,aE F,b1];refine aJ (aA _ _ _) (by simp[cU]) ?_;simp only[go_sem,Z,O,E,M,aE F,b1];refine aB (fun hb=>?_) (fun hb=>?_)
   . simp only[go_sem]
     have:qQ r.visits=(0,2):=by unfold qQ;rw[qU F (by unfold okV;rw[hb];rfl)];rfl
     rw[this];exact .refl _
   . have T:okV v=true:=by unfold okV;rw[hb];rfl
     have aa:0<=v.order/\v.order<=62:=by simp[okV]at T;omega
     have J:A9 (r.visits.take k)<2^63:=YR _ fun v F=>by have:=hz v F;simp[okV]at this;omega
     have e1:=DS (i:=v.order.toNat) (by omega);rw[Int.toNat_of_nonneg aa.1]at e1;have e2:=D4 (a:=A9 (r.visits.take k)) (b:=2^v.order.toNat) J (Xby (by decide) (by omega));simp only[go_sem,Z,O,E,M,aE F,b1,e1,e2,aP (show k<=4611686018427387904 by omega)];refine⟨aa.1,⟨k+1,u,rfl,?_,aT (p:=fun v=>okV v=true) F T hz⟩,by simp only[aF];omega⟩;rw[bQ F,Xf]
 . have I:=bC hk I
   subst I;simp only[go_sem,M];have:qQ r.visits=(((A9 r.visits:Nat):Int),0):=by unfold qQ;rw[wG hz];rfl
   rw[this,Xag];exact .refl _
theorem Wj{s i:Nat}(E:s<2^63)(u:i<63)(h:s.testBit i=false):s ||| 2^i=s+2^i:=by
 have F:2^i<2^63:=Xby (by decide) u;have h0:BitVec.ofNat 64 s &&& BitVec.ofNat 64 (2^i)=0#64:=by
   apply BitVec.eq_of_toNat_eq;rw[BitVec.toNat_and,BitVec.toNat_ofNat,BitVec.toNat_ofNat,Xbb (by omega),Xbb (by omega)];apply Nat.eq_of_testBit_eq;intro j;rw[Nat.testBit_and,Nat.testBit_two_pow];by_cases e:i=j
   . subst e;simp[h]
   . simp[e]
 have h1:=congrArg BitVec.toNat (BitVec.add_eq_or_of_and_eq_zero (BitVec.ofNat 64 s) (BitVec.ofNat 64 (2^i)) h0);rw[BitVec.toNat_add,BitVec.toNat_or,BitVec.toNat_ofNat,BitVec.toNat_ofNat,Xbb (by omega:s<2^64),Xbb (by omega:2^i<2^64),Xbb (by omega)]at h1;exact h1.symm
theorem Bk{n:Int}(h:0<=n/\n<18446744073709551616):IntKind.u64.wrap n=n:=Mv.U0 h
theorem sH{s:Nat}{i:Int}(h0:0<=i)(h1:i<=62):dH (s:Int) i=s.testBit i.toNat:=by
 rw[Nat.testBit_eq_decide_div_mod_eq];unfold dH;have u:((2:Int)^i.toNat)=((2^i.toNat:Nat):Int):=by norm_cast
 have:((s:Int)/2^i.toNat)=((s/2^i.toNat:Nat):Int):=by rw[u];rfl
 rw[this];generalize s/2^i.toNat=m;rw[Xau];simp only[beq_iff_eq,decide_eq_true_eq,Xap];omega
theorem RV{s:Nat}{i:Int}(h0:0<=i)(h1:i<=62):Uo (s:Int) i=s.testBit i.toNat:=by
 rw[<-sH h0 h1];unfold Uo dH;rw[Bk (by omega)];obtain⟨n,rfl⟩:=Int.eq_ofNat_of_zero_le h0;rw[rT (by omega)];have u:((2:Int)^n)=((2^n:Nat):Int):=by norm_cast
 have e:((n:Int)).toNat=n:=Xbf n;rw[e];have:((s:Int)/2^n)=((s/2^n:Nat):Int):=by rw[u];rfl
 rw[this];generalize s/2^n=m;rw[Xce (by omega)];rw[Xau];simp only[beq_iff_eq,decide_eq_true_eq,Xap];omega
theorem Xa{s:Nat}{n:Int}(I:s<2^63)(h0:0<=n)(h1:n<=62):Y2 (s:Int) n=((s ||| 2^n.toNat:Nat):Int):=by
 unfold Y2;rw[RV h0 h1];cases F:s.testBit n.toNat with
 | true=>rw[if_pos rfl,KG F]
 | false=>
   rw[if_neg (by simp),Bk (by omega)];obtain⟨k,rfl⟩:=Int.eq_ofNat_of_zero_le h0;have e:((k:Int)).toNat=k:=Xbf k;rw[e]at F |-;have J:2^k<2^63:=Xby (by decide) (by omega);have u:=Wj I (by omega) F;have E:=Xbs I J;rw[u]at E |-;rw[DS (by omega),bA (by omega)];omega
theorem GG{l:List Visit}(h:∀v∈l,Fq v=false):abD l=(A9 l:Nat):=by
 suffices ∀(l:List Visit) (s:Nat),s<2^63->(∀v∈l,Fq v=false)->l.foldl (fun s v=>Y2 s v.order) (s:Int)=((l.foldl (fun s v=>s ||| 2^v.order.toNat) s:Nat):Int)from this l 0 (by decide) h
 intro l;induction l with
 | nil=>intro s _ _;rfl
 | cons v r ih=>
   intro s E h;have F:=h v (by simp);unfold Fq at F;simp only[Xak,decide_eq_false_iff_not]at F;rw[List.foldl_cons,List.foldl_cons,Xa E (by omega) (by omega)];exact ih _ (Xbs E (Xby (by decide) (by omega))) fun u I=>h u (by simp[I])
theorem PS(v:Visit):okV v= !Fq v:=rfl
theorem Nb(l:List Visit):qQ l=mP l:=by
 unfold qQ mP;by_cases h:l.any Fq=true
 . rw[if_pos h,if_neg]
   rw[Xao];intro I;obtain⟨v,u,E⟩:=Xbe.1 h;have:=I v u;rw[PS,E]at this;cases this
 . have F : ∀ v ∈ l, Fq v = false := fun v u => by
     cases E:Fq v with
     | false=>rfl
     | true=>exact absurd (Xbe.2 ⟨v,u,E⟩) h
   rw[if_neg h,if_pos (Xao.2 fun v u=>by rw[PS,F v u];rfl),GG F]
theorem Eo(r:Route)(u:r.visits.length<=1048576):PC prog 349 [.agg (cX r)] (.tup [int (mP r.visits).1,int (mP r.visits).2]):=Nb r.visits▸Tc r u
def mC(o:Order)(i:Int):List Visit:=(if decide (o.pick.place>=0)=true then[⟨i,false⟩]else[])++(if decide (o.drop.place>=0)=true then[⟨i,true⟩]else[])
def iE(os:List Order)(i:Int):List Visit:=if dG i os.length=true then[]else match os[i.toNat]? with|some o=>mC o i|none=>[]
theorem Le(o:Order)(i:Int):(mC o i).length<=2:=by unfold mC;split <;> split <;> simp
theorem pJ(os:List Order)(i:Int):(iE os i).length<=2:=by
 unfold iE;split
 . simp
 . split
   . exact Le _ _
   . simp
theorem pA(os:List Order)(i:Int):PC prog 118 [.sl (os.map bD),int i] (.sl ((iE os i).map aK)):=by
 refine pcb (fun t=>t == 5) Tryz.func118 ?_;unfold Tryz.f118;simp only[gdS];simp only[go_sem];refine aM fun j Z=>?_
 simp only[go_sem];refine PC.use (PR os i) ?_;simp only[go_sem];refine aB (fun h0=>?_) (fun h0=>?_)
 . have I:dG i os.length=true:=by simpa using h0
   simp only[go_sem];rw[iE,if_pos I];exact .refl _
 have I:dG i os.length=false:=by simpa using h0
 have F:0<=i/\i<(os.length:Int):=by simp only[dG,Xak,decide_eq_false_iff_not]at I;omega
 obtain⟨o,u⟩:=aN (show i.toNat<os.length by omega);rw[iE,if_neg (by rw[I];simp),u];simp only[go_sem,aE u,F];refine aB (fun h1=>?_) (fun h1=>?_)
 . simp only[go_sem,aE u,F]
   refine bE (aA _ _ _) ⟨rfl,rfl⟩ ⟨rfl,trivial⟩ (by simp) (fun T M=>?_);simp only[go_sem,aE u,F];refine aB (fun E=>?_) (fun E=>?_)
   . simp only[go_sem,aE u,F]
     refine bE (aA _ _ _) ⟨rfl,rfl⟩ ⟨rfl,trivial⟩ (by simp) (fun O J=>?_);simp only[go_sem];have e:mC o i=[⟨i,false⟩,⟨i,true⟩]:=by unfold mC;rw[if_pos h1,if_pos E];rfl
     rw[e];exact .row _ _ _ (aA _ _ _) (ConvE.refl _)
   . simp only[go_sem]
     have e:mC o i=[⟨i,false⟩]:=by unfold mC;rw[if_pos h1,if_neg (by rw[E];simp)];rfl
     rw[e];exact .row _ _ _ (aA _ _ _) (ConvE.refl _)
 . simp only[go_sem,aE u,F]
   refine aB (fun E=>?_) (fun E=>?_)
   . simp only[go_sem,aE u,F]
     refine bE (aA _ _ _) ⟨rfl,rfl⟩ ⟨rfl,trivial⟩ (by simp) (fun O J=>?_);simp only[go_sem];have e:mC o i=[⟨i,true⟩]:=by unfold mC;rw[if_neg (by rw[h1];simp),if_pos E];rfl
     rw[e];exact .row _ _ _ (aA _ _ _) (ConvE.refl _)
   . simp only[go_sem]
     have e:mC o i=[]:=by unfold mC;rw[if_neg (by rw[h1];simp),if_neg (by rw[E];simp)];rfl
     rw[e];exact .row _ _ _ (aA _ _ _) (ConvE.refl _)
def tL(l:List Visit)(i:Nat):Bool:=decide (eV (l.take i) (l.getD i ⟨0,false⟩)>=0)
theorem D7:∀l:List Visit,cP 2 (l.map aK)
 | []=>trivial
 | _::r=>⟨rfl,D7 r⟩
theorem aaD(l:List Visit)(hl:l.length<=1048576):PC prog 309 [.sl (l.map aK)] (boo ((List.range l.length).any (tL l))):=by
 refine pcd Tryz.func309 ?_;unfold Tryz.f309;simp only[gdS];simp only[go_sem];refine⟨fun ρ _=>∃k:Nat,k<=l.length/\ρ 0=.sl (l.map aK)/\ρ 5=.sl (l.map aK)/\ρ 6=int l.length/\ρ 7=int k/\∀c∈(List.range l.length).take k,tL l c=false,fun ρ _=>l.length-aV (ρ 7),⟨0,Xac _,rfl,rfl,rfl,rfl,by simp⟩,?_⟩;rintro ρ H ⟨k,hk,h0,F,J,E,hz⟩;simp only[go_sem,h0,F,J,E];refine aB (fun u=>?_) (fun M=>?_)
 . have u:=aZ u
   obtain⟨v,hv⟩:=aN u;have b1:=inB u;simp only[go_sem,h0,F,J,E,aE hv,b1];refine aM fun O T=>?_
   simp only[go_sem,h0,F,J,E];refine aJ (aA _ _ _) (by simp[cU]) ?_;generalize I:aI (aI _ O _) O _=HGi4;have R4:HGi4 O=some (⟨119,2,[aK v]⟩):=by rw[<-I,aA];try rfl
   clear I T;simp only[go_sem,h0,F,J,E,R4];refine eN [O] [(0,true),(1,true),(2,true),(3,true),(4,true),(5,true)] (by simp[R4]) (by kernel_rfl) fun Hp Hr hp hr _ aa=>?_
   have P4:=(hp O (by simp)).trans R4;simp only[go_sem,h0,F,J,E,P4,<-List.map_take];refine⟨by omega,_,(AP (l.take k) v (by simp;omega)).q rfl,?_⟩;simp only[go_sem,h0,F,J,E,P4];refine eR fun _ Hm _ _=>?_
   simp only[go_sem,h0,F,J,E];have ed:tL l k=decide (eV (l.take k) v>=0):=by simp[tL,List.getD,hv]
   refine aB (fun Z=>?_) (fun Z=>?_)
   . simp only[go_sem]
     exact cN (Xbe.2 ⟨k,Xaz.2 u,ed.trans Z⟩).symm
   . simp only[go_sem,h0,F,J,E,aP (show k<=4611686018427387904 by omega)]
     exact⟨⟨k+1,u,rfl,aT (p:=fun c=>tL l c=false) (nQ u) (ed.trans Z) hz⟩,by simp only[aF];omega⟩
 . have M:=bC hk M
   subst M;simp only[go_sem];refine cN ?_
   symm
   rw[List.any_eq_false];intro c hc;rw[hz c (by rw[Xan (by simp)];exact hc)];simp
def zU(l:List Visit):List Visit->Int->Bool
 | [],_=>true
 | w::r,last=>decide (eV l w>last)&&zU l r (eV l w)
def Cz(os:List Order)(l:List Visit)(v:Visit):Bool:=inV (iE os v.order) v&&zU l (iE os v.order) (-1)
theorem KX{α:Type}{l:List α}{k:Nat}{x:α}(h:l[k]?=some x):l.drop k=x::l.drop (k+1):=by
 obtain⟨u,rfl⟩:=List.getElem?_eq_some_iff.1 h;exact List.drop_eq_getElem_cons u
theorem Vk(x:Instance)(l:List Visit)(hl:l.length<=1048576):PC prog 310 [.agg (aH x),.sl (l.map aK)] (boo (l.all (Cz x.orders l))):=by
 refine pcd Tryz.func310 ?_;unfold Tryz.f310;simp only[gdS];simp only[go_sem];refine⟨fun ρ _=>∃k:Nat,k<=l.length/\ρ 1=.sl (l.map aK)/\ρ 2=.rp (aH x) 0/\ρ 12=.sl (l.map aK)/\ρ 13=int l.length/\ρ 14=int k/\∀v∈l.take k,Cz x.orders l v=true,fun ρ _=>l.length-aV (ρ 14),⟨0,Xac _,rfl,rfl,rfl,rfl,rfl,by simp⟩,?_⟩;rintro ρ H ⟨k,hk,h1,J,E,F,u,hz⟩;simp only[go_sem,h1,J,E,F,u];refine aB (fun aa=>?_) (fun ad=>?_)
 . have aa:=aZ aa
   obtain⟨v,hv⟩:=aN aa;have b1:=inB aa;simp only[go_sem,h1,J,E,F,u,aE hv,b1];refine aM fun i6 ah=>?_
   simp only[go_sem,h1,J,E,F,u];refine aJ (aA _ _ _) (by simp[cU]) ?_;generalize ac:aI (aI _ i6 _) i6 _=HGi6;have R6:HGi6 i6=some (⟨119,2,[aK v]⟩):=by rw[<-ac,aA];try rfl
   clear ac ah;simp only[go_sem,h1,J,E,F,u,R6];refine PC.use (pA x.orders v.order) ?_;have aj:=pJ x.orders v.order;simp only[go_sem,h1,J,E,F,u,R6];refine PC.use (N3 (iE x.orders v.order) v (by omega)) ?_;simp only[go_sem,h1,J,E,F,u,R6];refine aB (fun hb=>?_) (fun hb=>?_)
   . simp only[go_sem]
     refine cN ?_
     symm
     exact qU hv (by unfold Cz;rw[show inV (iE x.orders v.order) v=false by simpa using hb];rfl)
   have ai:inV (iE x.orders v.order) v=true:=by simpa using hb
   simp only[go_sem,h1,J,E,F,u,R6];refine⟨fun ρ _=>∃(m:Nat) (last:Int),m<=(iE x.orders v.order).length/\ρ 1=.sl (l.map aK)/\ρ 2=.rp (aH x) 0/\ρ 12=.sl (l.map aK)/\ρ 13=int l.length/\ρ 14=int k/\ρ 27=.sl ((iE x.orders v.order).map aK)/\ρ 28=int (iE x.orders v.order).length/\ρ 29=int m/\ρ 8=int last/\zU l (iE x.orders v.order) (-1)=zU l ((iE x.orders v.order).drop m) last,fun ρ _=>(iE x.orders v.order).length-aV (ρ 29),
     ⟨0,-1,Xac _,by simp only[go_sem,h1],by simp only[go_sem,J],by simp only[go_sem,E],by simp only[go_sem,F],by simp only[go_sem,u],by simp only[go_sem],by simp only[go_sem,Xaa],by simp only[go_sem];rfl,by simp only[go_sem],rfl⟩,?_⟩
   clear h1 J E F u R6;rintro ρ H ⟨m,last,hm,h1,J,E,F,u,M,T,O,h8,he⟩;simp only[go_sem,h1,J,E,F,u,M,T,O,h8];refine aB (fun I=>?_) (fun ab=>?_)
   . have I:=aZ I
     obtain⟨w,hw⟩:=aN I;have b2:=inB I;simp only[go_sem,h1,J,E,F,u,M,T,O,h8,aE hw,b2];refine aM fun ae af=>?_
     simp only[go_sem,h1,J,E,F,u,M,T,O,h8];refine aJ (aA _ _ _) (by simp[cU]) ?_;generalize Z:aI (aI _ ae _) ae _=HGi10;have ag:HGi10 ae=some (⟨119,2,[aK w]⟩):=by rw[<-Z,aA];try rfl
     clear Z af;simp only[go_sem,h1,J,E,F,u,M,T,O,h8,ag];refine PC.use (AP l w hl) ?_;simp only[go_sem,h1,J,E,F,u,M,T,O,h8,ag];rw[KX hw]at he;refine aB (fun hb=>?_) (fun hb=>?_)
     . simp only[go_sem]
       refine cN ?_
       symm
       refine qU hv ?_;unfold Cz;rw[ai,he,zU];have:decide (eV l w>last)=false:=by simp at hb |-;exact hb
       rw[this];rfl
     . simp only[go_sem,h1,J,E,F,u,M,T,O,h8,aP (show m<=4611686018427387904 by omega)]
       refine⟨⟨m+1,_,I,rfl,rfl,?_⟩,by simp only[aF];omega⟩;rw[he,zU];have:decide (eV l w>last)=true:=by simp at hb |-;exact hb
       rw[this];rfl
   . have ab:=bC hm ab
     subst ab;rw[Xbw,zU]at he;simp only[go_sem,h1,J,E,F,u,aP (show k<=4611686018427387904 by omega)];exact⟨⟨k+1,aa,rfl,aT (p:=fun v=>Cz x.orders l v=true) hv (by unfold Cz;rw[ai,he];rfl) hz⟩,by simp only[aF];omega⟩
 . have ad:=bC hk ad
   subst ad;simp only[go_sem];exact cN (wG hz).symm
def Tz(l:List Visit)(a b:Int):Bool:=decide (lU (fun v:Visit=>v.order == b) l 0<0)||(DK l a&& !DK (l.drop (lU (fun v:Visit=>v.order == b) l 0).toNat) a)
theorem Py{α:Type}{p:α->Bool}:∀(l:List α) (n:Int),lU p l n<n+l.length\/lU p l n= -1
 | [],n=>.inr rfl
 | a::r,n=>by
   unfold lU;split
   . left;simp;omega
   . rcases Py (p:=p) r (n+1)with h|h
     . left;simp;omega
     . right;exact h
theorem Vj(l:List Visit)(a b:Int)(F:l.length<=1048576):PC prog 312 [.sl (l.map aK),int a,int b] (boo (Tz l a b)):=by
 refine pcd Tryz.func312 ?_;unfold Tryz.f312;simp only[gdS];simp only[go_sem];refine PC.use (AR (p:=fun v=>v.order == b) l F (by simp only[go_sem]) fun v _=>Sl b v) ?_;simp only[go_sem];have J:=Py (p:=fun v:Visit=>v.order == b) l 0;generalize E:lU (fun v:Visit=>v.order == b) l 0=I at J;refine aB (fun h0=>?_) (fun h0=>?_)
 . simp only[go_sem]
   refine cN ?_;unfold Tz;rw[E,h0];rfl
 . have u:0<=I:=by simp at h0;exact h0
   simp only[go_sem];refine PC.use (Cl l a F) ?_;simp only[go_sem,<-List.map_drop];refine⟨fun _=>⟨⟨u,by omega⟩,D7 l⟩,_,fun _=>(Cl (l.drop I.toNat) a (by simp;omega)).q rfl,?_⟩;simp only[go_sem];refine cN ?_;unfold Tz;rw[E,h0];rfl
theorem Uv(x:Instance)(v:Visit):PC prog 307 [.agg (aK v),.rp (aH x) 0] (boo (dG v.order x.orders.length)):=by
 refine pcd Tryz.func307 ?_;unfold Tryz.f307;simp only[gdS];simp only[go_sem];exact .refl _
theorem U6(x:Instance)(v:Visit)(h:dG v.order x.orders.length=false):PC prog 308 [.agg (aK v),.rp (aH x) 0] (boo (LM x v.order)):=by
 have E:0<=v.order/\v.order<(x.orders.length:Int):=by simp only[dG,Xak,decide_eq_false_iff_not]at h;omega
 obtain⟨o,u⟩:=aN (show v.order.toNat<x.orders.length by omega);refine pcd Tryz.func308 ?_;unfold Tryz.f308;simp only[gdS];simp only[go_sem];simp only[go_sem,aE u,E];exact cN (by unfold LM;rw[u])
def vL(x:Instance)(l:List Visit):Int:=
 if((l.length:Int) == 0||l.any fun v=>dG v.order x.orders.length)=true then 2
 else if(l.any fun v=>LM x v.order)=true then 9
 else if((List.range l.length).any (tL l))=true then 6
 else if(!l.all (Cz x.orders l))=true then 19
 else if(x.apart.any fun q=>DK l q.a&&DK l q.b)=true then 20
 else if(x.before.any fun q=> !Tz l q.a q.b)=true then 21 else 0
theorem EH(x:Instance)(r:Route)(hl:r.visits.length<=1048576)(ha:x.apart.length<=1048576)(hb:x.before.length<=1048576):PC prog 272 [.agg (aH x),.agg (cX r)] (int (vL x r.visits)):=by
 refine pcd Tryz.func272 ?_;unfold Tryz.f272;simp only[gdS];simp only[go_sem];refine⟨_,fun _=>(oJ (p:=fun v=>dG v.order x.orders.length) r.visits hl (by simp only[go_sem]) fun v _=>Uv x v).q rfl,?_⟩;simp only[go_sem];refine aB (fun c1=>?_) (fun c1=>?_)
 . simp only[go_sem]
   exact bW (by unfold vL;rw[if_pos c1])
 have af:∀v∈r.visits,dG v.order x.orders.length=false:=fun v hv=>by
   rw[Xak]at c1;have:=List.any_eq_false.1 c1.2 v hv;simpa using this
 have c1:¬((r.visits.length:Int) == 0||r.visits.any fun v=>dG v.order x.orders.length)=true:=by rw[c1];simp
 simp only[go_sem];refine PC.use (oJ (p:=fun v=>LM x v.order) r.visits hl (by simp only[go_sem]) fun v hv=>U6 x v (af v hv)) ?_;simp only[go_sem];refine aB (fun c2=>?_) (fun c2=>?_)
 . simp only[go_sem]
   exact bW (by unfold vL;rw[if_neg c1,if_pos c2])
 have c2:¬(r.visits.any fun v=>LM x v.order)=true:=by rw[c2];simp
 simp only[go_sem];refine PC.use (aaD r.visits hl) ?_;simp only[go_sem];refine aB (fun c3=>?_) (fun c3=>?_)
 . simp only[go_sem]
   exact bW (by unfold vL;rw[if_neg c1,if_neg c2,if_pos c3])
 have c3:¬((List.range r.visits.length).any (tL r.visits))=true:=by rw[c3];simp
 simp only[go_sem];refine PC.use (Vk x r.visits hl) ?_;simp only[go_sem];refine aB (fun c4=>?_) (fun c4=>?_)
 . simp only[go_sem]
   exact bW (by unfold vL;rw[if_neg c1,if_neg c2,if_neg c3,if_pos c4])
 have c4:¬(!r.visits.all (Cz x.orders r.visits))=true:=by rw[c4];simp
 simp only[go_sem];refine⟨fun ρ _=>∃k:Nat,k<=x.apart.length/\ρ 2=.rp (aH x) 0/\ρ 5=.sl (r.visits.map aK)/\ρ 33=.sl (x.apart.map bZ)/\ρ 34=int x.apart.length/\ρ 35=int k/\∀q∈x.apart.take k,(DK r.visits q.a&&DK r.visits q.b)=false,fun ρ _=>x.apart.length-aV (ρ 35),⟨0,Xac _,by simp only[go_sem],by simp only[go_sem],by simp only[go_sem],by simp only[go_sem],by simp only[go_sem];rfl,by simp⟩,?_⟩;rintro ρ H ⟨k,hk,h2,F,E,I,J,hz⟩;simp only[go_sem,h2,F,E,I,J];refine aB (fun u=>?_) (fun O=>?_)
 . have u:=aZ u
   obtain⟨q,hq⟩:=aN u;have b1:=inB u;simp only[go_sem,h2,F,E,I,J,aE hq,b1];refine aM fun i7 ae=>?_
   simp only[go_sem,h2,F,E,I,J];refine aJ (aA _ _ _) (by simp[jY]) ?_;generalize ac:aI (aI _ i7 _) i7 _=HGi7;have R7:HGi7 i7=some (⟨194,2,[bZ q]⟩):=by rw[<-ac,aA];try rfl
   clear ac ae;simp only[go_sem,h2,F,E,I,J,R7];refine⟨by decide,PC.use (Cl r.visits q.a hl) ?_⟩;simp only[go_sem,h2,F,E,I,J,R7];refine⟨fun _=>by decide,_,fun _=>(Cl r.visits q.b hl).q rfl,?_⟩;simp only[go_sem,h2,F,E,I,J];refine aB (fun M=>?_) (fun M=>?_)
   . simp only[go_sem]
     exact bW (by unfold vL;rw[if_neg c1,if_neg c2,if_neg c3,if_neg c4,if_pos (Xbe.2 ⟨q,Xae hq,M⟩)])
   . simp only[go_sem,h2,F,E,I,J,aP (show k<=4611686018427387904 by omega)]
     exact⟨⟨k+1,u,rfl,aT (p:=fun q:Pair=>(DK r.visits q.a&&DK r.visits q.b)=false) hq M hz⟩,by simp only[aF];omega⟩
 have O:=bC hk O;subst O;rw[Xag]at hz;have c5:¬(x.apart.any fun q=>DK r.visits q.a&&DK r.visits q.b)=true:=by rw[BA hz];simp
 simp only[go_sem,h2,F];refine⟨fun ρ _=>∃k:Nat,k<=x.before.length/\ρ 5=.sl (r.visits.map aK)/\ρ 51=.sl (x.before.map bZ)/\ρ 52=int x.before.length/\ρ 53=int k/\∀q∈x.before.take k,(!Tz r.visits q.a q.b)=false,fun ρ _=>x.before.length-aV (ρ 53),⟨0,Xac _,by simp only[go_sem,F],by simp only[go_sem],by simp only[go_sem],by simp only[go_sem];rfl,by simp⟩,?_⟩;clear h2 F E I J hz hk;rintro ρ H ⟨k,hk,F,T,aa,Z,hz⟩;simp only[go_sem,F,T,aa,Z];refine aB (fun u=>?_) (fun O=>?_)
 . have u:=aZ u
   obtain⟨q,hq⟩:=aN u;have b1:=inB u;simp only[go_sem,F,T,aa,Z,aE hq,b1];refine aM fun i9 ad=>?_
   simp only[go_sem,F,T,aa,Z];refine aJ (aA _ _ _) (by simp[jY]) ?_;generalize ab:aI (aI _ i9 _) i9 _=HGi9;have R9:HGi9 i9=some (⟨194,2,[bZ q]⟩):=by rw[<-ab,aA];try rfl
   clear ab ad;simp only[go_sem,F,T,aa,Z,R9];refine⟨by decide,⟨by decide,PC.use (Vj r.visits q.a q.b hl) ?_⟩⟩;simp only[go_sem,F,T,aa,Z];refine aB (fun M=>?_) (fun M=>?_)
   . simp only[go_sem]
     exact bW (by unfold vL;rw[if_neg c1,if_neg c2,if_neg c3,if_neg c4,if_neg c5,if_pos (Xbe.2 ⟨q,Xae hq,M⟩)])
   . simp only[go_sem,F,T,aa,Z,aP (show k<=4611686018427387904 by omega)]
     exact⟨⟨k+1,u,rfl,aT (p:=fun q:Pair=>(!Tz r.visits q.a q.b)=false) hq M hz⟩,by simp only[aF];omega⟩
 have O:=bC hk O;subst O;rw[Xag]at hz;simp only[go_sem];exact bW (by unfold vL;rw[if_neg c1,if_neg c2,if_neg c3,if_neg c4,if_neg c5,if_neg (by rw[BA hz];simp)])
def eM(x:Instance)(v:Visit):Stop×Int:=if(iF x v).2=true then((iF x v).1,0)else(jH,if dG v.order x.orders.length=true then 2 else 19)
theorem Qa(x:Instance)(v:Visit):PC prog 191 [.sl (x.orders.map bD),.agg (aK v)] (.tup [.agg (dR (eM x v).1),int (eM x v).2]):=by
 refine pcd Tryz.func191 ?_;unfold Tryz.f191;simp only[gdS];simp only[go_sem];refine aM fun Z ab=>?_
 generalize J:aI _ Z _=HGi4;have E:HGi4 Z=some (xW jH):=by rw[<-J,aA];try rfl
 clear J ab;simp only[go_sem,E];refine PC.use (PR x.orders v.order) ?_;simp only[go_sem];refine aB (fun h1=>?_) (fun h1=>?_)
 . have h1:dG v.order x.orders.length=true:=by simpa using h1
   have e:eM x v=(jH,2):=by unfold eM iF;rw[if_pos h1,if_pos h1];rfl
   rw[e];simp only[go_sem];refine aJ E (by simp) ?_;simp only[go_sem];exact .refl _
 have h1:dG v.order x.orders.length=false:=by simpa using h1
 have ac:0<=v.order/\v.order<(x.orders.length:Int):=by
   simp only[dG,Xak,decide_eq_false_iff_not]at h1;omega
 obtain⟨o,ho⟩:=aN (show v.order.toNat<x.orders.length by omega);have e0:iF x v=(vC o v,decide ((vC o v).place>=0)):=by unfold iF;rw[if_neg (by rw[h1];simp),ho]
 have e:eM x v=if(vC o v).place<0 then(jH,19)else(vC o v,0):=by
   unfold eM;rw[e0,if_neg (show ¬dG v.order x.orders.length=true by rw[h1];simp)];by_cases h:(vC o v).place<0
   . rw[if_pos h,if_neg (by simp;omega)]
   . rw[if_neg h,if_pos (by simp;omega)]
 rw[e];simp only[go_sem,aE ho,ac];refine aM fun T I=>?_
 have u:Z≠T:=aO E I;simp only[go_sem,E];refine aJ (aA _ _ _) (by simp[kF]) ?_;generalize F:aI (aI _ T _) T _=HGi6;replace E:=(congrFun F.symm Z).trans ((aD _ _ _ _ u).trans ((aD _ _ _ _ u).trans E));have M:HGi6 T=some (xW o.pick):=by rw[<-F,aA];try rfl
 clear F I;simp only[go_sem,M,E];refine bM (fun aa H'=>aa 4=.op Z 0 0/\aa 6=.op T 0 0/\H' Z=some (xW jH)/\H' T=some (xW (vC o v))) ?_ fun K hK=>aB (fun hb=>?_) (fun hb=>?_)
 . clear E M
   rintro ρ H ⟨h4,h6,E,M⟩;simp only[go_sem,h4,h6,M];refine aB (fun O=>?_) (fun O=>?_)
   . have O:(vC o v).place<0:=by simpa using O
     rw[if_pos O];simp only[go_sem,h4];refine aJ E (by simp) ?_;simp only[go_sem,h4];exact .refl _
   . have O:¬(vC o v).place<0:=by simpa using O
     rw[if_neg O];simp only[go_sem,h4,h6,M];refine aJ E (by simp[kF]) ?_;simp only[go_sem,h4];exact .refl _
 . simp only[go_sem,aE ho,ac]
   refine aJ M (by simp[kF]) ?_;simp only[go_sem];refine hK _ _ ⟨by simp only[go_sem],by simp only[go_sem],by rw[aD _ _ _ _ u];exact E,?_⟩;rw[aA,vC,if_pos hb];rfl
 . simp only[go_sem]
   refine hK _ _ ⟨by simp only[go_sem],by simp only[go_sem],E,?_⟩;rw[vC,if_neg (by rw[hb];simp)];exact M
def qF(set:Int)(k:Nat):List Int:=((List.range k).filter fun i:Nat=>dH set (i:Int)).map fun i:Nat=>(i:Int)
def fR(set:Int):List Int:=qF set 63
theorem nB(set:Int)(k:Nat):qF set (k+1)=qF set k++(if dH set (k:Int)=true then[(k:Int)]else[]):=by
 unfold qF;rw[Xbk,List.filter_append,Xam];by_cases h:dH set (k:Int)=true
 . simp[h]
 . simp[h]
theorem pS(set:Int)(k:Nat):(qF set k).length<=k:=by
 unfold qF;rw[Xaa];exact Xaj (Xbt _ _) (by simp)
theorem lR(set:Int):PC prog 117 [int set] (.sl ((fR set).map bN)):=by
 refine pcb (fun t=>t == 3) Tryz.func117 ?_;unfold Tryz.f117;simp only[gdS];simp only[go_sem];refine aM fun j O=>?_
 simp only[go_sem];refine⟨fun ρ H=>∃k:Nat,k<=63/\ρ 0=int set/\ρ 5=int k/\∃j,ρ 3=.os j/\H j=some (oG (qF set k)),fun ρ _=>63-aV (ρ 5),⟨0,Xac _,rfl,rfl,j,rfl,aA _ _ _⟩,?_⟩;clear O;rintro ρ H ⟨k,Z,h0,I,j,E,R⟩;simp only[go_sem,h0,I,E];refine aB (fun u=>?_) (fun F=>?_)
 . have u:k<63:=by simp at u;omega
   simp only[go_sem,h0,I,E];refine PC.use (tK set k) ?_;simp only[go_sem,h0,I,E];refine aB (fun J=>?_) (fun J=>?_)
   . simp only[go_sem,h0,I,E]
     refine bE R ⟨rfl,rfl⟩ ⟨rfl,trivial⟩ (by have:=pS set k;simp;omega) (fun M T=>?_);simp only[go_sem,h0,I,E,aP (show k<=4611686018427387904 by omega)];refine⟨⟨k+1,u,rfl,M,rfl,?_⟩,by simp only[aF];omega⟩;rw[nB,if_pos J];exact fI (l':=[(k:Int)]) rfl
   . simp only[go_sem,h0,I,E,aP (show k<=4611686018427387904 by omega)]
     refine⟨⟨k+1,u,rfl,j,rfl,?_⟩,by simp only[aF];omega⟩;rw[nB,if_neg (by rw[J];simp),Xah];exact R
 . have F:k=63:=by simp at F;omega
   subst F;simp only[go_sem,E];exact .row _ _ _ R (ConvE.refl _)
def abJ(a b:Int):Int:=W (a+b)
def V0(a b:Int):Int:=W (a-b)
theorem acB(a b:Int):PC prog 372 [int a,int b] (int (abJ a b)):=by
 refine pcd Tryz.func372 ?_;unfold Tryz.f372;simp only[gdS];simp only[go_sem];exact .refl _
theorem Di(a b:Int):PC prog 373 [int a,int b] (int (V0 a b)):=by
 refine pcd Tryz.func373 ?_;unfold Tryz.f373;simp only[gdS];simp only[go_sem];exact .refl _
theorem UU{α:Type}{l:List α}{k n:Nat}{x z:α}(E:l.length=n)(h:l[k]?=some x):(l.take k++List.replicate (n-k) z).set k x=l.take (k+1)++List.replicate (n-(k+1)) z:=by
 have u:=(List.getElem?_eq_some_iff.1 h).1;have e:n-k=(n-(k+1))+1:=by omega
 rw[bQ h,e,List.replicate_succ,List.set_append_right _ _ (by simp;omega)];have:k-(l.take k).length=0:=by simp;omega
 rw[this,List.set_cons_zero];simp
theorem GF{g:Nat}{op:Int->Int->Int}(a b:List Int)(hl:a.length<=1048576)(Z:a.length=b.length)(aa:aC prog g=true)(hg:∀p q,PC prog g [int p,int q] (int (op p q))):
   NC prog 371 [.sl (a.map bN),.sl (b.map bN),.v (.func (.func g) #[] #[])] (oG (List.zipWith op a b)) (fun j=>.tup [.os j,int 0]):=by
 have O:(List.zipWith op a b).length=a.length:=by rw[List.length_zipWith,<-Z,Nat.min_self]
 refine ncb (fun _=>false) Tryz.func371 ?_;unfold Tryz.f371;simp only[gdS];simp only[go_sem];refine aB (fun hb=>by rw[Z]at hb;simp at hb) (fun _=>?_);simp only[go_sem];refine⟨⟨by omega,by omega⟩,aM fun j hj=>?_⟩;simp only[go_sem];refine⟨fun ρ H=>∃k:Nat,k<=a.length/\ρ 0=.sl (a.map bN)/\ρ 1=.sl (b.map bN)/\ρ 2=.v (.func (.func g) #[] #[])/\ρ 8=.os j/\ρ 19=int a.length/\ρ 20=int k/\H j=some (oG ((List.zipWith op a b).take k++List.replicate (a.length-k) 0)),fun ρ _=>a.length-aV (ρ 20),⟨0,Xac _,rfl,rfl,rfl,rfl,by simp only[go_sem,Xaa],rfl,?_⟩,?_⟩
 . rw[aA]
   simp[oG,List.map_replicate,bN]
 clear hj;rintro ρ H ⟨k,hk,h0,h1,T,M,E,F,R⟩;simp only[go_sem,h0,h1,T,M,E,F];refine aB (fun u=>?_) (fun J=>?_)
 . have u:=aZ u
   obtain⟨p,hp⟩:=aN u;obtain⟨q,hq⟩:=aN (show k<b.length by omega);have b1:=inB u;have b2:=inB (show k<b.length by omega);simp only[go_sem,h0,h1,T,M,E,F];refine AM [(0,true),(1,true),(2,true),(3,true),(4,true),(5,true),(6,true),(7,true),(8,false),(9,false),(10,false),(11,false),(12,false),(13,false)] (by kernel_rfl) ?_;simp only[go_sem,h0,h1,T,M,E,F,aE hp,aE hq,b1,b2,aa];refine PC.use (hg p q) ?_;have I:((List.zipWith op a b).take k++List.replicate (a.length-k) 0:List Int).length=a.length:=by simp[O];omega
   simp only[go_sem,h0,h1,T,M,E,F,R];refine⟨⟨b1.1,by rw[I];exact b1.2⟩,eF so3 R (by rw[Xaa,I];exact⟨u,rfl,Xaf 1⟩) ?_⟩;have hz:(List.zipWith op a b)[k]?=some (op p q):=by rw[List.getElem?_zipWith,hp,hq]
   have ab:k<((List.zipWith op a b).take k++List.replicate (a.length-k) 0:List Int).length:=by omega
   obtain⟨y,hy⟩:=aN ab;have hs:=UU (n:=a.length) (z:=(0:Int)) O hz;simp only[go_sem,h0,h1,T,M,E,F,aE hy,aP (show k<=4611686018427387904 by omega)];refine⟨⟨k+1,u,rfl,?_⟩,by simp only[aF];omega⟩;rw[<-hs];show _=some (⟨3,1,_⟩:Row);rw[List.map_set];rfl
 . have J:=bC hk J
   subst J;simp only[go_sem,M];refine⟨j,rfl,?_⟩;rw[R,Xan (by omega)];simp
def vN(a b:List Int):List Int:=List.zipWith abJ a b
def zZ(a b:List Int):List Int:=List.zipWith V0 a b
theorem abO(a b:List Int)(E:a.length<=1048576)(u:a.length=b.length):NC prog 352 [.sl (a.map bN),.sl (b.map bN)] (oG (vN a b)) (fun j=>.tup [.os j,int 0]):=by
 refine ncb (fun _=>false) Tryz.func352 ?_;unfold Tryz.f352;simp only[gdS];simp only[go_sem];refine NC.use (GF a b E u (by simp only[go_sem]) acB) fun j F=>?_
 simp only[go_sem];exact⟨j,rfl,aA _ _ _⟩
theorem anH(a b:List Int)(E:a.length<=1048576)(u:a.length=b.length):NC prog 353 [.sl (a.map bN),.sl (b.map bN)] (oG (zZ a b)) (fun j=>.tup [.os j,int 0]):=by
 refine ncb (fun _=>false) Tryz.func353 ?_;unfold Tryz.f353;simp only[gdS];simp only[go_sem];refine NC.use (GF a b E u (by simp only[go_sem]) Di) fun j F=>?_
 simp only[go_sem];exact⟨j,rfl,aA _ _ _⟩
theorem NC.pc2{f:FuncId}{args:List AV}{r:Row}{y:AV}(h:NC prog f args r (fun j=>.tup [.os j,y])):PC prog f args (.tup [.sl r.es,y]):=
 RC.conv (RC.mono h fun x H' ⟨k,u,E⟩=>by rw[u];exact .tup _ _ (.cons _ _ _ _ (.row _ _ _ E (ConvE.refl _)) (ConvL.refl _)))
theorem Z5(a c:List Int)(hl:a.length<=1048576):PC prog 317 [.sl (a.map bN),.sl (c.map bN)] (boo (jE a c)):=by
 refine pcd Tryz.func317 ?_;unfold Tryz.f317;simp only[gdS];simp only[go_sem];refine aB (fun O=>?_) (fun O=>?_)
 . simp only[go_sem]
   refine cN ?_;unfold jE;have:((a.length:Int) == (c.length:Int))=false:=by simpa[bne]using O
   rw[this];rfl
 have T:a.length=c.length:=by simp[bne]at O;omega
 simp only[go_sem];refine⟨fun ρ _=>∃k:Nat,k<=a.length/\ρ 1=.sl (c.map bN)/\ρ 12=.sl (a.map bN)/\ρ 13=int a.length/\ρ 14=int k/\∀i∈(List.range a.length).take k,decide (a.getD i 0>c.getD i 0)=false,fun ρ _=>a.length-aV (ρ 14),⟨0,Xac _,rfl,rfl,by simp only[go_sem,Xaa],rfl,by simp⟩,?_⟩;rintro ρ H ⟨k,hk,h1,F,M,J,hz⟩;simp only[go_sem,h1,F,M,J];refine aB (fun u=>?_) (fun I=>?_)
 . have u:=aZ u
   obtain⟨p,hp⟩:=aN u;obtain⟨q,hq⟩:=aN (show k<c.length by omega);have b1:=inB u;have b2:=inB (show k<c.length by omega);have Z:a.getD k 0=p:=by simp[List.getD,hp]
   have e2:c.getD k 0=q:=by simp[List.getD,hq]
   simp only[go_sem,h1,F,M,J,aE hp,aE hq,b1,b2];refine aB (fun E=>?_) (fun E=>?_)
   . simp only[go_sem]
     refine cN ?_;unfold jE
     symm
     rw[Bool.and_eq_false_iff];right;exact qU (nQ u) (by rw[Z,e2,E];rfl)
   . simp only[go_sem,h1,F,M,J,aP (show k<=4611686018427387904 by omega)]
     exact⟨⟨k+1,u,rfl,aT (p:=fun i=>decide (a.getD i 0>c.getD i 0)=false) (nQ u) (by rw[Z,e2];exact E) hz⟩,by simp only[aF];omega⟩
 . have I:=bC hk I
   subst I;simp only[go_sem];refine cN ?_;unfold jE
   symm
   rw[Xap];refine⟨by simp[T],Xao.2 fun i hi=>?_⟩;rw[hz i (by rw[Xan (by simp)];exact hi)];rfl
theorem I2(x:Instance):PC prog 351 [.sl (x.types.map bB)] (int (kB x)):=by
 refine pcd Tryz.func351 ?_;unfold Tryz.f351;simp only[gdS];simp only[go_sem];refine aB (fun u=>?_) (fun u=>?_)
 . simp only[go_sem]
   have:x.types=[]:=List.eq_nil_of_length_eq_zero (by simp at u;simpa using u);exact bW (by unfold kB;rw[this];rfl)
 . have h0 : 0 < x.types.length := by
     rcases Xbp x.types.length with h|h
     . rw[h]at u;simp at u
     . exact h
   obtain⟨t,E⟩:=aN h0;have F:(0:Int)<=0/\(0:Int)<(x.types.length:Int):=⟨Xbx _,by omega⟩;simp only[go_sem,aE (k:=0) E,F];exact bW (by unfold kB;rw[E])
def sZ(c s:Int):Bool:=(decide (c>=0)&&decide (s>=0))&&(qI .andNot .i64 s c == 0)
theorem aeG(t:VType)(s:Int):PC prog 313 [.agg (bB t),int s] (boo (sZ t.skills s)):=by
 refine pcd Tryz.func313 ?_;unfold Tryz.f313;simp only[gdS];simp only[go_sem];exact .refl _
def rU(x:Instance)(s:List Int)(i:Int):List Int:=match x.orders[i.toNat]? with
 | some o=>if decide (o.pick.place<0)=true then vN s o.load else s
 | none=>s
def lN(x:Instance)(set dims:Int):List Int:=(fR set).foldl (rU x) (List.replicate dims.toNat 0)
theorem gQ{α u:Type}{f:u->α->u}{l:List α}{k:Nat}{x:α}{b:u}(h:l[k]?=some x):(l.take (k+1)).foldl f b=f ((l.take k).foldl f b) x:=by rw[bQ h,List.foldl_append];rfl
theorem Fc{x:Instance}{d:Nat}(E:∀o∈x.orders,o.load.length=d)(l:List Int):(l.foldl (rU x) (List.replicate d 0)).length=d:=by
 suffices ∀(l:List Int) (s:List Int),s.length=d->(l.foldl (rU x) s).length=d from this l _ (by simp)
 intro l;induction l with
 | nil=>intro s h;exact h
 | cons i r ih=>
   intro s h;rw[List.foldl_cons];refine ih _ ?_;unfold rU;split
   . rename_i o u
     split
     . unfold vN
       rw[List.length_zipWith,h,E o (Xae u),Nat.min_self]
     . exact h
   . exact h
theorem Yq(x:Instance)(set dims:Int)(h0:0<=dims)(h1:dims<=1048576)(hd:∀o∈x.orders,o.load.length=dims.toNat)(hm:∀i∈fR set,0<=i/\i<(x.orders.length:Int)):
   PC prog 350 [.agg (aH x),int set,int dims] (.sl ((lN x set dims).map bN)):=by
 have ab:(fR set).length<=63:=pS set 63;refine pcb (fun t=>t == 28) Tryz.func350 ?_;unfold Tryz.f350;simp only[gdS];simp only[go_sem];refine⟨⟨⟨h0,Xbx _⟩,by omega⟩,aM fun j hj=>?_⟩;simp only[go_sem];refine PC.use (lR set) ?_;simp only[go_sem];refine⟨fun ρ H=>∃k:Nat,k<=(fR set).length/\ρ 3=.rp (aH x) 0/\ρ 13=.sl ((fR set).map bN)/\ρ 14=int (fR set).length/\ρ 15=int k/\∃j,ρ 7=.os j/\H j=some (oG (((fR set).take k).foldl (rU x) (List.replicate dims.toNat 0))),fun ρ _=>(fR set).length-aV (ρ 15),⟨0,Xac _,rfl,rfl,by simp only[go_sem,Xaa],rfl,j,rfl,?_⟩,?_⟩
 . rw[aA];simp[oG,List.map_replicate,bN]
 clear hj;rintro ρ H ⟨k,hk,O,I,u,E,j,J,R⟩;simp only[go_sem,O,I,u,E,J];refine aB (fun F=>?_) (fun M=>?_)
 . have F:=aZ F
   obtain⟨i,hi⟩:=aN F;have b1:=inB F;have Z:=hm i (Xae hi);obtain⟨o,T⟩:=aN (show i.toNat<x.orders.length by omega);have es:((fR set).take (k+1)).foldl (rU x) (List.replicate dims.toNat 0)=if decide (o.pick.place<0)=true then vN (((fR set).take k).foldl (rU x) (List.replicate dims.toNat 0)) o.load else((fR set).take k).foldl (rU x) (List.replicate dims.toNat 0):=by
     rw[gQ hi,rU,T]
   have aa:=Fc hd ((fR set).take k);generalize hS:((fR set).take k).foldl (rU x) (List.replicate dims.toNat 0)=s at *;simp only[go_sem,O,I,u,E,J,aE hi,b1,aE T,Z];refine aB (fun hb=>?_) (fun hb=>?_)
   . simp only[go_sem,O,I,u,E,J,aE T,Z]
     refine Bm (by simp only[go_sem,J]) R fun Hr ac hr=>?_
     simp only[go_sem,O,I,u,E,J,aE T,Z];refine NC.use (abO s o.load (by omega) (by rw[aa,hd o (Xae T)])) fun j2 ad=>?_
     simp only[go_sem,O,I,u,E,J,aP (show k<=4611686018427387904 by omega)];exact⟨⟨k+1,F,rfl,j2,rfl,by rw[es,if_pos hb];exact aA _ _ _⟩,by simp only[aF];omega⟩
   . simp only[go_sem,O,I,u,E,J,aP (show k<=4611686018427387904 by omega)]
     exact⟨⟨k+1,F,rfl,j,rfl,by rw[es,if_neg (by rw[hb];simp)];exact R⟩,by simp only[aF];omega⟩
 . have M:=bC hk M
   subst M;rw[Xag]at R;simp only[go_sem,J];exact .row _ _ _ R (ConvE.refl _)
def Tk(x:Instance)(s:List Int)(v:Visit):List Int:=match x.orders[v.order.toNat]? with
 | some o=>if v.drop=true then zZ s o.load else vN s o.load
 | none=>s
def L8(x:Instance)(l:List Visit)(k:Nat):List Int:=(l.take k).foldl (Tk x) (lN x (mP l).1 (kB x))
def tP(x:Instance)(l:List Visit)(k:Nat):List (List Int):=(List.range k).map (L8 x l)
theorem S5{x:Instance}{l:List Visit}{k:Nat}{v:Visit}(h:l[k]?=some v):L8 x l (k+1)=Tk x (L8 x l k) v:=gQ h
structure LoadB(x:Instance):Prop where
 dims:0<=kB x/\kB x<=1048576
 load:∀o∈x.orders,o.load.length=(kB x).toNat
 few:x.orders.length<=63
theorem Vs{x:Instance}(u:LoadB x){s:List Int}{v:Visit}(h:s.length=(kB x).toNat):(Tk x s v).length=(kB x).toNat:=by
 unfold Tk;split
 . rename_i o E
   have:=u.load o (Xae E);split
   . unfold zZ;rw[List.length_zipWith,h,this,Nat.min_self]
   . unfold vN;rw[List.length_zipWith,h,this,Nat.min_self]
 . exact h
theorem Jv{x:Instance}(u:LoadB x)(l:List Visit)(k:Nat):(L8 x l k).length=(kB x).toNat:=by
 suffices ∀(l:List Visit) (s:List Int),s.length=(kB x).toNat->(l.foldl (Tk x) s).length=(kB x).toNat from this _ _ (Fc u.load _)
 intro l;induction l with
 | nil=>intro s h;exact h
 | cons v r ih=>intro s h;rw[List.foldl_cons];exact ih _ (Vs u h)
theorem Vz{s:Nat}{i:Int}(h:i∈fR (s:Int)):0<=i/\i<=62/\s.testBit i.toNat=true:=by
 unfold fR qF at h;obtain⟨k,F,rfl⟩:=List.mem_map.1 h;obtain⟨h1,E⟩:=List.mem_filter.1 F;have u:=Xaz.1 h1;refine⟨by omega,by omega,?_⟩
 rwa [sH (by omega) (by omega)]at E
theorem WF{x:Instance}{l:List Visit}(h:vL x l=0):∀v∈l,0<=v.order/\v.order<(x.orders.length:Int):=by
 intro v E;by_cases u:((l.length:Int) == 0||l.any fun v=>dG v.order x.orders.length)=true
 . unfold vL at h;rw[if_pos u]at h;cases h
 . have u : dG v.order x.orders.length = false := by
     rw[Bool.not_eq_true,Xak]at u;have:=List.any_eq_false.1 u.2 v E;simpa using this
   simp only[dG,Xak,decide_eq_false_iff_not]at u;omega
theorem S9{x:Instance}(M:LoadB x){l:List Visit}(h:∀v∈l,0<=v.order/\v.order<(x.orders.length:Int)):mP l=(((A9 l:Nat):Int),0)/\∀i∈fR (mP l).1,0<=i/\i<(x.orders.length:Int):=by
 have u:∀v∈l,Fq v=false:=fun v E=>by
   have:=h v E;have:=M.few;simp only[Fq,Xak,decide_eq_false_iff_not];omega
 have e:mP l=(((A9 l:Nat):Int),0):=by
   unfold mP;rw[if_neg (by rw[BA u];simp),GG u]
 refine⟨e,fun i F=>?_⟩;rw[e]at F;obtain⟨h0,h1,I⟩:=Vz F;rw[Xb]at I;obtain⟨v,E,J⟩:=Xbe.1 I;have:=h v E;have:v.order.toNat=i.toNat:=by simpa using J
 omega
def mN(x:Instance)(l:List Visit):List (List Int)×Int:=if(vL x l != 0)=true then([],vL x l)else(tP x l (l.length+1),0)
theorem T6(x:Instance)(r:Route)(hx:LoadB x)(hl:r.visits.length<=1048576)(ha:x.apart.length<=1048576)(hb:x.before.length<=1048576):
   PC prog 314 [.agg (aH x),.agg (cX r)] (.tup [.sl ((mN x r.visits).1.map rD),int (mN x r.visits).2]):=by
 refine pcb (fun t=>t == 35) Tryz.func314 ?_;unfold Tryz.f314;simp only[gdS];simp only[go_sem];refine PC.use (EH x r hl ha hb) ?_;simp only[go_sem];refine aB (fun hc=>?_) (fun hc=>?_)
 . simp only[go_sem]
   have:mN x r.visits=([],vL x r.visits):=by unfold mN;rw[if_pos hc]
   rw[this];exact .refl _
 have e0:mN x r.visits=(tP x r.visits (r.visits.length+1),0):=by unfold mN;rw[if_neg (by rw[hc];simp)]
 have ak:vL x r.visits=0:=by simpa[bne]using hc
 have ah:=WF ak;obtain⟨eo,hm⟩:=S9 hx ah;simp only[go_sem];refine PC.use (Eo r hl) ?_;simp only[go_sem];refine aB (fun af=>by rw[eo]at af;simp at af) (fun _=>?_);simp only[go_sem];refine AM [(0,true),(1,true),(2,false),(3,false),(4,false),(5,false),(6,false)] (by kernel_rfl) ?_;simp only[go_sem];refine PC.use (I2 x) ?_;simp only[go_sem];refine PC.use (Yq x _ _ hx.dims.1 hx.dims.2 hx.load hm) ?_;simp only[go_sem];refine aM fun j hj=>?_
 simp only[go_sem];refine⟨fun ρ H=>∃k:Nat,k<=r.visits.length/\ρ 2=.rp (aH x) 0/\ρ 37=.sl (r.visits.map aK)/\ρ 38=int r.visits.length/\ρ 39=int k/\ρ 9=.sl ((L8 x r.visits k).map bN)/\∃j,ρ 10=.os j/\H j=some (akH (tP x r.visits (k+1))),fun ρ _=>r.visits.length-aV (ρ 39),⟨0,Xac _,rfl,rfl,by simp only[go_sem,Xaa],rfl,rfl,j,rfl,aA _ _ _⟩,?_⟩;clear hj;rintro ρ H ⟨k,hk,T,u,F,E,h9,j,I,R⟩;simp only[go_sem,T,u,F,E,h9,I];refine aB (fun O=>?_) (fun ad=>?_)
 . have O:=aZ O
   obtain⟨v,hv⟩:=aN O;have b1:=inB O;have ai:=ah v (Xae hv);obtain⟨o,ho⟩:=aN (show v.order.toNat<x.orders.length by omega);have al:=hx.load o (Xae ho);have am:=Jv hx r.visits k;have hd:=hx.dims;have hn:=S5 (x:=x) hv;unfold Tk at hn;rw[ho]at hn;simp only at hn;simp only[go_sem,T,u,F,E,h9,I,aE hv,b1];refine aM fun ab aa=>?_
   have J:j≠ab:=aO R aa;simp only[go_sem,T,u,F,E,h9,I,R];refine aJ (aA _ _ _) (by simp[cU]) ?_;generalize M:aI (aI _ ab _) ab _=HGi12;replace R:=(congrFun M.symm j).trans ((aD _ _ _ _ J).trans ((aD _ _ _ _ J).trans R));have ac:HGi12 ab=some (⟨119,2,[aK v]⟩):=by rw[<-M,aA];try rfl
   clear M aa;simp only[go_sem,T,u,F,E,h9,I,ac,R];have ag:tP x r.visits (k+2)=tP x r.visits (k+1)++[L8 x r.visits (k+1)]:=by unfold tP;rw[Xbk,Xam];rfl
   have ae:(tP x r.visits (k+1)).length=k+1:=by simp[tP]
   refine aB (fun Z=>?_) (fun Z=>?_)
   . simp only[go_sem,T,u,F,E,h9,I,ac,aE ho,ai]
     refine PC.use (NC.pc2 (anH (L8 x r.visits k) o.load (by omega) (by omega))) ?_;simp only[go_sem,T,u,F,E,h9,I];refine aB (fun hb=>by simp at hb) (fun _=>?_);simp only[go_sem,T,u,F,E,h9,I];refine bE R ⟨rfl,rfl⟩ ⟨rfl,trivial⟩ (by simp only[Xaa,ae,Xad,List.length_nil];omega) (fun j' aj=>?_);simp only[go_sem,T,u,F,E,aP (show k<=4611686018427387904 by omega)];refine⟨⟨k+1,O,rfl,by rw[hn,if_pos Z],j',rfl,?_⟩,by simp only[aF];omega⟩;rw[aA,ag,hn,if_pos Z];show _=some (⟨86,1,_⟩:Row);rw[Xam];rfl
   . simp only[go_sem,T,u,F,E,h9,I,ac,aE ho,ai]
     refine PC.use (NC.pc2 (abO (L8 x r.visits k) o.load (by omega) (by omega))) ?_;simp only[go_sem,T,u,F,E,h9,I];refine aB (fun hb=>by simp at hb) (fun _=>?_);simp only[go_sem,T,u,F,E,h9,I];refine bE R ⟨rfl,rfl⟩ ⟨rfl,trivial⟩ (by simp only[Xaa,ae,Xad,List.length_nil];omega) (fun j' aj=>?_);simp only[go_sem,T,u,F,E,aP (show k<=4611686018427387904 by omega)];refine⟨⟨k+1,O,rfl,by rw[hn,if_neg (by rw[Z];simp)],j',rfl,?_⟩,by simp only[aF];omega⟩;rw[aA,ag,hn,if_neg (by rw[Z];simp)];show _=some (⟨86,1,_⟩:Row);rw[Xam];rfl
 . have ad:=bC hk ad
   subst ad;simp only[go_sem,I];rw[e0];exact .tup _ _ (.cons _ _ _ _ (.row _ _ _ R (ConvE.refl _)) (ConvL.refl _))
theorem Zs(x:Instance)(r:Route)(a:List Int)(I:a.length<=1048576)(F:dG r.type x.types.length=false):
   PC prog 316 [.sl (a.map bN),.rp (aH x) 0,.rp (cX r) 0] (boo (!jE a (JT x r.type))):=by
 have u:0<=r.type/\r.type<(x.types.length:Int):=by
   simp only[dG,Xak,decide_eq_false_iff_not]at F;omega
 obtain⟨t,E⟩:=aN (show r.type.toNat<x.types.length by omega);have J:JT x r.type=t.cap:=by unfold JT;rw[E]
 refine pcd Tryz.func316 ?_;unfold Tryz.f316;simp only[gdS];simp only[go_sem];simp only[go_sem,aE E,u];refine PC.use (Z5 a t.cap I) ?_;simp only[go_sem];rw[J];exact .refl _
def AI(x:Instance)(r:Route):Int:=
 if dG r.type x.types.length=true then 2 else if((mN x r.visits).2 != 0)=true then(mN x r.visits).2
 else if((mN x r.visits).1.any fun l=> !jE l (JT x r.type))=true then 17 else 0
theorem Np{x:Instance}(E:LoadB x){l:List Visit}:(mN x l).1.length<=l.length+1/\∀a∈(mN x l).1,a.length=(kB x).toNat:=by
 unfold mN;split
 . simp
 . refine⟨by simp[tP],fun a u=>?_⟩
   obtain⟨k,_,rfl⟩:=List.mem_map.1 u;exact Jv E l k
theorem Zc(x:Instance)(r:Route)(I:LoadB x)(hl:r.visits.length<=1048575)(T:x.apart.length<=1048576)(O:x.before.length<=1048576):
   PC prog 274 [.agg (aH x),.agg (cX r)] (int (AI x r)):=by
 refine pcd Tryz.func274 ?_;unfold Tryz.f274;simp only[gdS];simp only[go_sem];refine aB (fun h1=>?_) (fun h1=>?_)
 . simp only[go_sem]
   exact bW (by unfold AI;rw[if_pos (show dG r.type x.types.length=true from h1)])
 have h1:dG r.type x.types.length=false:=h1;have F:¬dG r.type x.types.length=true:=by rw[h1];simp
 simp only[go_sem];refine PC.use (T6 x r I (by omega) T O) ?_;simp only[go_sem];refine aB (fun J=>?_) (fun J=>?_)
 . simp only[go_sem]
   exact bW (by unfold AI;rw[if_neg F,if_pos J])
 have M:¬((mN x r.visits).2 != 0)=true:=by rw[J];simp
 obtain⟨ln,Z⟩:=Np I (l:=r.visits);have hd:=I.dims;simp only[go_sem];refine PC.use (C3 (p:=fun a=> !jE a (JT x r.type)) (mN x r.visits).1 (by omega) (by simp only[go_sem]) fun a E=>Zs x r a (by rw[Z a E];omega) h1) ?_;simp only[go_sem];refine aB (fun u=>?_) (fun u=>?_)
 . simp only[go_sem]
   exact bW (by unfold AI;rw[if_neg F,if_neg M,if_pos u])
 . simp only[go_sem]
   exact bW (by unfold AI;rw[if_neg F,if_neg M,if_neg (by rw[u];simp)])
theorem abM{H:aG}{a b:ByteArray}(h:a=b):Conv H (.v (.string a)) (.v (.string b)):=h▸.refl _
theorem XM(n:Nat)(J:n<20):PC prog 337 [int n] (str (iD n)):=by
 refine pcd Tryz.func337 ?_;unfold Tryz.f337;simp only[gdS];simp only[go_sem];refine aB (fun E=>?_) (fun E=>?_)
 . simp only[go_sem,aP (show n<=4611686018427387904 by omega)]
   have u:n=0\/n=1\/n=2\/n=3\/n=4\/n=5\/n=6\/n=7\/n=8\/n=9:=by simp at E;omega
   rcases u with rfl|rfl|rfl|rfl|rfl|rfl|rfl|rfl|rfl|rfl <;> exact⟨by decide,abM (by rw[sR (by omega)];rfl)⟩
 . have F:10<=n:=by simp at E;omega
   have w1:IntKind.i64.wrap ((n:Int)*2)=((n*2:Nat):Int):=by rw[bA (by omega)];omega
   have I:IntKind.i64.wrap (((n*2:Nat):Int)+2)=((n*2+2:Nat):Int):=by rw[bA (by omega)];omega
   simp only[go_sem,w1,I];have u:n=10\/n=11\/n=12\/n=13\/n=14\/n=15\/n=16\/n=17\/n=18\/n=19:=by omega
   rcases u with rfl|rfl|rfl|rfl|rfl|rfl|rfl|rfl|rfl|rfl <;> exact⟨by decide,abM (by rw[xJ (by omega),sR (by omega)];rfl)⟩
theorem Kr(n:Nat)(E:n<20):PC prog 296 [int n,int 10] (str (iD n)):=by
 refine pcd Tryz.func296 ?_;unfold Tryz.f296;simp only[gdS];simp only[go_sem];refine aB (fun _=>?_) (fun u=>by simp at u);simp only[go_sem];refine aB (fun u=>?_) (fun u=>by simp at u;omega);simp only[go_sem];refine PC.use (XM n E) ?_;simp only[go_sem];exact .refl _
theorem YA(n:Nat)(u:n<20):PC prog 261 [int n] (str (iD n)):=by
 refine pcd Tryz.func261 ?_;unfold Tryz.f261;simp only[gdS];simp only[go_sem];refine PC.use (Kr n u) ?_;simp only[go_sem];exact .refl _
theorem OX(n:Nat)(u:n<20):PC prog 224 [int n] (str (iD n)):=by
 refine pcd Tryz.func224 ?_;unfold Tryz.f224;simp only[gdS];simp only[go_sem];refine PC.use (YA n u) ?_;simp only[go_sem];exact .refl _
theorem qC{n:Int}(h: -9223372036854775808<=n/\n<=9223372036854775807):W n=n:=bA h
theorem Me(n a b:Int):PC prog 359 [int n,int a,int b] (boo (decide (n>=a)&&decide (n<=b))):=by
 refine pcd Tryz.func359 ?_;unfold Tryz.f359;simp only[gdS];simp only[go_sem];exact .refl _
structure TravB(l:List Point):Prop where
 len:1<=l.length/\l.length<=16
 pt:∀p∈l,0<=p.t/\p.t<=4096/\p.t<=p.a/\p.a<=p.t+4096
 mono:∀i,i+1<l.length->(dF l i).t<(dF l (i+1)).t/\(dF l i).a<=(dF l (i+1)).a
theorem fS{α:Type}{b:Bool}{f:α}(h:opt b f=[]):b=false:=by
 cases b with
 | false=>rfl
 | true=>simp[opt]at h
theorem YF{l:List Point}(h:iO l=[]):TravB l:=by
 unfold iO at h;rw[Xbg]at h;have h1:=fS h.1;unfold EN at h1;simp only[Xak,decide_eq_false_iff_not]at h1;have F:∀i,i<l.length->fW l i=[]:=fun i E=>List.flatMap_eq_nil_iff.1 h.2 i (Xaz.2 E)
 have I:∀p∈l,0<=p.t/\p.t<=4096/\p.t<=p.a/\p.a<=p.t+4096:=fun p J=>by
   obtain⟨i,E,rfl⟩:=List.getElem_of_mem J;have:=F i E;unfold fW at this;rw[Xbg]at this;have u:=fS this.1;rw[dM (List.getElem?_eq_getElem E)]at u;unfold nW at u;simp only[Xak,decide_eq_false_iff_not]at u;have w:=bA (n:=l[i].t+4096) (by omega);omega
 refine⟨by omega,I,fun i E=>?_⟩;have:=F (i+1) E;unfold fW at this;rw[Xbg]at this;have u:=fS this.2;unfold Jj at u;have e:i+1-1=i:=rfl;rw[e]at u;simp at u;exact u
theorem Iv{l:List Point}(h:TravB l):∀(i j:Nat),i<j->j<l.length->(dF l i).t<(dF l j).t
 | i,0,hij,_=>by omega
 | i,j+1,hij,hj=>by
   have h1:=(h.mono j hj).1;by_cases e:i=j
   . subst e;exact h1
   . have:=Iv h i j (by omega) (by omega)
     omega
theorem Vc(l:List Point)(h:TravB l):PC prog 377 [.sl (l.map bU)] (.sl []):=by
 have hl:=h.len;refine pcd Tryz.func377 ?_;unfold Tryz.f377;simp only[gdS];simp only[go_sem];refine aB (fun T=>by exfalso;simp only[Xbl,beq_iff_eq,decide_eq_true_eq]at T;omega) (fun _=>?_);simp only[go_sem];refine⟨fun ρ _=>∃k:Nat,k<=l.length/\ρ 0=.sl (l.map bU)/\ρ 19=.sl (l.map bU)/\ρ 20=int l.length/\ρ 21=int k/\ρ 3=.sl [],fun ρ _=>l.length-aV (ρ 21),⟨0,Xac _,rfl,rfl,rfl,rfl,rfl⟩,?_⟩;rintro ρ H ⟨k,hk,h0,E,F,u,I⟩;simp only[go_sem,h0,E,F,u,I];refine aB (fun J=>?_) (fun ag=>?_)
 . have J:=aZ J
   obtain⟨p,hp⟩:=aN J;have b1:=inB J;have ad:=h.pt p (Xae hp);simp only[go_sem,h0,E,F,u,I,aE hp,b1];refine aM fun Z ab=>?_
   simp only[go_sem,h0,E,F,u,I];refine aJ (aA _ _ _) (by simp[fQ]) ?_;generalize M:aI (aI _ Z _) Z _=HGi5;have O:HGi5 Z=some (⟨104,2,[bU p]⟩):=by rw[<-M,aA];rfl
   clear M ab;simp only[go_sem,h0,E,F,u,I,O];refine PC.use (OX k (by omega)) ?_;simp only[go_sem,h0,E,F,u,I,O];refine PC.use (Me _ _ _) ?_;simp only[go_sem,h0,E,F,u,I,O];have w:=bA (n:=p.t+4096) (by omega);refine aB (fun T=>by exfalso;rw[w]at T;simp at T;omega) (fun _=>?_);simp only[go_sem,h0,E,F,u,I,O];refine eN [Z] [(0,false),(1,false),(2,false),(3,true),(4,true),(5,true),(6,false),(7,false),(8,false),(9,false),(10,false),(11,false),(12,false),(13,true),(14,true),(15,true),(16,false),(17,false),(18,false),(19,false),(20,false),(21,false),(22,false),(23,false)] (by simp[O]) (by kernel_rfl) fun Hp Hr ac hr _ af=>?_
   have P5:=(ac Z (by simp)).trans O;obtain⟨q,hq⟩:=aN (show k-1<l.length by omega);have aa:decide ((k:Int)>0)=true->(0<=IntKind.i64.wrap ((k:Int)-1)/\IntKind.i64.wrap ((k:Int)-1)<(l.length:Int)):=fun hg=>by
     simp at hg;rw[mO (show k<=4611686018427387904 by omega)];omega
   simp only[go_sem,h0,E,F,u,I,P5,VE (show k<=4611686018427387904 by omega),aE hq];refine⟨aa,fun hg=>aa hg.1,eR fun _ Hm _ _=>?_⟩;simp only[go_sem,h0,E,F,u,I];have hm:0<k->q.t<p.t/\q.a<=p.a:=fun ae=>by
     have:=h.mono (k-1) (by omega);rw[show k-1+1=k by omega,dM hp,dM hq]at this;exact this
   refine aB (fun T=>?_) (fun _=>?_)
   . exfalso
     simp only[Xbl,Xap,decide_eq_true_eq]at T;have:=hm (by omega);omega
   simp only[go_sem,h0,E,F,u,I,aP (show k<=4611686018427387904 by omega)];exact⟨⟨k+1,J,rfl⟩,by simp only[aF];omega⟩
 . simp only[go_sem,I]
   exact .refl _
theorem HZ(l:List Point)(h:TravB l):PC prog 360 [.sl (l.map bU)] (boo true):=by
 refine pcd Tryz.func360 ?_;unfold Tryz.f360;simp only[gdS];simp only[go_sem];refine PC.use (Vc l h) ?_;simp only[go_sem];exact .refl _
theorem G7(p:Point)(t:Int):PC prog 379 [.agg (bU p),int t] (int (W (p.t-t))):=by
 refine pcd Tryz.func379 ?_;unfold Tryz.f379;simp only[gdS];simp only[go_sem];exact .refl _
def bs(l:List Point)(t:Int):Nat:=(l.takeWhile fun p=>decide (p.t<t)).length
def vO(l:List Point)(t:Int):Bool:=decide ((bs l t:Int)<(l.length:Int))&&((dF l (bs l t)).t-t == 0)
theorem VX{α:Type}{p:α->Bool}:∀(l:List α) (i:Nat),i<=l.length->(∀c x,c<i->l[c]?=some x->p x=true)->(∀x,l[i]?=some x->p x=false)->(l.takeWhile p).length=i
 | [],i,hi,_,_=>by simp at hi;simp[hi]
 | a::r,0,_,_,h2=>by
   have:=h2 a rfl;simp[List.takeWhile,this]
 | a::r,i+1,hi,h1,h2=>by
   have E:=h1 0 a (by omega) rfl;rw[List.takeWhile_cons,if_pos E,Xad,VX r i (by simpa using hi) (fun c x F u=>h1 (c+1) x (by omega) (by simpa using u)) (fun x u=>h2 x (by simpa using u))]
theorem aoL{l:List Point}{t:Int}{i:Nat}(E:i<=l.length)(h1:∀c,c<i->(dF l c).t<t)(F:i<l.length->t<=(dF l i).t):bs l t=i:=by
 refine VX l i E (fun c x I u=>?_) (fun x u=>?_)
 . have:=h1 c I
   rw[dM u]at this;simpa using this
 . have:=F (List.getElem?_eq_some_iff.1 u).1
   rw[dM u]at this;simp;omega
theorem SZ(l:List Point)(t:Int)(h:TravB l)(ht:0<=t/\t<=1073741824):PC prog 378 [.sl (l.map bU),int t,.v (.func (.func 379) #[] #[])] (.tup [int (bs l t),boo (vO l t)]):=by
 have hl:=h.len;refine pcd Tryz.func378 ?_;unfold Tryz.f378;simp only[gdS];simp only[go_sem];have ac:aC prog 379=true:=by kernel_rfl
 refine⟨fun ρ _=>∃i j:Nat,i<=j/\j<=l.length/\ρ 0=.sl (l.map bU)/\ρ 1=int t/\ρ 2=.v (.func (.func 379) #[] #[])/\ρ 8=int l.length/\ρ 9=int i/\ρ 10=int j/\(∀c,c<i->(dF l c).t<t)/\(j<l.length->t<=(dF l j).t),fun ρ _=>aV (ρ 10)-aV (ρ 9),⟨0,l.length,Xac _,Xaf _,rfl,rfl,rfl,rfl,rfl,rfl,fun c hc=>by omega,fun hc=>by omega⟩,?_⟩;rintro ρ H ⟨i,j,ah,hj,h0,h1,O,M,Z,F,hz,hy⟩;simp only[go_sem,h0,h1,O,M,Z,F];refine aB (fun E=>?_) (fun aa=>?_)
 . have E:i<j:=by simp at E;omega
   have w1:IntKind.i64.wrap ((i:Int)+(j:Int))=((i+j:Nat):Int):=by rw[bA (by omega)];omega
   have w2:IntKind.u64.wrap ((i+j:Nat):Int)=((i+j:Nat):Int):=Bk (by omega);have w3:shV .shr .u64 ((i+j:Nat):Int) 1=(((i+j)/2:Nat):Int):=by
     show((i+j:Nat):Int).fdiv (2^min (1:Int).toNat 64)=_;rw[Xcf _ (by decide)];rfl
   have w4:IntKind.i64.wrap (((i+j)/2:Nat):Int)=(((i+j)/2:Nat):Int):=bA (by omega);have hm:(i+j)/2<l.length:=by omega
   generalize ai:(i+j)/2=m at w3 w4 hm;have ag:i<=m/\m<j:=by omega
   obtain⟨p,hp⟩:=aN hm;have b1:=inB hm;have ab:=h.pt p (Xae hp);have e:W (p.t-t)=p.t-t:=qC (by omega);simp only[go_sem,h0,h1,O,M,Z,F,w1,w2,w3,w4,aE hp,b1,ac];refine⟨by decide,PC.use (G7 p t) ?_⟩;simp only[go_sem,h0,h1,O,M,Z,F,e];refine kG (fun u _=>∃i' T:Nat,i'<=T/\T<=l.length/\T-i'<j-i/\u 0=.sl (l.map bU)/\u 1=int t/\u 2=.v (.func (.func 379) #[] #[])/\u 8=int l.length/\u 9=int i'/\u 10=int T/\(∀c,c<i'->(dF l c).t<t)/\(T<l.length->t<=(dF l T).t)) ?_ fun K hK _ _=>aB (fun hb=>?_) (fun hb=>?_)
   . rintro u H' ⟨i',T,a1,a2,a3,c0,c1,c2,c8,c9,ae,cz,cy⟩
     exact⟨⟨i',T,a1,a2,c0,c1,c2,c8,c9,ae,cz,cy⟩,by rw[c9,ae];simp only[aF];omega⟩
   . have hb:p.t-t<0:=by simpa using hb
     simp only[go_sem,h0,h1,O,M,Z,F,aP (show m<=4611686018427387904 by omega)];refine hK _ _ ⟨m+1,j,by omega,hj,by omega,by simp only[go_sem,h0],by simp only[go_sem,h1],by simp only[go_sem,O],by simp only[go_sem,M],by simp only[go_sem],by simp only[go_sem,F],fun c hc=>?_,hy⟩;have e2:=dM hp;by_cases e3:c=m
     . subst e3;rw[e2];omega
     . have:=Iv h c m (by omega) hm
       rw[e2]at this;omega
   . have hb:¬p.t-t<0:=by simpa using hb
     simp only[go_sem,h0,h1,O,M,Z,F];refine hK _ _ ⟨i,m,by omega,by omega,by omega,by simp only[go_sem,h0],by simp only[go_sem,h1],by simp only[go_sem,O],by simp only[go_sem,M],by simp only[go_sem,Z],by simp only[go_sem],hz,fun _=>?_⟩;rw[dM hp];omega
 . have aa:i=j:=by simp at aa;omega
   subst aa;have ad:bs l t=i:=aoL hj hz hy;simp only[go_sem,h0,h1,O,M,Z,F,ac];have I:decide ((i:Int)<(l.length:Int))=true->(l.map bU).getD i []=bU (dF l i):=fun J=>by
     have E:i<l.length:=by simp at J;omega
     obtain⟨p,hp⟩:=aN E;rw[aE hp,dM hp]
   have af:decide ((i:Int)<(l.length:Int))=true->0<=(i:Int)/\(i:Int)<(l.length:Int):=fun J=>by simp at J;omega
   refine⟨fun J=>⟨af J,by rw[I J];rfl⟩,fun J=>by rw[I J];exact Xaf _,int (W ((dF l i).t-t)),fun J=>by rw[I J,Av];exact(G7 _ t).q rfl,?_⟩;simp only[go_sem];have e:vO l t=(decide ((i:Int)<(l.length:Int))&&(W ((dF l i).t-t) == 0)):=by
     unfold vO;rw[ad];by_cases E:i<l.length
     . have ab:=h.pt _ (Xae (aN E).choose_spec)
       rw[<-dM (aN E).choose_spec]at ab;rw[qC (by omega)]
     . have:decide ((i:Int)<(l.length:Int))=false:=by simp;omega
       rw[this];rfl
   rw[ad,e];exact .refl _
def VV(p q:Point)(t:Int):Int:=W (p.a+IntKind.i64.wrap (Int.tdiv (W (W (W (W (t-p.t)*W (q.a-p.a))+W (q.t-p.t))-1)) (W (q.t-p.t))))
def Fw(l:List Point)(t:Int):Int:=
 if vO l t=true then(dF l (bs l t)).a else if((bs l t:Int) == 0)=true then Al (dF l 0) t
 else if((bs l t:Int) == (l.length:Int))=true then Al (dF l (bs l t-1)) t else VV (dF l (bs l t-1)) (dF l (bs l t)) t
theorem abN(l:List Point)(t:Int):bs l t<=l.length:=by
 have:=congrArg List.length (List.takeWhile_append_dropWhile (p:=fun p:Point=>decide (p.t<t)) (l:=l));rw[Xab]at this;unfold bs;omega
theorem Rg(l:List Point)(t:Int)(h:TravB l)(ht:0<=t/\t<=1073741824):PC prog 361 [.sl (l.map bU),int t] (int (Fw l t)):=by
 have hl:=h.len;have hb:=abN l t;refine pcd Tryz.func361 ?_;unfold Tryz.f361;simp only[gdS];simp only[go_sem];refine PC.use (SZ l t h ht) ?_;simp only[go_sem];obtain⟨i,hi⟩:∃i,bs l t=i:=⟨_,rfl⟩;have aa:Fw l t=if vO l t=true then(dF l i).a else if((i:Int) == 0)=true then Al (dF l 0) t else if((i:Int) == (l.length:Int))=true then Al (dF l (i-1)) t else VV (dF l (i-1)) (dF l i) t:=by unfold Fw;rw[hi]
 rw[hi]at hb |-;rw[aa];refine aB (fun h1=>?_) (fun h1=>?_)
 . have ab:i<l.length:=by unfold vO at h1;rw[hi]at h1;simp at h1;omega
   obtain⟨p,I⟩:=aN ab;have b1:=inB ab;simp only[go_sem,aE I,b1];rw[if_pos h1,dM I];exact .refl _
 simp only[go_sem];refine aB (fun Z=>?_) (fun Z=>?_)
 . obtain⟨p,I⟩:=aN (show 0<l.length by omega)
   simp only[go_sem];refine dA (by rfl) (by kernel_rfl) ?_;simp only[go_sem,aE I];rw[if_neg (by rw[h1];simp),if_pos Z,dM I];have b0:(0:Int)<=0/\(0:Int)<(l.length:Int):=by omega
   exact⟨b0,b0,.refl _⟩
 simp only[go_sem];refine aB (fun h3=>?_) (fun h3=>?_)
 . have ac:i≠0:=by simpa using Z
   obtain⟨p,I⟩:=aN (show i-1<l.length by omega);simp only[go_sem];refine dA (by rfl) (by kernel_rfl) ?_;have w:IntKind.i64.wrap ((i:Int)-1)=((i-1:Nat):Int):=by rw[bA (by omega)];omega
   have b1:=inB (show i-1<l.length by omega);simp only[go_sem,w,aE I,b1];rw[if_neg (by rw[h1];simp),if_neg (by rw[Z];simp),if_pos h3,dM I];exact .refl _
 have ac:i≠0:=by simpa using Z
 have ah:i≠l.length:=by simp at h3;omega
 obtain⟨p,I⟩:=aN (show i-1<l.length by omega);obtain⟨q,hq⟩:=aN (show i<l.length by omega);have w:IntKind.i64.wrap ((i:Int)-1)=((i-1:Nat):Int):=by rw[bA (by omega)];omega
 have b1:=inB (show i-1<l.length by omega);have b2:=inB (show i<l.length by omega);have O:=(h.mono (i-1) (by omega)).1;rw[show i-1+1=i by omega,dM I,dM hq]at O;have ai:=h.pt p (Xae I);have ae:=h.pt q (Xae hq);rw[if_neg (by rw[h1];simp),if_neg (by rw[Z];simp),if_neg (by rw[h3];simp),dM I,dM hq];simp only[go_sem];refine zI (fun J H'=>J 1=int t/\∃u F,J 7=.op u 0 0/\J 8=.op F 0 0/\H' u=some (⟨104,2,[bU p]⟩:Row)/\H' F=some (⟨104,2,[bU q]⟩:Row)/\u≠F) ?_ fun K hK=>?_
 . rintro ρ H ⟨h1,u,F,h7,T,R7,R8,E⟩
   simp only[go_sem,h1,h7,T,R7,R8];refine eN [u,F] [(0,true),(1,true),(2,true),(3,true),(4,true),(5,true),(6,true),(7,true),(8,true),(9,true),(10,true),(11,true),(12,true),(13,true),(14,true),(15,false),(16,false),(17,false),(18,false)] (by simp[R7,R8]) (by kernel_rfl) fun Hp M I hr _ ag=>?_
   have P7:=(I u (by simp)).trans R7;have P8:=(I F (by simp)).trans R8;simp only[go_sem,h1,h7,T,P7,P8];refine⟨Zj (by omega),eR fun _ Hm _ _=>?_⟩;simp only[go_sem];exact .refl _
 . refine uM [] (.q 0 (.q 1 (.q 2 (.q 3 (.q 4 (.q 5 (.q 6 (.q 7 (.q 8 (.a2 9 (.a1 10 (.a1 11 (.a1 12 .nil))) 10 (.a1 9 (.a1 11 (.a1 12 .nil))))))))))))) (by simp) (by kernel_rfl) fun Hp M _ af _ _=>?_
   simp only[go_sem,w,aE I,aE hq,b1,b2];have rP:∀{a b:Nat} {G:aG} {z:List AV} {y:List AV},a≠b->G a=some (⟨104,2,[z]⟩:Row)->aI G b (some (⟨104,2,[y]⟩:Row)) a=some (⟨104,2,[z]⟩:Row):=fun ad hG=>by rw[aD _ _ _ _ ad];exact hG
   refine lA ?_ ?_
   . simp only[go_sem]
     refine aM fun u h7=>?_
     simp only[go_sem];refine aM fun F T=>?_
     have E:=aO (aA _ _ _) T;have S7:=jG (r':=(⟨104,2,[[int 0,int 0]]⟩:Row)) (aA M u (some (⟨104,2,[[int 0,int 0]]⟩:Row))) T;have S8:=aA (aI M u (some (⟨104,2,[[int 0,int 0]]⟩:Row))) F (some (⟨104,2,[[int 0,int 0]]⟩:Row));generalize aI (aI M u _) F _=G at S7 S8 |-;simp only[go_sem];refine aJ S7 (by simp[fQ]) ?_;simp only[go_sem];refine aJ (abZ S8 E.symm) (by simp[fQ]) ?_;simp only[go_sem];refine eR fun _ Hm _ O=>hK _ _ ⟨by simp only[go_sem],u,F,by simp only[go_sem],by simp only[go_sem],?_,?_,E⟩
     . rw[O u (by simp),aD _ _ _ _ E,aA]
     . rw[O F (by simp),aA]
   . simp only[go_sem]
     refine aM fun F T=>?_
     simp only[go_sem];refine aM fun u h7=>?_
     have E:=(aO (aA _ _ _) h7).symm;have S8:=jG (r':=(⟨104,2,[[int 0,int 0]]⟩:Row)) (aA M F (some (⟨104,2,[[int 0,int 0]]⟩:Row))) h7;have S7:=aA (aI M F (some (⟨104,2,[[int 0,int 0]]⟩:Row))) u (some (⟨104,2,[[int 0,int 0]]⟩:Row));generalize aI (aI M F _) u _=G at S7 S8 |-;simp only[go_sem];refine aJ S7 (by simp[fQ]) ?_;simp only[go_sem];refine aJ (abZ S8 E.symm) (by simp[fQ]) ?_;simp only[go_sem];refine eR fun _ Hm _ O=>hK _ _ ⟨by simp only[go_sem],u,F,by simp only[go_sem],by simp only[go_sem],?_,?_,E⟩
     . rw[O u (by simp),aD _ _ _ _ E,aA]
     . rw[O F (by simp),aA]
theorem Qu{α:Type}{p:α->Bool}:∀l:List α,(∀c x,c<(l.takeWhile p).length->l[c]?=some x->p x=true)/\(∀x,l[(l.takeWhile p).length]?=some x->p x=false)
 | []=>⟨fun c x h _=>by simp at h,fun x h=>by simp at h⟩
 | a::r=>by
   obtain⟨h1,I⟩:=Qu (p:=p) r;by_cases E:p a=true
   . rw[List.takeWhile_cons,if_pos E]
     refine⟨fun c x F u=>?_,fun x u=>I x (by simpa using u)⟩;cases c with
     | zero=>simp at u;subst u;exact E
     | succ c=>exact h1 c x (by simpa using F) (by simpa using u)
   . rw[List.takeWhile_cons,if_neg E]
     refine⟨fun c x F _=>by simp at F,fun x u=>?_⟩;simp at u;subst u;simpa using E
theorem PG{p:Point}{t:Int}(u:0<=p.t/\p.t<=4096/\p.t<=p.a/\p.a<=p.t+4096)(e:p.t=t):Al p t=p.a:=by
 unfold Al;subst e;rw[qC (n:=p.t+p.a) (by omega),qC (by omega)];omega
theorem YC{p q:Point}{t:Int}(E:0<=p.t/\p.t<=4096/\p.t<=p.a/\p.a<=p.t+4096)(F:0<=q.t/\q.t<=4096/\q.t<=q.a/\q.a<=q.t+4096)(u:p.t<q.t)(e:p.t=t):MG p q t=p.a:=by
 unfold MG;subst e;rw[Int.sub_self,show W 0=0 from rfl,Int.zero_mul,show W 0=0 from rfl,Int.zero_add,qC (n:=q.t) (by omega),qC (n:=q.t-p.t) (by omega),qC (n:=q.t-p.t-1) (by omega),
   Xcc (by omega),Int.ediv_eq_zero_of_lt (by omega) (by omega)]
 rw[show IntKind.i64.wrap 0=0 from rfl,Int.add_zero,qC (by omega)]
theorem acF{p q:Point}{t:Int}(J:0<=p.t/\p.t<=4096/\p.t<=p.a/\p.a<=p.t+4096)(M:0<=q.t/\q.t<=4096/\q.t<=q.a/\q.a<=q.t+4096)(O:p.a<=q.a)(h1:p.t<=t)(T:t<q.t):MG p q t=VV p q t:=by
 unfold MG VV;have I:0<=t-p.t/\t-p.t<=4096:=by omega
 have E:0<=q.a-p.a/\q.a-p.a<=8192:=by omega
 have F:0<=(t-p.t)*(q.a-p.a):=Int.mul_nonneg I.1 E.1;have u:(t-p.t)*(q.a-p.a)<=4096*8192:=Int.mul_le_mul I.2 E.2 E.1 (by omega);rw[qC (n:=t-p.t) (by omega),qC (n:=q.a-p.a) (by omega),qC (n:=(t-p.t)*(q.a-p.a)) (by omega),qC (n:=q.t-p.t) (by omega)];generalize (t-p.t)*(q.a-p.a)=m at F u;rw[qC (n:=m+q.t) (by omega),qC (n:=m+q.t-p.t) (by omega),qC (n:=m+(q.t-p.t)) (by omega),show m+q.t-p.t=m+(q.t-p.t)by omega]
def Nw(l:List Point)(t:Int):Int:=match (List.range (l.length-1)).find? (oK l t)with
 | some k=>MG (dF l k) (dF l (k+1)) t
 | none=>if decide (t>(dF l 0).t)=true then Al (dF l (l.length-1)) t else Al (dF l 0) t
theorem Ha{l:List Point}{t:Int}{k:Nat}(h:(List.range (l.length-1)).find? (oK l t)=some k):Nw l t=MG (dF l k) (dF l (k+1)) t:=by unfold Nw;rw[h]
theorem JQ{l:List Point}{t:Int}(h:(List.range (l.length-1)).find? (oK l t)=none)(u:t>(dF l 0).t):Nw l t=Al (dF l (l.length-1)) t:=by unfold Nw;rw[h];exact if_pos (by simpa using u)
theorem LE{l:List Point}{t:Int}(h:(List.range (l.length-1)).find? (oK l t)=none)(u:¬t>(dF l 0).t):Nw l t=Al (dF l 0) t:=by unfold Nw;rw[h];exact if_neg (by simpa using u)
theorem afG{l:List Point}{t:Int}{i:Nat}(u:bs l t=i)(h:i<l.length/\(dF l i).t=t):Fw l t=(dF l i).a:=by
 unfold Fw vO;rw[u];exact if_pos (by simp;omega)
theorem adM{l:List Point}{t:Int}{i:Nat}(u:bs l t=i)(h:¬(i<l.length/\(dF l i).t=t)):Fw l t=if((i:Int) == 0)=true then Al (dF l 0) t
 else if((i:Int) == (l.length:Int))=true then Al (dF l (i-1)) t else VV (dF l (i-1)) (dF l i) t:=by
 unfold Fw vO;rw[u];exact if_neg (by simp;intro E;omega)
theorem VG{l:List Point}{t:Int}(h:TravB l)(hr:iO l=[])(ht:0<=t/\t<=1073741824):mK l t=Fw l t:=by
 have hl:=h.len;have hb:=abN l t;obtain⟨af,ai⟩:=Qu (p:=fun p:Point=>decide (p.t<t)) l;have F:∀c,c<bs l t->(dF l c).t<t:=fun c T=>by
   obtain⟨x,hx⟩:=aN (show c<l.length by omega);have:=af c x T hx;rw[dM hx];simpa using this
 have O:bs l t<l.length->t<=(dF l (bs l t)).t:=fun ag=>by
   obtain⟨x,hx⟩:=aN ag;have:=ai x hx;rw[dM hx];simpa using this
 have Z:∀c,c<l.length->0<=(dF l c).t/\(dF l c).t<=4096/\(dF l c).t<=(dF l c).a/\(dF l c).a<=(dF l c).t+4096:=fun c T=>by
   obtain⟨x,hx⟩:=aN T;rw[dM hx];exact h.pt x (Xae hx)
 unfold mK;have ad:BI l t=false:=by unfold BI;rw[hr];simp;omega
 rw[if_neg (by rw[ad];simp)];show Nw l t=Fw l t;obtain⟨i,hi⟩:∃i,bs l t=i:=⟨_,rfl⟩;rw[hi]at hb F O;have E:(∀c,c+1<l.length->oK l t c=false)->(List.range (l.length-1)).find? (oK l t)=none:=fun hn=>GC fun c T=>hn c (by have:=Xaz.1 T;omega)
 have I:∀k,k+1<l.length->(∀c,c<k->oK l t c=false)->oK l t k=true->(List.range (l.length-1)).find? (oK l t)=some k:=fun k hk hn hy=>Mg (k:=k) (fun y ac=>by
   rw[List.take_range]at ac;exact hn y (by have:=Xaz.1 ac;omega)) (nQ (by omega)) hy
 have u:∀c,c+1<l.length->(dF l (c+1)).t<=t->oK l t c=false:=fun c _ T=>by unfold oK;simp;omega
 by_cases ab:i<l.length/\(dF l i).t=t
 . rw[afG hi ab]
   obtain⟨J,he⟩:=ab;have aa:∀c,c+1<l.length->c+1<=i->oK l t c=false:=fun c T ak=>u c T (by
     by_cases e:c+1=i
     . rw[e];omega
     . have:=F (c+1) (by omega);omega)
   by_cases M:i+1<l.length
   . have hm:=h.mono i M
     rw[Ha (I i M (fun c T=>aa c (by omega) (by omega)) (by unfold oK;simp;omega))];exact YC (Z i J) (Z (i+1) M) hm.1 he
   . have hn:=E fun c T=>aa c T (by omega)
     have ae:i=l.length-1:=by omega
     by_cases h0:i=0
     . rw[h0]at he J |-
       rw[LE hn (by omega)];exact PG (Z 0 J) he
     . have:=F 0 (by omega)
       rw[JQ hn this,<-ae];exact PG (Z i J) he
 . rw[adM hi ab]
   by_cases h0:i=0
   . subst h0
     have hh:=O (by omega);have ah:(dF l 0).t≠t:=fun e=>ab ⟨by omega,e⟩
     rw[LE (E fun c T=>by
       have:(dF l 0).t<=(dF l c).t:=by
         by_cases e:c=0
         . rw[e];omega
         . have:=Iv h 0 c (by omega) (by omega);omega
       unfold oK;simp;omega) (by omega),if_pos (by simp)]
   . rw[if_neg (by simp;omega)]
     by_cases hn:i=l.length
     . have:=F 0 (by omega)
       rw[JQ (E fun c T=>u c T (by have:=F (c+1) (by omega);omega)) this,if_pos (by simp;omega),hn]
     . have J:i<l.length:=by omega
       have hh:=O J;have ah:(dF l i).t≠t:=fun e=>ab ⟨J,e⟩
       have aj:=F (i-1) (by omega);have e1:i-1+1=i:=by omega
       rw[Ha (I (i-1) (by omega) (fun c T=>u c (by omega) (by have:=F (c+1) (by omega);omega)) (by unfold oK;rw[e1];simp;omega)),if_neg (by simp;omega)];rw[e1];have hm:=h.mono (i-1) (by omega);rw[e1]at hm;exact acF (Z (i-1) (by omega)) (Z i J) hm.2 (by omega) (by omega)
theorem Q7(l:List Point)(t:Int)(F:iO l=[]):PC prog 327 [.sl (l.map bU),int t] (int (mK l t)):=by
 have h:=YF F;refine pcd Tryz.func327 ?_;unfold Tryz.f327;simp only[gdS];simp only[go_sem];refine PC.use (Me _ _ _) ?_;simp only[go_sem];refine⟨_,fun _=>(HZ l h).q rfl,?_⟩;simp only[go_sem];have u:BI l t=(!(decide (t>=0)&&decide (t<=1073741824))|| !true):=by
   unfold BI;rw[F,Xau];simp
 rw[<-u];refine aB (fun E=>?_) (fun E=>?_)
 . simp only[go_sem]
   exact bW (by unfold mK;rw[if_pos E])
 have I:0<=t/\t<=1073741824:=by unfold BI at E;simp at E;omega
 simp only[go_sem];refine PC.use (Rg l t h I) ?_;simp only[go_sem];exact bW (VG h F I).symm
theorem Lw(n:Network)(i:Int):PC prog 281 [.agg (aU n),int i] (boo (Iw n i)):=by
 refine pcd Tryz.func281 ?_;unfold Tryz.f281;simp only[gdS];simp only[go_sem];exact .refl _
def JD(a:Arc):List AV:=[int a.src,int a.dst,int a.profile]
theorem YP(a:Arc):PC prog 326 [.agg (fL a)] (.agg (JD a)):=by
 refine pcb (fun t=>t == 2) Tryz.func326 ?_;unfold Tryz.f326;simp only[gdS];simp only[go_sem];refine aM fun j u=>?_
 simp only[go_sem];refine aJ (aA _ _ _) (by simp) ?_;simp only[go_sem];exact .refl _
structure NetOk(n:Network):Prop where
 arcs:n.arcs.length<=1048576
 travel:∀a∈n.arcs,iO a.travel=[]
 slow:∀a∈n.arcs,a.slow.length<=1048576
theorem O3(a:Arc)(t:Int)(ha:iO a.travel=[])(aa:a.slow.length<=1048576):PC prog 283 [.agg (fL a),int t] (int (DR a t)):=by
 refine pcd Tryz.func283 ?_;unfold Tryz.f283;simp only[gdS];simp only[go_sem];refine PC.use (Q7 a.travel t ha) ?_;simp only[go_sem];refine⟨fun ρ _=>∃k:Nat,k<=a.slow.length/\ρ 1=int t/\ρ 13=.sl (a.slow.map bU)/\ρ 14=int a.slow.length/\ρ 5=int ((a.slow.take k).foldl (B4 t) (mK a.travel t))/\ρ 15=int k,fun ρ _=>a.slow.length-aV (ρ 15),⟨0,Xac _,rfl,rfl,rfl,rfl,rfl⟩,?_⟩;rintro ρ H ⟨k,hk,h1,F,u,M,E⟩;simp only[go_sem,h1,F,u,M,E];refine aB (fun I=>?_) (fun T=>?_)
 . have I:=aZ I
   obtain⟨p,hp⟩:=aN I;have b1:=inB I;have hs:(a.slow.take (k+1)).foldl (B4 t) (mK a.travel t)=B4 t ((a.slow.take k).foldl (B4 t) (mK a.travel t)) p:=by rw[bQ hp,List.foldl_append];rfl
   simp only[go_sem,h1,F,u,M,E,aE hp,b1];refine aM fun i7 Z=>?_
   simp only[go_sem,h1,F,u,M,E];refine aJ (aA _ _ _) (by simp[fQ]) ?_;generalize O:aI (aI _ i7 _) i7 _=HGi7;have R7:HGi7 i7=some (⟨104,2,[bU p]⟩):=by rw[<-O,aA];rfl
   clear O Z;simp only[go_sem,h1,F,u,M,E,R7];refine kG (fun J _=>J 1=int t/\J 13=.sl (a.slow.map bU)/\J 14=int a.slow.length/\J 5=int ((a.slow.take (k+1)).foldl (B4 t) (mK a.travel t))/\J 15=int k) ?_ fun K hK _ _=>aB (fun hb=>?_) (fun hb=>?_)
   . clear h1 F u M E
     rintro ρ H ⟨h1,F,u,M,E⟩;simp only[go_sem,h1,F,u,M,E,aP (show k<=4611686018427387904 by omega)];exact⟨⟨k+1,I,rfl,rfl⟩,by simp only[aF];omega⟩
   . simp only[go_sem,h1,F,u,M,E,R7]
     refine hK _ _ ⟨by simp only[go_sem,h1],by simp only[go_sem,F],by simp only[go_sem,u],?_,by simp only[go_sem,E]⟩;simp only[go_sem];rw[hs,B4,if_pos hb];rfl
   . simp only[go_sem]
     refine hK _ _ ⟨by simp only[go_sem,h1],by simp only[go_sem,F],by simp only[go_sem,u],?_,by simp only[go_sem,E]⟩;simp only[go_sem,M];rw[hs,B4,if_neg (by rw[hb];simp)]
 . have T:=bC hk T
   subst T;simp only[go_sem,M];rw[Xag];exact .refl _
theorem Xy(n:Network)(p f t:Int)(hl:n.arcs.length<=1048576):PC prog 282 [.agg (aU n),int p,int f,int t] (.tup [.agg (fL ((xA n p f t).getD An)),boo (xA n p f t).isSome]):=by
 refine pcd Tryz.func282 ?_;unfold Tryz.f282;simp only[gdS];simp only[go_sem];refine aM fun j8 ao=>?_
 generalize ah:aI _ j8 _=HGj8;have R8:HGj8 j8=some (⟨107,6,[fL An]⟩):=by rw[<-ah,aA];rfl
 clear ah ao;simp only[go_sem,R8];refine aM fun F af=>?_
 have I:j8≠F:=aO R8 af;simp only[go_sem,R8];refine aJ (aA _ _ _) (by simp[fQ]) ?_;generalize ad:aI (aI _ F _) F _=HGj10;replace R8:=(congrFun ad.symm j8).trans ((aD _ _ _ _ I).trans ((aD _ _ _ _ I).trans R8));have J:HGj10 F=some (⟨340,3,[[int f,int t,int p]]⟩):=by rw[<-ad,aA];rfl
 clear ad af;simp only[go_sem,J,R8];refine⟨fun ρ H=>∃k:Nat,k<=n.arcs.length/\ρ 8=.op j8 0 0/\ρ 10=.op F 0 0/\ρ 18=.sl (n.arcs.map fL)/\ρ 19=int n.arcs.length/\ρ 20=int k/\H j8=some (⟨107,6,[fL An]⟩:Row)/\H F=some (⟨340,3,[[int f,int t,int p]]⟩:Row)/\∀a∈n.arcs.take k,Kn p f t a=false,fun ρ _=>n.arcs.length-aV (ρ 20),⟨0,Xac _,rfl,rfl,rfl,rfl,rfl,R8,J,by simp⟩,?_⟩;clear R8 J;rintro ρ H ⟨k,hk,h8,ab,T,Z,aa,R8,J,hz⟩;simp only[go_sem,h8,ab,T,Z,aa];refine aB (fun ae=>?_) (fun ak=>?_)
 . have ae:=aZ ae
   obtain⟨a,ai⟩:=aN ae;have b1:=inB ae;simp only[go_sem,h8,ab,T,Z,aa,aE ai,b1];refine aM fun M ac=>?_
   have E:j8≠M:=aO R8 ac;have u:F≠M:=aO J ac;simp only[go_sem,h8,ab,T,Z,aa,R8,J];refine aJ (aA _ _ _) (by simp[iH]) ?_;generalize O:aI (aI _ M _) M _=HGi12;replace R8:=(congrFun O.symm j8).trans ((aD _ _ _ _ E).trans ((aD _ _ _ _ E).trans R8));replace J:=(congrFun O.symm F).trans ((aD _ _ _ _ u).trans ((aD _ _ _ _ u).trans J));have ag:HGi12 M=some (⟨107,6,[fL a]⟩):=by rw[<-O,aA];rfl
   clear O ac;simp only[go_sem,h8,ab,T,Z,aa,ag,R8,J];refine eN [M] [(0,true),(1,true),(2,false),(3,false)] (by simp[ag]) (by kernel_rfl) fun Hp Hr hp hr _ ar=>?_
   have am:=(hp M (by simp)).trans ag;have aj:=(hr F (by simp[u])).trans J;simp only[go_sem,h8,ab,T,Z,aa,am,aj];refine⟨_,(YP a).q rfl,?_⟩;simp only[go_sem,h8,ab,T,Z,aa,am,aj,JD];refine eR fun _ Hm aq al=>?_
   have M8:Hm j8=some (⟨107,6,[fL An]⟩:Row):=by
     have n1:j8∉[M]:=by simp[E]
     rw[al j8 n1];exact(hr j8 n1).trans R8
   have ap:=(aq M (by simp)).trans ag;have an:Hm F=_:=(al F (by simp[u])).trans aj;simp only[go_sem,h8,ab,T,Z,aa,M8,an,ap];have ea:(a.src == f&&(a.dst == t&&(a.profile == p&&true)))=Kn p f t a:=by unfold Kn;rw[Bool.and_true,Bool.and_assoc]
   rw[ea];refine aB (fun hb=>?_) (fun hb=>?_)
   . simp only[go_sem,h8,ap]
     refine aJ M8 (by simp[iH]) ?_;simp only[go_sem,h8,iH];have:xA n p f t=some a:=Mg hz ai hb;rw[this];exact .refl _
   . simp only[go_sem,h8,ab,T,Z,aa,aP (show k<=4611686018427387904 by omega)]
     exact⟨⟨k+1,ae,rfl,M8,an,aT (p:=fun a=>Kn p f t a=false) ai hb hz⟩,by simp only[aF];omega⟩
 . have ak:=bC hk ak
   subst ak;rw[Xag]at hz;simp only[go_sem,h8];refine aJ R8 (by simp) ?_;simp only[go_sem,h8];have:xA n p f t=none:=GC hz;rw[this];exact .refl _
theorem Vv(n:Network)(p f t time:Int)(M:NetOk n):PC prog 244 [.agg (aU n),int p,int f,int t,int time] (.tup [int (iM n p f t time).1,int (iM n p f t time).2.1,int (iM n p f t time).2.2]):=by
 refine pcd Tryz.func244 ?_;unfold Tryz.f244;simp only[gdS];simp only[go_sem];refine PC.use (Lw n f) ?_;simp only[go_sem];refine⟨_,fun _=>(Lw n t).q rfl,?_⟩;simp only[go_sem];refine aB (fun h1=>?_) (fun h1=>?_)
 . simp only[go_sem]
   have:iM n p f t time=(0,0,11):=by unfold iM;rw[if_pos h1]
   rw[this];exact .refl _
 simp only[go_sem];refine aB (fun T=>?_) (fun T=>?_)
 . simp only[go_sem]
   have:iM n p f t time=(time,0,0):=by unfold iM;rw[if_neg (by rw[h1];simp),if_pos T]
   rw[this];exact .refl _
 have hg:iM n p f t time=match xA n p f t with|some a=>(DR a time,a.miles,0)|none=>(0,0,12):=by unfold iM;rw[if_neg (by rw[h1];simp),if_neg (by rw[T];simp)];rfl
 rw[hg];simp only[go_sem];refine PC.use (Xy n p f t M.arcs) ?_;simp only[go_sem];refine aM fun I F=>?_
 simp only[go_sem];refine aJ (aA _ _ _) (by simp[iH]) ?_;generalize u:aI (aI _ I _) I _=HGj13;have E:HGj13 I=some (⟨107,6,[fL ((xA n p f t).getD An)]⟩):=by rw[<-u,aA];rfl
 clear u F;simp only[go_sem,E];cases Z:xA n p f t with
 | none=>
   refine aB (fun _=>?_) (fun O=>by simp at O);simp only[go_sem];exact .refl _
 | some a=>
   have J:=List.mem_of_find?_eq_some Z;refine aB (fun O=>by simp at O) (fun _=>?_);rw[Z]at E;simp only[go_sem,Option.getD_some,iH];refine dA (by rfl) (by kernel_rfl) ?_;simp only[go_sem,Option.getD_some,E,iH];refine⟨_,(O3 a time (M.travel a J) (M.slow a J)).q rfl,?_⟩;simp only[go_sem,Option.getD_some,E,iH];exact .refl _
theorem PX(s:Stop)(a:Int):PC prog 284 [.agg (dR s),int a] (.tup [int (if jW a s.start>s.close then 0 else jW a s.start),int (if jW a s.start>s.close then 14 else 0)]):=by
 refine pcd Tryz.func284 ?_;unfold Tryz.f284;simp only[gdS];simp only[go_sem];refine aB (fun u=>?_) (fun u=>?_)
 . have u:jW a s.start>s.close:=by simpa using u
   simp only[go_sem];rw[if_pos u,if_pos u];exact .refl _
 . have u:¬jW a s.start>s.close:=by simpa using u
   simp only[go_sem];rw[if_neg u,if_neg u];exact .refl _
end Go.Proofs.YtohmomanmikphaaGreatDoor.Sq
end
