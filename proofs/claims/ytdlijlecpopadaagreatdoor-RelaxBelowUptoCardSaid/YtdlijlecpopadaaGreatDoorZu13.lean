import Derived.Test.YtdlijlecpopadaaGreatDoorZu12
set_option linter.unusedSimpArgs false
set_option linter.unusedVariables false
set_option maxRecDepth 100000
section
namespace Go.Proofs.YtdlijlecpopadaaGreatDoor.Sq
open Go.Proofs.Tryz(prog)
open Go.Aw Go.Aw.D Go.Proofs Ty
open Mv (bZ cQ NC.pc aT)
theorem mE{α:Type}{p:α->Bool}:∀(l:List α) (n:Int),0<=n->decide (nE p l n>=0)=l.any p
 | [],n,_=>rfl
 | a::r,n,hn=>by
   have ih:=mE (p:=p) r (n+1) (by omega);rw[Xar]at ih |-;simp only[decide_eq_true_eq]at ih |-;rw[List.any_cons,Xbc,<-ih];by_cases h:p a=true
   . rw[show nE p (a::r) n=n from if_pos h];exact⟨fun _=>.inl h,fun _=>hn⟩
   . rw[show nE p (a::r) n=nE p r (n+1)from if_neg h];exact⟨fun x=>.inr x,fun x=>x.resolve_left h⟩
theorem Km(l:List Int):(wB l).length=1:=(rfl)
theorem Wz(l:List Int):(wB l).getD 0 .any=.sl (l.map aR):=(rfl)
attribute [go_sem] Km Wz
theorem Cg{g:Nat}{cap:List AV}{p:Visit->Bool}(l:List (Visit))(hl:l.length<=1048576)(Y:aE prog g=true)(hg:∀v∈l,PC prog g (.agg (aK v)::cap) (boo (p v))):
   PC prog 290 [.sl (l.map aK),.fn g cap] (int (nE p l 0)):=by
 refine pcd Tryz.func290 ?_;unfold Tryz.f290;simp only[gdS];simp only[go_sem];refine⟨fun ρ _=>∃k:Nat,k<=l.length/\ρ 0=.sl (l.map aK)/\ρ 1=.fn g cap/\ρ 7=int l.length/\ρ 8=int k/\∀u∈l.take k,p u=false,fun ρ _=>l.length-aX (ρ 8),⟨0,Xab _,rfl,rfl,rfl,rfl,by simp⟩,?_⟩;rintro ρ H ⟨k,hk,h0,h1,J,I,X⟩;simp only[go_sem,h0,h1,J,I];refine aB (fun E=>?_) (fun F=>?_)
 . have E:=aZ E
   obtain⟨u,O⟩:=aQ E;have b1:=inB E;simp only[go_sem,h0,h1,J,I,aH O,b1,Y];refine PC.use (hg u (Xad O)) ?_;simp only[go_sem,h0,h1,J,I];refine aB (fun Z=>?_) (fun Z=>?_)
   . simp only[go_sem,I]
     exact bZ (by rw[lE X O Z];omega)
   . simp only[go_sem,h0,h1,J,I,aS (show k<=4611686018427387904 by omega)]
     exact⟨⟨k+1,E,rfl,aT (p:=fun u=>p u=false) O Z X⟩,by simp only[aG];omega⟩
 . have F:=bD hk F
   subst F;rw[Xaf]at X;simp only[go_sem];exact bZ (by rw[jQ X])
theorem qZ{g:Nat}{cap:List AV}{p:Visit->Bool}(l:List (Visit))(F:l.length<=1048576)(E:aE prog g=true)(I:∀v∈l,PC prog g (.agg (aK v)::cap) (boo (p v))):
   PC prog 249 [.sl (l.map aK),.fn g cap] (boo (l.any p)):=by
 refine pcd Tryz.func249 ?_;unfold Tryz.f249;simp only[gdS];simp only[go_sem];refine PC.use (Cg l F E I) ?_;simp only[go_sem];exact cQ (mE l 0 (Xaj _))
theorem LK{g:Nat}{cap:List AV}{p:List Int->Bool}(l:List (List Int))(hl:l.length<=1048576)(Y:aE prog g=true)(hg:∀v∈l,PC prog g (.sl (v.map aR)::cap) (boo (p v))):
   PC prog 297 [.sl (l.map wB),.fn g cap] (int (nE p l 0)):=by
 refine pcd Tryz.func297 ?_;unfold Tryz.f297;simp only[gdS];simp only[go_sem];refine⟨fun ρ _=>∃k:Nat,k<=l.length/\ρ 0=.sl (l.map wB)/\ρ 1=.fn g cap/\ρ 7=int l.length/\ρ 8=int k/\∀u∈l.take k,p u=false,fun ρ _=>l.length-aX (ρ 8),⟨0,Xab _,rfl,rfl,rfl,rfl,by simp⟩,?_⟩;rintro ρ H ⟨k,hk,h0,h1,J,I,X⟩;simp only[go_sem,h0,h1,J,I];refine aB (fun E=>?_) (fun F=>?_)
 . have E:=aZ E
   obtain⟨u,O⟩:=aQ E;have b1:=inB E;simp only[go_sem,h0,h1,J,I,aH O,b1,Y];refine PC.use (hg u (Xad O)) ?_;simp only[go_sem,h0,h1,J,I];refine aB (fun Z=>?_) (fun Z=>?_)
   . simp only[go_sem,I]
     exact bZ (by rw[lE X O Z];omega)
   . simp only[go_sem,h0,h1,J,I,aS (show k<=4611686018427387904 by omega)]
     exact⟨⟨k+1,E,rfl,aT (p:=fun u=>p u=false) O Z X⟩,by simp only[aG];omega⟩
 . have F:=bD hk F
   subst F;rw[Xaf]at X;simp only[go_sem];exact bZ (by rw[jQ X])
theorem Ek{g:Nat}{cap:List AV}{p:List Int->Bool}(l:List (List Int))(F:l.length<=1048576)(E:aE prog g=true)(I:∀v∈l,PC prog g (.sl (v.map aR)::cap) (boo (p v))):
   PC prog 257 [.sl (l.map wB),.fn g cap] (boo (l.any p)):=by
 refine pcd Tryz.func257 ?_;unfold Tryz.f257;simp only[gdS];simp only[go_sem];refine PC.use (LK l F E I) ?_;simp only[go_sem];exact cQ (mE l 0 (Xaj _))
theorem TL(l:List Visit)(v:Visit)(hl:l.length<=1048576):PC prog 266 [.sl (l.map aK),.agg (aK v)] (int (dT l v)):=by
 refine pcd Tryz.func266 ?_;unfold Tryz.f266;simp only[gdS];simp only[go_sem];refine⟨fun ρ _=>∃k:Nat,k<=l.length/\ρ 0=.sl (l.map aK)/\ρ 3=.rp (aK v) 0/\ρ 7=int l.length/\ρ 8=int k/\∀u∈l.take k,AE v u=false,fun ρ _=>l.length-aX (ρ 8),⟨0,Xab _,rfl,rfl,rfl,rfl,by simp⟩,?_⟩;rintro ρ H ⟨k,hk,h0,Y,O,J,X⟩;simp only[go_sem,h0,Y,O,J];refine aB (fun E=>?_) (fun F=>?_)
 . have E:=aZ E
   obtain⟨u,Z⟩:=aQ E;have b1:=inB E;have su:(v.order == u.order&&(v.drop == u.drop&&true))=AE v u:=by
     unfold AE;rw[show(v.order == u.order)=(u.order == v.order)from Xar.2 (by simp only[Xas];exact eq_comm),show(v.drop == u.drop)=(u.drop == v.drop)from by cases v.drop <;> cases u.drop <;> rfl]
   simp only[go_sem,h0,Y,O,J];refine fV (by rfl) (by kernel_rfl) ?_;simp only[go_sem,h0,Y,O,J,aH Z,b1];refine aB (fun I=>?_) (fun I=>?_)
   . have I:AE v u=true:=by rw[<-su];exact I
     simp only[go_sem,J];exact bZ (by rw[dT,lE X Z I];omega)
   . have I:AE v u=false:=by rw[<-su];exact I
     simp only[go_sem,h0,Y,O,J,aS (show k<=4611686018427387904 by omega)];exact⟨⟨k+1,E,rfl,aT (p:=fun u=>AE v u=false) Z I X⟩,by simp only[aG];omega⟩
 . have F:=bD hk F
   subst F;rw[Xaf]at X;simp only[go_sem];exact bZ (by rw[dT,jQ X])
def inV(l:List Visit)(v:Visit):Bool:=decide (dT l v>=0)
theorem Si(l:List Visit)(v:Visit)(E:l.length<=1048576):PC prog 291 [.sl (l.map aK),.agg (aK v)] (boo (inV l v)):=by
 refine pcd Tryz.func291 ?_;unfold Tryz.f291;simp only[gdS];simp only[go_sem];refine PC.use (TL l v E) ?_;simp only[go_sem];exact .refl _
theorem Bn(l:List Visit)(v:Visit)(E:l.length<=1048576):PC prog 224 [.sl (l.map aK),.agg (aK v)] (int (dT l v)):=by
 refine pcd Tryz.func224 ?_;unfold Tryz.f224;simp only[gdS];simp only[go_sem];refine PC.use (TL l v E) ?_;simp only[go_sem];exact .refl _
def ES(l:List Visit)(o:Int):Bool:=l.any fun v=>v.order == o
theorem amD(o:Int)(v:Visit):PC prog 292 [.agg (aK v),.rp [int o] 0] (boo (v.order == o)):=by
 refine pcd Tryz.func292 ?_;unfold Tryz.f292;simp only[gdS];simp only[go_sem];exact .refl _
theorem VD(o:Int)(v:Visit):PC prog 293 [.agg (aK v),.rp [int o] 0] (boo (v.order == o)):=by
 refine pcd Tryz.func293 ?_;unfold Tryz.f293;simp only[gdS];simp only[go_sem];exact .refl _
theorem To(l:List Visit)(o:Int)(E:l.length<=1048576):PC prog 254 [.sl (l.map aK),int o] (boo (ES l o)):=by
 refine pcd Tryz.func254 ?_;unfold Tryz.f254;simp only[gdS];simp only[go_sem];refine PC.use (qZ (p:=fun v=>v.order == o) l E (by kernel_rfl) (fun v _=>amD o v)) ?_;simp only[go_sem];exact .refl _
theorem Th(l:List Order)(k:Int):PC prog 122 [.sl (l.map bF),int k] (boo (!dF k l.length)):=by
 refine pcd Tryz.func122 ?_;unfold Tryz.f122;simp only[gdS];simp only[go_sem];refine cQ ?_;unfold dF;rw[Xar];simp
theorem BM{α:Type}{p:α->Bool}{l:List α}{k:Nat}{x:α}(F:l[k]?=some x)(E:p x=false):l.all p=false:=by
 rw[List.all_eq_false];exact⟨x,Xad F,by simp[E]⟩
theorem OF{α:Type}{p:α->Bool}{l:List α}(h:∀x∈l.take l.length,p x=true):l.all p=true:=by
 rw[Xaf]at h;rw[Xao];exact h
theorem anT(x:Int):pX .and .i64 x 1=x%2:=by
 have h:((BitVec.ofInt 64 x &&& BitVec.ofInt 64 1).toNat:Int)=x%2:=by
   rw[BitVec.toNat_and,BitVec.toNat_ofInt,BitVec.toNat_ofInt];have:((1:Int)%((2^64:Nat):Int)).toNat=1:=by decide
   rw[this,Nat.and_one_is_mod];omega
 refine Eq.trans (congrArg IntKind.i64.wrap h) ?_;exact aW (by omega)
theorem Gv{a b:Nat}(E:a<2^63)(F:b<2^63):pX .or .i64 (a:Int) (b:Int)=((a ||| b:Nat):Int):=by
 have h:((BitVec.ofInt 64 (a:Int) ||| BitVec.ofInt 64 (b:Int)).toNat:Int)=((a ||| b:Nat):Int):=by
   rw[BitVec.toNat_or,BitVec.toNat_ofInt,BitVec.toNat_ofInt];have h1:((a:Int)%((2^64:Nat):Int)).toNat=a:=by omega
   have I:((b:Int)%((2^64:Nat):Int)).toNat=b:=by omega
   rw[h1,I]
 refine Eq.trans (congrArg IntKind.i64.wrap h) ?_;have:=Xcs E F;exact aW (by omega)
theorem A1{x:Int}{i:Nat}(h:i<=62):shV .shr .i64 x (i:Int)=x/2^i:=by
 show x.fdiv (2^min ((i:Int)).toNat 64)=_;have:min ((i:Int)).toNat 64=i:=by omega
 rw[this,Int.fdiv_eq_ediv_of_nonneg _ (by exact Int.le_of_lt (Int.pow_pos (by decide)))]
theorem C8{i:Nat}(h:i<=62):shV .shl .i64 1 (i:Int)=((2^i:Nat):Int):=by
 show IntKind.i64.wrap (1*2^min ((i:Int)).toNat 64)=_;have:min ((i:Int)).toNat 64=i:=by omega
 rw[this,Int.one_mul];have F:(2:Nat)^i<=2^62:=Xay (by decide) h;have E:((2:Int)^i)=((2^i:Nat):Int):=by norm_cast
 rw[E];generalize 2^i=m at F;exact aW (by omega)
def gL(set i:Int):Bool:=decide (i>=0)&&decide (i<=62)&&((set/2^i.toNat)%2 == 1)
theorem sQ(set i:Int):PC prog 80 [int set,int i] (boo (gL set i)):=by
 refine pcd Tryz.func80 ?_;unfold Tryz.f80;simp only[gdS];simp only[go_sem];refine⟨fun h=>?_,?_⟩
 . simp at h;omega
 . refine cQ ?_
   unfold gL;rw[anT];by_cases h:0<=i/\i<=62
   . obtain⟨h0,h1⟩:=h
     have e:=A1 (x:=set) (i:=i.toNat) (by omega);rw[Int.toNat_of_nonneg h0]at e;rw[e]
   . have:(decide (i>=0)&&decide (i<=62))=false:=by simp;omega
     rw[this];rfl
def Cl(l:List Visit):Nat:=l.foldl (fun s v=>s ||| 2^v.order.toNat) 0
theorem Y8(l:List Visit)(v:Visit):Cl (l++[v])=Cl l ||| 2^v.order.toNat:=by simp[Cl]
theorem adI{m:Nat}(l:List Visit)(h:∀v∈l,v.order.toNat<m):Cl l<2^m:=by
 suffices ∀(l:List Visit) (s:Nat),s<2^m->(∀v∈l,v.order.toNat<m)->l.foldl (fun s v=>s ||| 2^v.order.toNat) s<2^m from this l 0 (Nat.two_pow_pos m) h
 intro l;induction l with
 | nil=>intro s E _;exact E
 | cons v r ih=>
   intro s E h;rw[Xbg];exact ih _ (Xcs E (Xbz (by decide) (h v (by simp)))) fun v F=>h v (by simp[F])
theorem OL(l:List Visit)(i:Nat):(Cl l).testBit i=l.any fun v=>v.order.toNat == i:=by
 suffices ∀(l:List Visit) (s:Nat),(l.foldl (fun s v=>s ||| 2^v.order.toNat) s).testBit i=(s.testBit i||l.any fun v=>v.order.toNat == i)from by
   have:=this l 0;simpa[Cl]using this
 intro l;induction l with
 | nil=>intro s;simp
 | cons v r ih=>
   intro s;rw[Xbg,ih,Nat.testBit_or,Nat.testBit_two_pow,List.any_cons,Bool.or_assoc];rfl
theorem LX{s i:Nat}(h:s.testBit i=true):s ||| 2^i=s:=by
 apply Xct;intro j;rw[Nat.testBit_or,Nat.testBit_two_pow];by_cases e:i=j
 . subst e;simp[h]
 . simp[e]
def okV(v:Visit):Bool:= !(decide (v.order<0)||decide (v.order>62))
def tR(l:List Visit):Int×Int:=if l.all okV then(((Cl l:Nat):Int),0)else(0,2)
theorem WE(r:Route)(hr:r.visits.length<=1048576):PC prog 294 [.agg (dO r)] (.tup [int (tR r.visits).1,int (tR r.visits).2]):=by
 refine pcd Tryz.func294 ?_;unfold Tryz.f294;simp only[gdS];simp only[go_sem];refine⟨fun ρ _=>∃k:Nat,k<=r.visits.length/\ρ 8=.sl (r.visits.map aK)/\ρ 9=int r.visits.length/\ρ 10=int k/\ρ 4=int (Cl (r.visits.take k):Nat)/\∀v∈r.visits.take k,okV v=true,fun ρ _=>r.visits.length-aX (ρ 10),⟨0,Xab _,rfl,rfl,rfl,rfl,by simp⟩,?_⟩;rintro ρ H ⟨k,hk,Z,h9,F,X,hz⟩;simp only[go_sem,Z,h9,F,X];refine aB (fun E=>?_) (fun O=>?_)
 . have E:=aZ E
   obtain⟨v,I⟩:=aQ E;have b1:=inB E;simp only[go_sem,Z,h9,F,X,aH I,b1];refine aN fun j hj=>?_
   simp only[go_sem,Z,h9,F,X,aH I,b1];refine aM (aA _ _ _) (by simp[cL]) ?_;simp only[go_sem,Z,h9,F,X,aH I,b1];refine aB (fun hb=>?_) (fun hb=>?_)
   . simp only[go_sem]
     have:tR r.visits=(0,2):=by unfold tR;rw[BM I (by unfold okV;rw[hb];rfl)];rfl
     rw[this];exact .refl _
   . have aa:okV v=true:=by unfold okV;rw[hb];rfl
     have Y:0<=v.order/\v.order<=62:=by simp[okV]at aa;omega
     have J:Cl (r.visits.take k)<2^63:=adI _ fun v I=>by have:=hz v I;simp[okV]at this;omega
     have e1:=C8 (i:=v.order.toNat) (by omega);rw[Int.toNat_of_nonneg Y.1]at e1;have e2:=Gv (a:=Cl (r.visits.take k)) (b:=2^v.order.toNat) J (Xbz (by decide) (by omega));simp only[go_sem,Z,h9,F,X,aH I,b1,e1,e2,aS (show k<=4611686018427387904 by omega)];refine⟨Y.1,⟨k+1,E,rfl,?_,aT (p:=fun v=>okV v=true) I aa hz⟩,by simp only[aG];omega⟩;rw[bX I,Y8]
 . have O:=bD hk O
   subst O;simp only[go_sem,X];have:tR r.visits=(((Cl r.visits:Nat):Int),0):=by unfold tR;rw[OF hz];rfl
   rw[this,Xaf];exact .refl _
theorem ZR{s i:Nat}(E:s<2^63)(hi:i<63)(h:s.testBit i=false):s ||| 2^i=s+2^i:=by
 have F:2^i<2^63:=Xbz (by decide) hi;have h0:BitVec.ofNat 64 s &&& BitVec.ofNat 64 (2^i)=0#64:=by
   apply BitVec.eq_of_toNat_eq;rw[BitVec.toNat_and,BitVec.toNat_ofNat,BitVec.toNat_ofNat,Xbn (by omega),Xbn (by omega)];apply Xct;intro j;rw[Xcf,Nat.testBit_two_pow];by_cases e:i=j
   . subst e;simp[h]
   . simp[e]
 have h1:=congrArg BitVec.toNat (BitVec.add_eq_or_of_and_eq_zero (BitVec.ofNat 64 s) (BitVec.ofNat 64 (2^i)) h0);rw[BitVec.toNat_add,BitVec.toNat_or,BitVec.toNat_ofNat,BitVec.toNat_ofNat,Xbn (by omega:s<2^64),Xbn (by omega:2^i<2^64),Xbn (by omega)]at h1;exact h1.symm
theorem Di{n:Int}(h:0<=n/\n<18446744073709551616):IntKind.u64.wrap n=n:=Mv.WP h
theorem uT{s:Nat}{i:Int}(h0:0<=i)(h1:i<=62):gL (s:Int) i=s.testBit i.toNat:=by
 rw[Xdh];unfold gL;have E:((2:Int)^i.toNat)=((2^i.toNat:Nat):Int):=by norm_cast
 have:((s:Int)/2^i.toNat)=((s/2^i.toNat:Nat):Int):=by rw[E];rfl
 rw[this];generalize s/2^i.toNat=m;rw[Xar];simp only[Xas,decide_eq_true_eq,Xam];omega
theorem V0{s:Nat}{i:Int}(h0:0<=i)(h1:i<=62):W6 (s:Int) i=s.testBit i.toNat:=by
 rw[<-uT h0 h1];unfold W6 gL;rw[Di (by omega)];obtain⟨n,rfl⟩:=Int.eq_ofNat_of_zero_le h0;rw[A1 (by omega)];have E:((2:Int)^n)=((2^n:Nat):Int):=by norm_cast
 have e:((n:Int)).toNat=n:=Xan n;rw[e];have:((s:Int)/2^n)=((s/2^n:Nat):Int):=by rw[E];rfl
 rw[this];generalize s/2^n=m;rw[Xda (by omega)];rw[Xar];simp only[Xas,decide_eq_true_eq,Xam];omega
theorem ZY{s:Nat}{n:Int}(J:s<2^63)(h0:0<=n)(h1:n<=62):acN (s:Int) n=((s ||| 2^n.toNat:Nat):Int):=by
 unfold acN;rw[V0 h0 h1];cases I:s.testBit n.toNat with
 | true=>rw[if_pos rfl,LX I]
 | false=>
   rw[if_neg (by simp),Di (by omega)];obtain⟨k,rfl⟩:=Int.eq_ofNat_of_zero_le h0;have e:((k:Int)).toNat=k:=Xan k;rw[e]at I |-;have O:2^k<2^63:=Xbz (by decide) (by omega);have E:=ZR J (by omega) I;have F:=Xcs J O;rw[E]at F |-;rw[C8 (by omega),aW (by omega)];omega
theorem Hl{l:List Visit}(h:∀v∈l,GW v=false):akL l=(Cl l:Nat):=by
 suffices ∀(l:List Visit) (s:Nat),s<2^63->(∀v∈l,GW v=false)->l.foldl (fun s v=>acN s v.order) (s:Int)=((l.foldl (fun s v=>s ||| 2^v.order.toNat) s:Nat):Int)from this l 0 (by decide) h
 intro l;induction l with
 | nil=>intro s _ _;rfl
 | cons v r ih=>
   intro s E h;have F:=h v (by simp);unfold GW at F;simp only[Xai,decide_eq_false_iff_not]at F;rw[Xbg,Xbg,ZY E (by omega) (by omega)];exact ih _ (Xcs E (Xbz (by decide) (by omega))) fun u I=>h u (by simp[I])
theorem TF(v:Visit):okV v= !GW v:=rfl
theorem Sa(l:List Visit):tR l=gM l:=by
 unfold tR gM;by_cases h:l.any GW=true
 . rw[if_pos h,if_neg]
   rw[Xao];intro J;obtain⟨v,E,F⟩:=Xau.1 h;have:=J v E;rw[TF,F]at this;cases this
 . have I : ∀ v ∈ l, GW v = false := fun v E => by
     cases F:GW v with
     | false=>rfl
     | true=>exact absurd (Xau.2 ⟨v,E,F⟩) h
   rw[if_neg h,if_pos (Xao.2 fun v E=>by rw[TF,I v E];rfl),Hl I]
theorem Ge(r:Route)(E:r.visits.length<=1048576):PC prog 294 [.agg (dO r)] (.tup [int (gM r.visits).1,int (gM r.visits).2]):=Sa r.visits▸WE r E
def iU(o:Order)(i:Int):List Visit:=(if decide (o.pick.place>=0)=true then[⟨i,false⟩]else[])++(if decide (o.drop.place>=0)=true then[⟨i,true⟩]else[])
def eM(os:List Order)(i:Int):List Visit:=if dF i os.length=true then[]else match os[i.toNat]? with|some o=>iU o i|none=>[]
theorem Og(o:Order)(i:Int):(iU o i).length<=2:=by unfold iU;split <;> split <;> simp
theorem mA(os:List Order)(i:Int):(eM os i).length<=2:=by
 unfold eM;split
 . simp
 . split
   . exact Og _ _
   . simp
theorem nU(os:List Order)(i:Int):PC prog 64 [.sl (os.map bF),int i] (.sl ((eM os i).map aK)):=by
 refine pcb (fun t=>t == 5) Tryz.func64 ?_;unfold Tryz.f64;simp only[gdS];simp only[go_sem];refine aN fun j Z=>?_
 simp only[go_sem];refine PC.use (Th os i) ?_;simp only[go_sem];refine aB (fun h0=>?_) (fun h0=>?_)
 . have J:dF i os.length=true:=by simpa using h0
   simp only[go_sem];rw[eM,if_pos J];exact .refl _
 have J:dF i os.length=false:=by simpa using h0
 have I:0<=i/\i<(os.length:Int):=by simp only[dF,Xai,decide_eq_false_iff_not]at J;omega
 obtain⟨o,E⟩:=aQ (show i.toNat<os.length by omega);rw[eM,if_neg (by rw[J];simp),E];simp only[go_sem,aH E,I];refine aB (fun h1=>?_) (fun h1=>?_)
 . simp only[go_sem,aH E,I]
   refine bG (aA _ _ _) ⟨rfl,rfl⟩ ⟨rfl,trivial⟩ (by simp) (fun j' Y=>?_);simp only[go_sem,aH E,I];refine aB (fun F=>?_) (fun F=>?_)
   . simp only[go_sem,aH E,I]
     refine bG (aA _ _ _) ⟨rfl,rfl⟩ ⟨rfl,trivial⟩ (by simp) (fun X O=>?_);simp only[go_sem];have e:iU o i=[⟨i,false⟩,⟨i,true⟩]:=by unfold iU;rw[if_pos h1,if_pos F];rfl
     rw[e];exact .row _ _ _ (aA _ _ _) (ConvE.refl _)
   . simp only[go_sem]
     have e:iU o i=[⟨i,false⟩]:=by unfold iU;rw[if_pos h1,if_neg (by rw[F];simp)];rfl
     rw[e];exact .row _ _ _ (aA _ _ _) (ConvE.refl _)
 . simp only[go_sem,aH E,I]
   refine aB (fun F=>?_) (fun F=>?_)
   . simp only[go_sem,aH E,I]
     refine bG (aA _ _ _) ⟨rfl,rfl⟩ ⟨rfl,trivial⟩ (by simp) (fun X O=>?_);simp only[go_sem];have e:iU o i=[⟨i,true⟩]:=by unfold iU;rw[if_neg (by rw[h1];simp),if_pos F];rfl
     rw[e];exact .row _ _ _ (aA _ _ _) (ConvE.refl _)
   . simp only[go_sem]
     have e:iU o i=[]:=by unfold iU;rw[if_neg (by rw[h1];simp),if_neg (by rw[F];simp)];rfl
     rw[e];exact .row _ _ _ (aA _ _ _) (ConvE.refl _)
def tN(l:List Visit)(i:Nat):Bool:=decide (dT (l.take i) (l.getD i ⟨0,false⟩)>=0)
theorem GI:∀l:List Visit,cZ 2 (l.map aK)
 | []=>trivial
 | _::r=>⟨rfl,GI r⟩
theorem adT(l:List Visit)(hl:l.length<=1048576):PC prog 252 [.sl (l.map aK)] (boo ((List.range l.length).any (tN l))):=by
 refine pcd Tryz.func252 ?_;unfold Tryz.f252;simp only[gdS];simp only[go_sem];refine⟨fun ρ _=>∃k:Nat,k<=l.length/\ρ 0=.sl (l.map aK)/\ρ 5=.sl (l.map aK)/\ρ 6=int l.length/\ρ 7=int k/\∀c∈(List.range l.length).take k,tN l c=false,fun ρ _=>l.length-aX (ρ 7),⟨0,Xab _,rfl,rfl,rfl,rfl,by simp⟩,?_⟩;rintro ρ H ⟨k,hk,h0,J,I,F,hz⟩;simp only[go_sem,h0,J,I,F];refine aB (fun E=>?_) (fun X=>?_)
 . have E:=aZ E
   obtain⟨v,hv⟩:=aQ E;have b1:=inB E;simp only[go_sem,h0,J,I,F,aH hv,b1];refine aN fun Z Y=>?_
   simp only[go_sem,h0,J,I,F];refine aM (aA _ _ _) (by simp[cL]) ?_;generalize O:aI (aI _ Z _) Z _=HGi4;have R4:HGi4 Z=some (⟨97,2,[aK v]⟩):=by rw[<-O,aA];try rfl
   clear O Y;simp only[go_sem,h0,J,I,F,R4];refine dP [Z] [(0,true),(1,true),(2,true),(3,true),(4,true),(5,true)] (by simp[R4]) (by kernel_rfl) fun Hp Hr hp hr _ aa=>?_
   have P4:=(hp Z (by simp)).trans R4;simp only[go_sem,h0,J,I,F,P4,<-List.map_take];refine⟨by omega,_,(Bn (l.take k) v (by simp;omega)).q rfl,?_⟩;simp only[go_sem,h0,J,I,F,P4];refine jX fun _ Hm _ _=>?_
   simp only[go_sem,h0,J,I,F];have ed:tN l k=decide (dT (l.take k) v>=0):=by simp[tN,List.getD,hv]
   refine aB (fun hb=>?_) (fun hb=>?_)
   . simp only[go_sem]
     exact cQ (Xau.2 ⟨k,Xap.2 E,ed.trans hb⟩).symm
   . simp only[go_sem,h0,J,I,F,aS (show k<=4611686018427387904 by omega)]
     exact⟨⟨k+1,E,rfl,aT (p:=fun c=>tN l c=false) (pV E) (ed.trans hb) hz⟩,by simp only[aG];omega⟩
 . have X:=bD hk X
   subst X;simp only[go_sem];refine cQ ?_
   symm
   rw[Xby];intro c hc;rw[hz c (by rw[Xaw (by simp)];exact hc)];simp
def yJ(l:List Visit):List Visit->Int->Bool
 | [],_=>true
 | w::r,last=>decide (dT l w>last)&&yJ l r (dT l w)
def yZ(os:List Order)(l:List Visit)(v:Visit):Bool:=inV (eM os v.order) v&&yJ l (eM os v.order) (-1)
theorem ML{α:Type}{l:List α}{k:Nat}{x:α}(h:l[k]?=some x):l.drop k=x::l.drop (k+1):=by
 obtain⟨E,rfl⟩:=List.getElem?_eq_some_iff.1 h;exact Xcp E
theorem YZ(x:Instance)(l:List Visit)(hl:l.length<=1048576):PC prog 253 [.agg (aL x),.sl (l.map aK)] (boo (l.all (yZ x.orders l))):=by
 refine pcd Tryz.func253 ?_;unfold Tryz.f253;simp only[gdS];simp only[go_sem];refine⟨fun ρ _=>∃k:Nat,k<=l.length/\ρ 1=.sl (l.map aK)/\ρ 2=.rp (aL x) 0/\ρ 12=.sl (l.map aK)/\ρ 13=int l.length/\ρ 14=int k/\∀v∈l.take k,yZ x.orders l v=true,fun ρ _=>l.length-aX (ρ 14),⟨0,Xab _,rfl,rfl,rfl,rfl,rfl,by simp⟩,?_⟩;rintro ρ H ⟨k,hk,h1,J,E,F,I,hz⟩;simp only[go_sem,h1,J,E,F,I];refine aB (fun ab=>?_) (fun ag=>?_)
 . have ab:=aZ ab
   obtain⟨v,hv⟩:=aQ ab;have b1:=inB ab;simp only[go_sem,h1,J,E,F,I,aH hv,b1];refine aN fun i6 ai=>?_
   simp only[go_sem,h1,J,E,F,I];refine aM (aA _ _ _) (by simp[cL]) ?_;generalize ad:aI (aI _ i6 _) i6 _=HGi6;have R6:HGi6 i6=some (⟨97,2,[aK v]⟩):=by rw[<-ad,aA];try rfl
   clear ad ai;simp only[go_sem,h1,J,E,F,I,R6];refine PC.use (nU x.orders v.order) ?_;have ak:=mA x.orders v.order;simp only[go_sem,h1,J,E,F,I,R6];refine PC.use (Si (eM x.orders v.order) v (by omega)) ?_;simp only[go_sem,h1,J,E,F,I,R6];refine aB (fun hb=>?_) (fun hb=>?_)
   . simp only[go_sem]
     refine cQ ?_
     symm
     exact BM hv (by unfold yZ;rw[show inV (eM x.orders v.order) v=false by simpa using hb];rfl)
   have ah:inV (eM x.orders v.order) v=true:=by simpa using hb
   simp only[go_sem,h1,J,E,F,I,R6];refine⟨fun ρ _=>∃(m:Nat) (last:Int),m<=(eM x.orders v.order).length/\ρ 1=.sl (l.map aK)/\ρ 2=.rp (aL x) 0/\ρ 12=.sl (l.map aK)/\ρ 13=int l.length/\ρ 14=int k/\ρ 27=.sl ((eM x.orders v.order).map aK)/\ρ 28=int (eM x.orders v.order).length/\ρ 29=int m/\ρ 8=int last/\yJ l (eM x.orders v.order) (-1)=yJ l ((eM x.orders v.order).drop m) last,fun ρ _=>(eM x.orders v.order).length-aX (ρ 29),
     ⟨0,-1,Xab _,by simp only[go_sem,h1],by simp only[go_sem,J],by simp only[go_sem,E],by simp only[go_sem,F],by simp only[go_sem,I],by simp only[go_sem],by simp only[go_sem,Xaa],by simp only[go_sem];rfl,by simp only[go_sem],rfl⟩,?_⟩
   clear h1 J E F I R6;rintro ρ H ⟨m,last,hm,h1,J,E,F,I,Z,Y,X,h8,he⟩;simp only[go_sem,h1,J,E,F,I,Z,Y,X,h8];refine aB (fun O=>?_) (fun ac=>?_)
   . have O:=aZ O
     obtain⟨w,hw⟩:=aQ O;have b2:=inB O;simp only[go_sem,h1,J,E,F,I,Z,Y,X,h8,aH hw,b2];refine aN fun af ae=>?_
     simp only[go_sem,h1,J,E,F,I,Z,Y,X,h8];refine aM (aA _ _ _) (by simp[cL]) ?_;generalize aa:aI (aI _ af _) af _=HGi10;have aj:HGi10 af=some (⟨97,2,[aK w]⟩):=by rw[<-aa,aA];try rfl
     clear aa ae;simp only[go_sem,h1,J,E,F,I,Z,Y,X,h8,aj];refine PC.use (Bn l w hl) ?_;simp only[go_sem,h1,J,E,F,I,Z,Y,X,h8,aj];rw[ML hw]at he;refine aB (fun hb=>?_) (fun hb=>?_)
     . simp only[go_sem]
       refine cQ ?_
       symm
       refine BM hv ?_;unfold yZ;rw[ah,he,yJ];have:decide (dT l w>last)=false:=by simp at hb |-;exact hb
       rw[this];rfl
     . simp only[go_sem,h1,J,E,F,I,Z,Y,X,h8,aS (show m<=4611686018427387904 by omega)]
       refine⟨⟨m+1,_,O,rfl,rfl,?_⟩,by simp only[aG];omega⟩;rw[he,yJ];have:decide (dT l w>last)=true:=by simp at hb |-;exact hb
       rw[this];rfl
   . have ac:=bD hm ac
     subst ac;rw[List.drop_length,yJ]at he;simp only[go_sem,h1,J,E,F,I,aS (show k<=4611686018427387904 by omega)];exact⟨⟨k+1,ab,rfl,aT (p:=fun v=>yZ x.orders l v=true) hv (by unfold yZ;rw[ah,he];rfl) hz⟩,by simp only[aG];omega⟩
 . have ag:=bD hk ag
   subst ag;simp only[go_sem];exact cQ (OF hz).symm
def Vu(l:List Visit)(a b:Int):Bool:=decide (nE (fun v:Visit=>v.order == b) l 0<0)||(ES l a&& !ES (l.drop (nE (fun v:Visit=>v.order == b) l 0).toNat) a)
theorem Uk{α:Type}{p:α->Bool}:∀(l:List α) (n:Int),nE p l n<n+l.length\/nE p l n= -1
 | [],n=>.inr rfl
 | a::r,n=>by
   unfold nE;split
   . left;simp;omega
   . rcases Uk (p:=p) r (n+1)with h|h
     . left;simp;omega
     . right;exact h
theorem Ym(l:List Visit)(a b:Int)(F:l.length<=1048576):PC prog 255 [.sl (l.map aK),int a,int b] (boo (Vu l a b)):=by
 refine pcd Tryz.func255 ?_;unfold Tryz.f255;simp only[gdS];simp only[go_sem];refine PC.use (Cg (p:=fun v=>v.order == b) l F (by simp only[go_sem]) fun v _=>VD b v) ?_;simp only[go_sem];have hi:=Uk (p:=fun v:Visit=>v.order == b) l 0;generalize J:nE (fun v:Visit=>v.order == b) l 0=I at hi;refine aB (fun h0=>?_) (fun h0=>?_)
 . simp only[go_sem]
   refine cQ ?_;unfold Vu;rw[J,h0];rfl
 . have E:0<=I:=by simp at h0;exact h0
   simp only[go_sem];refine PC.use (To l a F) ?_;simp only[go_sem,<-List.map_drop];refine⟨fun _=>⟨⟨E,by omega⟩,GI l⟩,_,fun _=>(To (l.drop I.toNat) a (by simp;omega)).q rfl,?_⟩;simp only[go_sem];refine cQ ?_;unfold Vu;rw[J,h0];rfl
theorem Yu(x:Instance)(v:Visit):PC prog 250 [.agg (aK v),.rp (aL x) 0] (boo (dF v.order x.orders.length)):=by
 refine pcd Tryz.func250 ?_;unfold Tryz.f250;simp only[gdS];simp only[go_sem];exact .refl _
theorem aaT(x:Instance)(v:Visit)(h:dF v.order x.orders.length=false):PC prog 251 [.agg (aK v),.rp (aL x) 0] (boo (IG x v.order)):=by
 have F:0<=v.order/\v.order<(x.orders.length:Int):=by simp only[dF,Xai,decide_eq_false_iff_not]at h;omega
 obtain⟨o,E⟩:=aQ (show v.order.toNat<x.orders.length by omega);refine pcd Tryz.func251 ?_;unfold Tryz.f251;simp only[gdS];simp only[go_sem];simp only[go_sem,aH E,F];exact cQ (by unfold IG;rw[E])
def sI(x:Instance)(l:List Visit):Int:=
 if((l.length:Int) == 0||l.any fun v=>dF v.order x.orders.length)=true then 2
 else if(l.any fun v=>IG x v.order)=true then 9
 else if((List.range l.length).any (tN l))=true then 6
 else if(!l.all (yZ x.orders l))=true then 19
 else if(x.apart.any fun q=>ES l q.a&&ES l q.b)=true then 20
 else if(x.before.any fun q=> !Vu l q.a q.b)=true then 21 else 0
theorem FB(x:Instance)(r:Route)(hl:r.visits.length<=1048576)(ha:x.apart.length<=1048576)(hb:x.before.length<=1048576):PC prog 216 [.agg (aL x),.agg (dO r)] (int (sI x r.visits)):=by
 refine pcd Tryz.func216 ?_;unfold Tryz.f216;simp only[gdS];simp only[go_sem];refine⟨_,fun _=>(qZ (p:=fun v=>dF v.order x.orders.length) r.visits hl (by simp only[go_sem]) fun v _=>Yu x v).q rfl,?_⟩;simp only[go_sem];refine aB (fun c1=>?_) (fun c1=>?_)
 . simp only[go_sem]
   exact bZ (by unfold sI;rw[if_pos c1])
 have ag:∀v∈r.visits,dF v.order x.orders.length=false:=fun v hv=>by
   rw[Xai]at c1;have:=Xby.1 c1.2 v hv;simpa using this
 have c1:¬((r.visits.length:Int) == 0||r.visits.any fun v=>dF v.order x.orders.length)=true:=by rw[c1];simp
 simp only[go_sem];refine PC.use (qZ (p:=fun v=>IG x v.order) r.visits hl (by simp only[go_sem]) fun v hv=>aaT x v (ag v hv)) ?_;simp only[go_sem];refine aB (fun c2=>?_) (fun c2=>?_)
 . simp only[go_sem]
   exact bZ (by unfold sI;rw[if_neg c1,if_pos c2])
 have c2:¬(r.visits.any fun v=>IG x v.order)=true:=by rw[c2];simp
 simp only[go_sem];refine PC.use (adT r.visits hl) ?_;simp only[go_sem];refine aB (fun c3=>?_) (fun c3=>?_)
 . simp only[go_sem]
   exact bZ (by unfold sI;rw[if_neg c1,if_neg c2,if_pos c3])
 have c3:¬((List.range r.visits.length).any (tN r.visits))=true:=by rw[c3];simp
 simp only[go_sem];refine PC.use (YZ x r.visits hl) ?_;simp only[go_sem];refine aB (fun c4=>?_) (fun c4=>?_)
 . simp only[go_sem]
   exact bZ (by unfold sI;rw[if_neg c1,if_neg c2,if_neg c3,if_pos c4])
 have c4:¬(!r.visits.all (yZ x.orders r.visits))=true:=by rw[c4];simp
 simp only[go_sem];refine⟨fun ρ _=>∃k:Nat,k<=x.apart.length/\ρ 2=.rp (aL x) 0/\ρ 5=.sl (r.visits.map aK)/\ρ 33=.sl (x.apart.map dC)/\ρ 34=int x.apart.length/\ρ 35=int k/\∀q∈x.apart.take k,(ES r.visits q.a&&ES r.visits q.b)=false,fun ρ _=>x.apart.length-aX (ρ 35),⟨0,Xab _,by simp only[go_sem],by simp only[go_sem],by simp only[go_sem],by simp only[go_sem],by simp only[go_sem];rfl,by simp⟩,?_⟩;rintro ρ H ⟨k,hk,h2,O,J,F,I,hz⟩;simp only[go_sem,h2,O,J,F,I];refine aB (fun E=>?_) (fun Y=>?_)
 . have E:=aZ E
   obtain⟨q,hq⟩:=aQ E;have b1:=inB E;simp only[go_sem,h2,O,J,F,I,aH hq,b1];refine aN fun i7 ae=>?_
   simp only[go_sem,h2,O,J,F,I];refine aM (aA _ _ _) (by simp[mB]) ?_;generalize ad:aI (aI _ i7 _) i7 _=HGi7;have R7:HGi7 i7=some (⟨192,2,[dC q]⟩):=by rw[<-ad,aA];try rfl
   clear ad ae;simp only[go_sem,h2,O,J,F,I,R7];refine⟨by decide,PC.use (To r.visits q.a hl) ?_⟩;simp only[go_sem,h2,O,J,F,I,R7];refine⟨fun _=>by decide,_,fun _=>(To r.visits q.b hl).q rfl,?_⟩;simp only[go_sem,h2,O,J,F,I];refine aB (fun X=>?_) (fun X=>?_)
   . simp only[go_sem]
     exact bZ (by unfold sI;rw[if_neg c1,if_neg c2,if_neg c3,if_neg c4,if_pos (Xau.2 ⟨q,Xad hq,X⟩)])
   . simp only[go_sem,h2,O,J,F,I,aS (show k<=4611686018427387904 by omega)]
     exact⟨⟨k+1,E,rfl,aT (p:=fun q:Pair=>(ES r.visits q.a&&ES r.visits q.b)=false) hq X hz⟩,by simp only[aG];omega⟩
 have Y:=bD hk Y;subst Y;rw[Xaf]at hz;have c5:¬(x.apart.any fun q=>ES r.visits q.a&&ES r.visits q.b)=true:=by rw[Bj hz];simp
 simp only[go_sem,h2,O];refine⟨fun ρ _=>∃k:Nat,k<=x.before.length/\ρ 5=.sl (r.visits.map aK)/\ρ 51=.sl (x.before.map dC)/\ρ 52=int x.before.length/\ρ 53=int k/\∀q∈x.before.take k,(!Vu r.visits q.a q.b)=false,fun ρ _=>x.before.length-aX (ρ 53),⟨0,Xab _,by simp only[go_sem,O],by simp only[go_sem],by simp only[go_sem],by simp only[go_sem];rfl,by simp⟩,?_⟩;clear h2 O J F I hz hk;rintro ρ H ⟨k,hk,O,aa,Z,ab,hz⟩;simp only[go_sem,O,aa,Z,ab];refine aB (fun E=>?_) (fun Y=>?_)
 . have E:=aZ E
   obtain⟨q,hq⟩:=aQ E;have b1:=inB E;simp only[go_sem,O,aa,Z,ab,aH hq,b1];refine aN fun i9 af=>?_
   simp only[go_sem,O,aa,Z,ab];refine aM (aA _ _ _) (by simp[mB]) ?_;generalize ac:aI (aI _ i9 _) i9 _=HGi9;have R9:HGi9 i9=some (⟨192,2,[dC q]⟩):=by rw[<-ac,aA];try rfl
   clear ac af;simp only[go_sem,O,aa,Z,ab,R9];refine⟨by decide,⟨by decide,PC.use (Ym r.visits q.a q.b hl) ?_⟩⟩;simp only[go_sem,O,aa,Z,ab];refine aB (fun X=>?_) (fun X=>?_)
   . simp only[go_sem]
     exact bZ (by unfold sI;rw[if_neg c1,if_neg c2,if_neg c3,if_neg c4,if_neg c5,if_pos (Xau.2 ⟨q,Xad hq,X⟩)])
   . simp only[go_sem,O,aa,Z,ab,aS (show k<=4611686018427387904 by omega)]
     exact⟨⟨k+1,E,rfl,aT (p:=fun q:Pair=>(!Vu r.visits q.a q.b)=false) hq X hz⟩,by simp only[aG];omega⟩
 have Y:=bD hk Y;subst Y;rw[Xaf]at hz;simp only[go_sem];exact bZ (by unfold sI;rw[if_neg c1,if_neg c2,if_neg c3,if_neg c4,if_neg c5,if_neg (by rw[Bj hz];simp)])
def dD(x:Instance)(v:Visit):Stop×Int:=if(fP x v).2=true then((fP x v).1,0)else(kC,if dF v.order x.orders.length=true then 2 else 19)
theorem EB(x:Instance)(v:Visit):PC prog 91 [.sl (x.orders.map bF),.agg (aK v)] (.tup [.agg (dZ (dD x v).1),int (dD x v).2]):=by
 refine pcd Tryz.func91 ?_;unfold Tryz.f91;simp only[gdS];simp only[go_sem];refine aN fun i4 ac=>?_
 generalize O:aI _ i4 _=HGi4;have F:HGi4 i4=some (tX kC):=by rw[<-O,aA];try rfl
 clear O ac;simp only[go_sem,F];refine PC.use (Th x.orders v.order) ?_;simp only[go_sem];refine aB (fun h1=>?_) (fun h1=>?_)
 . have h1:dF v.order x.orders.length=true:=by simpa using h1
   have e:dD x v=(kC,2):=by unfold dD fP;rw[if_pos h1,if_pos h1];rfl
   rw[e];simp only[go_sem];refine aM F (by simp) ?_;simp only[go_sem];exact .refl _
 have h1:dF v.order x.orders.length=false:=by simpa using h1
 have aa:0<=v.order/\v.order<(x.orders.length:Int):=by
   simp only[dF,Xai,decide_eq_false_iff_not]at h1;omega
 obtain⟨o,ho⟩:=aQ (show v.order.toNat<x.orders.length by omega);have e0:fP x v=(qS o v,decide ((qS o v).place>=0)):=by unfold fP;rw[if_neg (by rw[h1];simp),ho]
 have e:dD x v=if(qS o v).place<0 then(kC,19)else(qS o v,0):=by
   unfold dD;rw[e0,if_neg (show ¬dF v.order x.orders.length=true by rw[h1];simp)];by_cases h:(qS o v).place<0
   . rw[if_pos h,if_neg (by simp;omega)]
   . rw[if_neg h,if_pos (by simp;omega)]
 rw[e];simp only[go_sem,aH ho,aa];refine aN fun Z J=>?_
 have E:i4≠Z:=aO F J;simp only[go_sem,F];refine aM (aA _ _ _) (by simp[kA]) ?_;generalize I:aI (aI _ Z _) Z _=HGi6;replace F:=(congrFun I.symm i4).trans ((aD _ _ _ _ E).trans ((aD _ _ _ _ E).trans F));have Y:HGi6 Z=some (tX o.pick):=by rw[<-I,aA];try rfl
 clear I J;simp only[go_sem,Y,F];refine bH (fun ab H'=>ab 4=.op i4 0 0/\ab 6=.op Z 0 0/\H' i4=some (tX kC)/\H' Z=some (tX (qS o v))) ?_ fun K hK=>aB (fun hb=>?_) (fun hb=>?_)
 . clear F Y
   rintro ρ H ⟨h4,h6,F,Y⟩;simp only[go_sem,h4,h6,Y];refine aB (fun X=>?_) (fun X=>?_)
   . have X:(qS o v).place<0:=by simpa using X
     rw[if_pos X];simp only[go_sem,h4];refine aM F (by simp) ?_;simp only[go_sem,h4];exact .refl _
   . have X:¬(qS o v).place<0:=by simpa using X
     rw[if_neg X];simp only[go_sem,h4,h6,Y];refine aM F (by simp[kA]) ?_;simp only[go_sem,h4];exact .refl _
 . simp only[go_sem,aH ho,aa]
   refine aM Y (by simp[kA]) ?_;simp only[go_sem];refine hK _ _ ⟨by simp only[go_sem],by simp only[go_sem],by rw[aD _ _ _ _ E];exact F,?_⟩;rw[aA,qS,if_pos hb];rfl
 . simp only[go_sem]
   refine hK _ _ ⟨by simp only[go_sem],by simp only[go_sem],F,?_⟩;rw[qS,if_neg (by rw[hb];simp)];exact Y
def tD(set:Int)(k:Nat):List Int:=((List.range k).filter fun i:Nat=>gL set (i:Int)).map fun i:Nat=>(i:Int)
def iS(set:Int):List Int:=tD set 63
theorem uZ(set:Int)(k:Nat):tD set (k+1)=tD set k++(if gL set (k:Int)=true then[(k:Int)]else[]):=by
 unfold tD;rw[Xbx,List.filter_append,Xat];by_cases h:gL set (k:Int)=true
 . simp[h]
 . simp[h]
theorem Cj(set:Int)(k:Nat):(tD set k).length<=k:=by
 unfold tD;rw[Xaa];exact Xah (Xcu _ _) (by simp)
theorem Df(set:Int):PC prog 63 [int set] (.sl ((iS set).map aR)):=by
 refine pcb (fun t=>t == 3) Tryz.func63 ?_;unfold Tryz.f63;simp only[gdS];simp only[go_sem];refine aN fun j Y=>?_
 simp only[go_sem];refine⟨fun ρ H=>∃k:Nat,k<=63/\ρ 0=int set/\ρ 5=int k/\∃j,ρ 3=.os j/\H j=some (zK (tD set k)),fun ρ _=>63-aX (ρ 5),⟨0,Xab _,rfl,rfl,j,rfl,aA _ _ _⟩,?_⟩;clear Y;rintro ρ H ⟨k,hk,h0,J,j,I,R⟩;simp only[go_sem,h0,J,I];refine aB (fun E=>?_) (fun F=>?_)
 . have E:k<63:=by simp at E;omega
   simp only[go_sem,h0,J,I];refine PC.use (sQ set k) ?_;simp only[go_sem,h0,J,I];refine aB (fun O=>?_) (fun O=>?_)
   . simp only[go_sem,h0,J,I]
     refine bG R ⟨rfl,rfl⟩ ⟨rfl,trivial⟩ (by have:=Cj set k;simp;omega) (fun X Z=>?_);simp only[go_sem,h0,J,I,aS (show k<=4611686018427387904 by omega)];refine⟨⟨k+1,E,rfl,X,rfl,?_⟩,by simp only[aG];omega⟩;rw[uZ,if_pos O];exact gR (l':=[(k:Int)]) rfl
   . simp only[go_sem,h0,J,I,aS (show k<=4611686018427387904 by omega)]
     refine⟨⟨k+1,E,rfl,j,rfl,?_⟩,by simp only[aG];omega⟩;rw[uZ,if_neg (by rw[O];simp),Xal];exact R
 . have F:k=63:=by simp at F;omega
   subst F;simp only[go_sem,I];exact .row _ _ _ R (ConvE.refl _)
def akP(a b:Int):Int:=W (a+b)
def X5(a b:Int):Int:=W (a-b)
theorem amZ(a b:Int):PC prog 190 [int a,int b] (int (akP a b)):=by
 refine pcd Tryz.func190 ?_;unfold Tryz.f190;simp only[gdS];simp only[go_sem];exact .refl _
theorem EA(a b:Int):PC prog 191 [int a,int b] (int (X5 a b)):=by
 refine pcd Tryz.func191 ?_;unfold Tryz.f191;simp only[gdS];simp only[go_sem];exact .refl _
theorem abR{α:Type}{l:List α}{k n:Nat}{x z:α}(F:l.length=n)(h:l[k]?=some x):(l.take k++List.replicate (n-k) z).set k x=l.take (k+1)++List.replicate (n-(k+1)) z:=by
 have E:=(List.getElem?_eq_some_iff.1 h).1;have e:n-k=(n-(k+1))+1:=by omega
 rw[bX h,e,List.replicate_succ,List.set_append_right _ _ (by simp;omega)];have:k-(l.take k).length=0:=by simp;omega
 rw[this,List.set_cons_zero];simp
theorem JO{g:Nat}{op:Int->Int->Int}(a b:List Int)(hl:a.length<=1048576)(aa:a.length=b.length)(ab:aE prog g=true)(hg:∀p q,PC prog g [int p,int q] (int (op p q))):
   NC prog 189 [.sl (a.map aR),.sl (b.map aR),.v (.func (.func g) #[] #[])] (zK (List.zipWith op a b)) (fun j=>.tup [.os j,int 0]):=by
 have Z:(List.zipWith op a b).length=a.length:=by rw[List.length_zipWith,<-aa,Nat.min_self]
 refine ncb (fun _=>false) Tryz.func189 ?_;unfold Tryz.f189;simp only[gdS];simp only[go_sem];refine aB (fun hb=>by rw[aa]at hb;simp at hb) (fun _=>?_);simp only[go_sem];refine⟨⟨by omega,by omega⟩,aN fun j hj=>?_⟩;simp only[go_sem];refine⟨fun ρ H=>∃k:Nat,k<=a.length/\ρ 0=.sl (a.map aR)/\ρ 1=.sl (b.map aR)/\ρ 2=.v (.func (.func g) #[] #[])/\ρ 8=.os j/\ρ 19=int a.length/\ρ 20=int k/\H j=some (zK ((List.zipWith op a b).take k++List.replicate (a.length-k) 0)),fun ρ _=>a.length-aX (ρ 20),⟨0,Xab _,rfl,rfl,rfl,rfl,by simp only[go_sem,Xaa],rfl,?_⟩,?_⟩
 . rw[aA]
   simp[zK,List.map_replicate,aR]
 clear hj;rintro ρ H ⟨k,hk,h0,h1,Y,X,I,F,R⟩;simp only[go_sem,h0,h1,Y,X,I,F];refine aB (fun E=>?_) (fun O=>?_)
 . have E:=aZ E
   obtain⟨p,hp⟩:=aQ E;obtain⟨q,hq⟩:=aQ (show k<b.length by omega);have b1:=inB E;have b2:=inB (show k<b.length by omega);simp only[go_sem,h0,h1,Y,X,I,F];refine lO [(0,true),(1,true),(2,true),(3,true),(4,true),(5,true),(6,true),(7,true),(8,false),(9,false),(10,false),(11,false),(12,false),(13,false)] (by kernel_rfl) ?_;simp only[go_sem,h0,h1,Y,X,I,F,aH hp,aH hq,b1,b2,ab];refine PC.use (hg p q) ?_;have J:((List.zipWith op a b).take k++List.replicate (a.length-k) 0:List Int).length=a.length:=by simp[Z];omega
   simp only[go_sem,h0,h1,Y,X,I,F,R];refine⟨⟨b1.1,by rw[J];exact b1.2⟩,cE so3 R (by rw[Xaa,J];exact⟨E,rfl,Xag 1⟩) ?_⟩;have hz:(List.zipWith op a b)[k]?=some (op p q):=by rw[List.getElem?_zipWith,hp,hq]
   have ac:k<((List.zipWith op a b).take k++List.replicate (a.length-k) 0:List Int).length:=by omega
   obtain⟨y,hy⟩:=aQ ac;have hs:=abR (n:=a.length) (z:=(0:Int)) Z hz;simp only[go_sem,h0,h1,Y,X,I,F,aH hy,aS (show k<=4611686018427387904 by omega)];refine⟨⟨k+1,E,rfl,?_⟩,by simp only[aG];omega⟩;rw[<-hs];show _=some (⟨3,1,_⟩:Row);rw[List.map_set];rfl
 . have O:=bD hk O
   subst O;simp only[go_sem,X];refine⟨j,rfl,?_⟩;rw[R,Xaw (by omega)];simp
def pC(a b:List Int):List Int:=List.zipWith akP a b
def rS(a b:List Int):List Int:=List.zipWith X5 a b
theorem Xg(a b:List Int)(F:a.length<=1048576)(E:a.length=b.length):NC prog 149 [.sl (a.map aR),.sl (b.map aR)] (zK (pC a b)) (fun j=>.tup [.os j,int 0]):=by
 refine ncb (fun _=>false) Tryz.func149 ?_;unfold Tryz.f149;simp only[gdS];simp only[go_sem];refine NC.use (JO a b F E (by simp only[go_sem]) amZ) fun j I=>?_
 simp only[go_sem];exact⟨j,rfl,aA _ _ _⟩
theorem akH(a b:List Int)(F:a.length<=1048576)(E:a.length=b.length):NC prog 150 [.sl (a.map aR),.sl (b.map aR)] (zK (rS a b)) (fun j=>.tup [.os j,int 0]):=by
 refine ncb (fun _=>false) Tryz.func150 ?_;unfold Tryz.f150;simp only[gdS];simp only[go_sem];refine NC.use (JO a b F E (by simp only[go_sem]) EA) fun j I=>?_
 simp only[go_sem];exact⟨j,rfl,aA _ _ _⟩
theorem NC.pc2{f:FuncId}{args:List AV}{r:Row}{y:AV}(h:NC prog f args r (fun j=>.tup [.os j,y])):PC prog f args (.tup [.sl r.es,y]):=
 RC.conv (RC.mono h fun x H' ⟨k,E,F⟩=>by rw[E];exact .tup _ _ (.cons _ _ _ _ (.row _ _ _ F (ConvE.refl _)) (ConvL.refl _)))
theorem Kn(a c:List Int)(hl:a.length<=1048576):PC prog 97 [.sl (a.map aR),.sl (c.map aR)] (boo (fE a c)):=by
 refine pcd Tryz.func97 ?_;unfold Tryz.f97;simp only[gdS];simp only[go_sem];refine aB (fun Z=>?_) (fun Z=>?_)
 . simp only[go_sem]
   refine cQ ?_;unfold fE;have:((a.length:Int) == (c.length:Int))=false:=by simpa[bne]using Z
   rw[this];rfl
 have Y:a.length=c.length:=by simp[bne]at Z;omega
 simp only[go_sem];refine⟨fun ρ _=>∃k:Nat,k<=a.length/\ρ 1=.sl (c.map aR)/\ρ 12=.sl (a.map aR)/\ρ 13=int a.length/\ρ 14=int k/\∀i∈(List.range a.length).take k,decide (a.getD i 0>c.getD i 0)=false,fun ρ _=>a.length-aX (ρ 14),⟨0,Xab _,rfl,rfl,by simp only[go_sem,Xaa],rfl,by simp⟩,?_⟩;rintro ρ H ⟨k,hk,h1,J,I,O,hz⟩;simp only[go_sem,h1,J,I,O];refine aB (fun E=>?_) (fun F=>?_)
 . have E:=aZ E
   obtain⟨p,hp⟩:=aQ E;obtain⟨q,hq⟩:=aQ (show k<c.length by omega);have b1:=inB E;have b2:=inB (show k<c.length by omega);have e1:a.getD k 0=p:=by simp[List.getD,hp]
   have e2:c.getD k 0=q:=by simp[List.getD,hq]
   simp only[go_sem,h1,J,I,O,aH hp,aH hq,b1,b2];refine aB (fun X=>?_) (fun X=>?_)
   . simp only[go_sem]
     refine cQ ?_;unfold fE
     symm
     rw[Bool.and_eq_false_iff];right;exact BM (pV E) (by rw[e1,e2,X];rfl)
   . simp only[go_sem,h1,J,I,O,aS (show k<=4611686018427387904 by omega)]
     exact⟨⟨k+1,E,rfl,aT (p:=fun i=>decide (a.getD i 0>c.getD i 0)=false) (pV E) (by rw[e1,e2];exact X) hz⟩,by simp only[aG];omega⟩
 . have F:=bD hk F
   subst F;simp only[go_sem];refine cQ ?_;unfold fE
   symm
   rw[Xam];refine⟨by simp[Y],Xao.2 fun i hi=>?_⟩;rw[hz i (by rw[Xaw (by simp)];exact hi)];rfl
theorem J5(x:Instance):PC prog 296 [.sl (x.types.map aY)] (int (mW x)):=by
 refine pcd Tryz.func296 ?_;unfold Tryz.f296;simp only[gdS];simp only[go_sem];refine aB (fun E=>?_) (fun E=>?_)
 . simp only[go_sem]
   have:x.types=[]:=List.eq_nil_of_length_eq_zero (by simp at E;simpa using E);exact bZ (by unfold mW;rw[this];rfl)
 . have h0 : 0 < x.types.length := by
     rcases Nat.eq_zero_or_pos x.types.length with h|h
     . rw[h]at E;simp at E
     . exact h
   obtain⟨t,F⟩:=aQ h0;have I:(0:Int)<=0/\(0:Int)<(x.types.length:Int):=⟨Xaj _,by omega⟩;simp only[go_sem,aH (k:=0) F,I];exact bZ (by unfold mW;rw[F])
def mU(c s:Int):Bool:=(decide (c>=0)&&decide (s>=0))&&(pX .andNot .i64 s c == 0)
theorem aaG(t:VType)(s:Int):PC prog 88 [.agg (aY t),int s] (boo (mU t.skills s)):=by
 refine pcd Tryz.func88 ?_;unfold Tryz.f88;simp only[gdS];simp only[go_sem];exact .refl _
def nR(x:Instance)(s:List Int)(i:Int):List Int:=match x.orders[i.toNat]? with
 | some o=>if decide (o.pick.place<0)=true then pC s o.load else s
 | none=>s
def fO(x:Instance)(set dims:Int):List Int:=(iS set).foldl (nR x) (List.replicate dims.toNat 0)
theorem eY{α E:Type}{f:E->α->E}{l:List α}{k:Nat}{x:α}{b:E}(h:l[k]?=some x):(l.take (k+1)).foldl f b=f ((l.take k).foldl f b) x:=by rw[bX h,List.foldl_append];rfl
theorem Fo{x:Instance}{d:Nat}(E:∀o∈x.orders,o.load.length=d)(l:List Int):(l.foldl (nR x) (List.replicate d 0)).length=d:=by
 suffices ∀(l:List Int) (s:List Int),s.length=d->(l.foldl (nR x) s).length=d from this l _ (by simp)
 intro l;induction l with
 | nil=>intro s h;exact h
 | cons i r ih=>
   intro s h;rw[Xbg];refine ih _ ?_;unfold nR;split
   . rename_i o F
     split
     . unfold pC
       rw[List.length_zipWith,h,E o (Xad F),Nat.min_self]
     . exact h
   . exact h
theorem afS(x:Instance)(set dims:Int)(h0:0<=dims)(h1:dims<=1048576)(hd:∀o∈x.orders,o.load.length=dims.toNat)(hm:∀i∈iS set,0<=i/\i<(x.orders.length:Int)):
   PC prog 295 [.agg (aL x),int set,int dims] (.sl ((fO x set dims).map aR)):=by
 have ad:(iS set).length<=63:=Cj set 63;refine pcb (fun t=>t == 28) Tryz.func295 ?_;unfold Tryz.f295;simp only[gdS];simp only[go_sem];refine⟨⟨⟨h0,Xaj _⟩,by omega⟩,aN fun j hj=>?_⟩;simp only[go_sem];refine PC.use (Df set) ?_;simp only[go_sem];refine⟨fun ρ H=>∃k:Nat,k<=(iS set).length/\ρ 3=.rp (aL x) 0/\ρ 13=.sl ((iS set).map aR)/\ρ 14=int (iS set).length/\ρ 15=int k/\∃j,ρ 7=.os j/\H j=some (zK (((iS set).take k).foldl (nR x) (List.replicate dims.toNat 0))),fun ρ _=>(iS set).length-aX (ρ 15),⟨0,Xab _,rfl,rfl,by simp only[go_sem,Xaa],rfl,j,rfl,?_⟩,?_⟩
 . rw[aA];simp[zK,List.map_replicate,aR]
 clear hj;rintro ρ H ⟨k,hk,Y,I,J,E,j,O,R⟩;simp only[go_sem,Y,I,J,E,O];refine aB (fun F=>?_) (fun X=>?_)
 . have F:=aZ F
   obtain⟨i,hi⟩:=aQ F;have b1:=inB F;have b2:=hm i (Xad hi);obtain⟨o,Z⟩:=aQ (show i.toNat<x.orders.length by omega);have es:((iS set).take (k+1)).foldl (nR x) (List.replicate dims.toNat 0)=if decide (o.pick.place<0)=true then pC (((iS set).take k).foldl (nR x) (List.replicate dims.toNat 0)) o.load else((iS set).take k).foldl (nR x) (List.replicate dims.toNat 0):=by
     rw[eY hi,nR,Z]
   have aa:=Fo hd ((iS set).take k);generalize hS:((iS set).take k).foldl (nR x) (List.replicate dims.toNat 0)=s at *;simp only[go_sem,Y,I,J,E,O,aH hi,b1,aH Z,b2];refine aB (fun hb=>?_) (fun hb=>?_)
   . simp only[go_sem,Y,I,J,E,O,aH Z,b2]
     refine Ae (by simp only[go_sem,O]) R fun Hr ab hr=>?_
     simp only[go_sem,Y,I,J,E,O,aH Z,b2];refine NC.use (Xg s o.load (by omega) (by rw[aa,hd o (Xad Z)])) fun j2 ac=>?_
     simp only[go_sem,Y,I,J,E,O,aS (show k<=4611686018427387904 by omega)];exact⟨⟨k+1,F,rfl,j2,rfl,by rw[es,if_pos hb];exact aA _ _ _⟩,by simp only[aG];omega⟩
   . simp only[go_sem,Y,I,J,E,O,aS (show k<=4611686018427387904 by omega)]
     exact⟨⟨k+1,F,rfl,j,rfl,by rw[es,if_neg (by rw[hb];simp)];exact R⟩,by simp only[aG];omega⟩
 . have X:=bD hk X
   subst X;rw[Xaf]at R;simp only[go_sem,O];exact .row _ _ _ R (ConvE.refl _)
def PE(x:Instance)(s:List Int)(v:Visit):List Int:=match x.orders[v.order.toNat]? with
 | some o=>if v.drop=true then rS s o.load else pC s o.load
 | none=>s
def pW(x:Instance)(l:List Visit)(k:Nat):List Int:=(l.take k).foldl (PE x) (fO x (gM l).1 (mW x))
def tA(x:Instance)(l:List Visit)(k:Nat):List (List Int):=(List.range k).map (pW x l)
theorem JJ{x:Instance}{l:List Visit}{k:Nat}{v:Visit}(h:l[k]?=some v):pW x l (k+1)=PE x (pW x l k) v:=eY h
structure LoadB(x:Instance):Prop where
 dims:0<=mW x/\mW x<=1048576
 load:∀o∈x.orders,o.load.length=(mW x).toNat
 few:x.orders.length<=63
theorem Ye{x:Instance}(F:LoadB x){s:List Int}{v:Visit}(h:s.length=(mW x).toNat):(PE x s v).length=(mW x).toNat:=by
 unfold PE;split
 . rename_i o E
   have:=F.load o (Xad E);split
   . unfold rS;rw[List.length_zipWith,h,this,Nat.min_self]
   . unfold pC;rw[List.length_zipWith,h,this,Nat.min_self]
 . exact h
theorem FX{x:Instance}(E:LoadB x)(l:List Visit)(k:Nat):(pW x l k).length=(mW x).toNat:=by
 suffices ∀(l:List Visit) (s:List Int),s.length=(mW x).toNat->(l.foldl (PE x) s).length=(mW x).toNat from this _ _ (Fo E.load _)
 intro l;induction l with
 | nil=>intro s h;exact h
 | cons v r ih=>intro s h;rw[Xbg];exact ih _ (Ye E h)
theorem abA{s:Nat}{i:Int}(h:i∈iS (s:Int)):0<=i/\i<=62/\s.testBit i.toNat=true:=by
 unfold iS tD at h;obtain⟨k,F,rfl⟩:=List.mem_map.1 h;obtain⟨h1,I⟩:=List.mem_filter.1 F;have E:=Xap.1 h1;refine⟨by omega,by omega,?_⟩
 rwa [uT (by omega) (by omega)]at I
theorem Yr{x:Instance}{l:List Visit}(h:sI x l=0):∀v∈l,0<=v.order/\v.order<(x.orders.length:Int):=by
 intro v F;by_cases E:((l.length:Int) == 0||l.any fun v=>dF v.order x.orders.length)=true
 . unfold sI at h;rw[if_pos E]at h;cases h
 . have E : dF v.order x.orders.length = false := by
     rw[Xch,Xai]at E;have:=Xby.1 E.2 v F;simpa using this
   simp only[dF,Xai,decide_eq_false_iff_not]at E;omega
theorem Dd{x:Instance}(J:LoadB x){l:List Visit}(h:∀v∈l,0<=v.order/\v.order<(x.orders.length:Int)):gM l=(((Cl l:Nat):Int),0)/\∀i∈iS (gM l).1,0<=i/\i<(x.orders.length:Int):=by
 have E:∀v∈l,GW v=false:=fun v F=>by
   have:=h v F;have:=J.few;simp only[GW,Xai,decide_eq_false_iff_not];omega
 have e:gM l=(((Cl l:Nat):Int),0):=by
   unfold gM;rw[if_neg (by rw[Bj E];simp),Hl E]
 refine⟨e,fun i hi=>?_⟩;rw[e]at hi;obtain⟨h0,h1,I⟩:=abA hi;rw[OL]at I;obtain⟨v,F,O⟩:=Xau.1 I;have:=h v F;have:v.order.toNat=i.toNat:=by simpa using O
 omega
def mZ(x:Instance)(l:List Visit):List (List Int)×Int:=if(sI x l != 0)=true then([],sI x l)else(tA x l (l.length+1),0)
theorem Xb(x:Instance)(r:Route)(hx:LoadB x)(hl:r.visits.length<=1048576)(ha:x.apart.length<=1048576)(hb:x.before.length<=1048576):
   PC prog 256 [.agg (aL x),.agg (dO r)] (.tup [.sl ((mZ x r.visits).1.map wB),int (mZ x r.visits).2]):=by
 refine pcb (fun t=>t == 35) Tryz.func256 ?_;unfold Tryz.f256;simp only[gdS];simp only[go_sem];refine PC.use (FB x r hl ha hb) ?_;simp only[go_sem];refine aB (fun hc=>?_) (fun hc=>?_)
 . simp only[go_sem]
   have:mZ x r.visits=([],sI x r.visits):=by unfold mZ;rw[if_pos hc]
   rw[this];exact .refl _
 have e0:mZ x r.visits=(tA x r.visits (r.visits.length+1),0):=by unfold mZ;rw[if_neg (by rw[hc];simp)]
 have ak:sI x r.visits=0:=by simpa[bne]using hc
 have ag:=Yr ak;obtain⟨eo,hm⟩:=Dd hx ag;simp only[go_sem];refine PC.use (Ge r hl) ?_;simp only[go_sem];refine aB (fun ai=>by rw[eo]at ai;simp at ai) (fun _=>?_);simp only[go_sem];refine lO [(0,true),(1,true),(2,false),(3,false),(4,false),(5,false),(6,false)] (by kernel_rfl) ?_;simp only[go_sem];refine PC.use (J5 x) ?_;simp only[go_sem];refine PC.use (afS x _ _ hx.dims.1 hx.dims.2 hx.load hm) ?_;simp only[go_sem];refine aN fun j hj=>?_
 simp only[go_sem];refine⟨fun ρ H=>∃k:Nat,k<=r.visits.length/\ρ 2=.rp (aL x) 0/\ρ 37=.sl (r.visits.map aK)/\ρ 38=int r.visits.length/\ρ 39=int k/\ρ 9=.sl ((pW x r.visits k).map aR)/\∃j,ρ 10=.os j/\H j=some (aqA (tA x r.visits (k+1))),fun ρ _=>r.visits.length-aX (ρ 39),⟨0,Xab _,rfl,rfl,by simp only[go_sem,Xaa],rfl,rfl,j,rfl,aA _ _ _⟩,?_⟩;clear hj;rintro ρ H ⟨k,hk,Z,F,E,I,h9,j,J,R⟩;simp only[go_sem,Z,F,E,I,h9,J];refine aB (fun Y=>?_) (fun ae=>?_)
 . have Y:=aZ Y
   obtain⟨v,hv⟩:=aQ Y;have b1:=inB Y;have aj:=ag v (Xad hv);obtain⟨o,ho⟩:=aQ (show v.order.toNat<x.orders.length by omega);have am:=hx.load o (Xad ho);have an:=FX hx r.visits k;have hd:=hx.dims;have hn:=JJ (x:=x) hv;unfold PE at hn;rw[ho]at hn;simp only at hn;simp only[go_sem,Z,F,E,I,h9,J,aH hv,b1];refine aN fun ac ab=>?_
   have O:j≠ac:=aO R ab;simp only[go_sem,Z,F,E,I,h9,J,R];refine aM (aA _ _ _) (by simp[cL]) ?_;generalize X:aI (aI _ ac _) ac _=HGi12;replace R:=(congrFun X.symm j).trans ((aD _ _ _ _ O).trans ((aD _ _ _ _ O).trans R));have ad:HGi12 ac=some (⟨97,2,[aK v]⟩):=by rw[<-X,aA];try rfl
   clear X ab;simp only[go_sem,Z,F,E,I,h9,J,ad,R];have ah:tA x r.visits (k+2)=tA x r.visits (k+1)++[pW x r.visits (k+1)]:=by unfold tA;rw[Xbx,Xat];rfl
   have af:(tA x r.visits (k+1)).length=k+1:=by simp[tA]
   refine aB (fun aa=>?_) (fun aa=>?_)
   . simp only[go_sem,Z,F,E,I,h9,J,ad,aH ho,aj]
     refine PC.use (NC.pc2 (akH (pW x r.visits k) o.load (by omega) (by omega))) ?_;simp only[go_sem,Z,F,E,I,h9,J];refine aB (fun hb=>by simp at hb) (fun _=>?_);simp only[go_sem,Z,F,E,I,h9,J];refine bG R ⟨rfl,rfl⟩ ⟨rfl,trivial⟩ (by simp only[Xaa,af,Xac,List.length_nil];omega) (fun j' al=>?_);simp only[go_sem,Z,F,E,I,aS (show k<=4611686018427387904 by omega)];refine⟨⟨k+1,Y,rfl,by rw[hn,if_pos aa],j',rfl,?_⟩,by simp only[aG];omega⟩;rw[aA,ah,hn,if_pos aa];show _=some (⟨31,1,_⟩:Row);rw[Xat];rfl
   . simp only[go_sem,Z,F,E,I,h9,J,ad,aH ho,aj]
     refine PC.use (NC.pc2 (Xg (pW x r.visits k) o.load (by omega) (by omega))) ?_;simp only[go_sem,Z,F,E,I,h9,J];refine aB (fun hb=>by simp at hb) (fun _=>?_);simp only[go_sem,Z,F,E,I,h9,J];refine bG R ⟨rfl,rfl⟩ ⟨rfl,trivial⟩ (by simp only[Xaa,af,Xac,List.length_nil];omega) (fun j' al=>?_);simp only[go_sem,Z,F,E,I,aS (show k<=4611686018427387904 by omega)];refine⟨⟨k+1,Y,rfl,by rw[hn,if_neg (by rw[aa];simp)],j',rfl,?_⟩,by simp only[aG];omega⟩;rw[aA,ah,hn,if_neg (by rw[aa];simp)];show _=some (⟨31,1,_⟩:Row);rw[Xat];rfl
 . have ae:=bD hk ae
   subst ae;simp only[go_sem,J];rw[e0];exact .tup _ _ (.cons _ _ _ _ (.row _ _ _ R (ConvE.refl _)) (ConvL.refl _))
theorem agE(x:Instance)(r:Route)(a:List Int)(I:a.length<=1048576)(J:dF r.type x.types.length=false):
   PC prog 258 [.sl (a.map aR),.rp (aL x) 0,.rp (dO r) 0] (boo (!fE a (B0 x r.type))):=by
 have E:0<=r.type/\r.type<(x.types.length:Int):=by
   simp only[dF,Xai,decide_eq_false_iff_not]at J;omega
 obtain⟨t,F⟩:=aQ (show r.type.toNat<x.types.length by omega);have O:B0 x r.type=t.cap:=by unfold B0;rw[F]
 refine pcd Tryz.func258 ?_;unfold Tryz.f258;simp only[gdS];simp only[go_sem];simp only[go_sem,aH F,E];refine PC.use (Kn a t.cap I) ?_;simp only[go_sem];rw[O];exact .refl _
def uX(x:Instance)(r:Route):Int:=
 if dF r.type x.types.length=true then 2 else if((mZ x r.visits).2 != 0)=true then(mZ x r.visits).2
 else if((mZ x r.visits).1.any fun l=> !fE l (B0 x r.type))=true then 17 else 0
theorem RH{x:Instance}(F:LoadB x){l:List Visit}:(mZ x l).1.length<=l.length+1/\∀a∈(mZ x l).1,a.length=(mW x).toNat:=by
 unfold mZ;split
 . simp
 . refine⟨by simp[tA],fun a E=>?_⟩
   obtain⟨k,_,rfl⟩:=List.mem_map.1 E;exact FX F l k
theorem ajQ(x:Instance)(r:Route)(E:LoadB x)(hl:r.visits.length<=1048575)(Z:x.apart.length<=1048576)(hb:x.before.length<=1048576):
   PC prog 218 [.agg (aL x),.agg (dO r)] (int (uX x r)):=by
 refine pcd Tryz.func218 ?_;unfold Tryz.f218;simp only[gdS];simp only[go_sem];refine aB (fun h1=>?_) (fun h1=>?_)
 . simp only[go_sem]
   exact bZ (by unfold uX;rw[if_pos (show dF r.type x.types.length=true from h1)])
 have h1:dF r.type x.types.length=false:=h1;have I:¬dF r.type x.types.length=true:=by rw[h1];simp
 simp only[go_sem];refine PC.use (Xb x r E (by omega) Z hb) ?_;simp only[go_sem];refine aB (fun O=>?_) (fun O=>?_)
 . simp only[go_sem]
   exact bZ (by unfold uX;rw[if_neg I,if_pos O])
 have X:¬((mZ x r.visits).2 != 0)=true:=by rw[O];simp
 obtain⟨ln,Y⟩:=RH E (l:=r.visits);have hd:=E.dims;simp only[go_sem];refine PC.use (Ek (p:=fun a=> !fE a (B0 x r.type)) (mZ x r.visits).1 (by omega) (by simp only[go_sem]) fun a F=>agE x r a (by rw[Y a F];omega) h1) ?_;simp only[go_sem];refine aB (fun J=>?_) (fun J=>?_)
 . simp only[go_sem]
   exact bZ (by unfold uX;rw[if_neg I,if_neg X,if_pos J])
 . simp only[go_sem]
   exact bZ (by unfold uX;rw[if_neg I,if_neg X,if_neg (by rw[J];simp)])
theorem akI{H:aJ}{a b:ByteArray}(h:a=b):Conv H (.v (.string a)) (.v (.string b)):=h▸.refl _
theorem ajH(n:Nat)(O:n<20):PC prog 245 [int n] (str (kD n)):=by
 refine pcd Tryz.func245 ?_;unfold Tryz.f245;simp only[gdS];simp only[go_sem];refine aB (fun F=>?_) (fun F=>?_)
 . simp only[go_sem,aS (show n<=4611686018427387904 by omega)]
   have E:n=0\/n=1\/n=2\/n=3\/n=4\/n=5\/n=6\/n=7\/n=8\/n=9:=by simp at F;omega
   rcases E with rfl|rfl|rfl|rfl|rfl|rfl|rfl|rfl|rfl|rfl <;> exact⟨by decide,akI (by rw[uW (by omega)];rfl)⟩
 . have J:10<=n:=by simp at F;omega
   have w1:IntKind.i64.wrap ((n:Int)*2)=((n*2:Nat):Int):=by rw[aW (by omega)];omega
   have I:IntKind.i64.wrap (((n*2:Nat):Int)+2)=((n*2+2:Nat):Int):=by rw[aW (by omega)];omega
   simp only[go_sem,w1,I];have E:n=10\/n=11\/n=12\/n=13\/n=14\/n=15\/n=16\/n=17\/n=18\/n=19:=by omega
   rcases E with rfl|rfl|rfl|rfl|rfl|rfl|rfl|rfl|rfl|rfl <;> exact⟨by decide,akI (by rw[Af (by omega),uW (by omega)];rfl)⟩
theorem Pa(n:Nat)(F:n<20):PC prog 215 [int n,int 10] (str (kD n)):=by
 refine pcd Tryz.func215 ?_;unfold Tryz.f215;simp only[gdS];simp only[go_sem];refine aB (fun _=>?_) (fun E=>by simp at E);simp only[go_sem];refine aB (fun E=>?_) (fun E=>by simp at E;omega);simp only[go_sem];refine PC.use (ajH n F) ?_;simp only[go_sem];exact .refl _
theorem adR(n:Nat)(E:n<20):PC prog 173 [int n] (str (kD n)):=by
 refine pcd Tryz.func173 ?_;unfold Tryz.f173;simp only[gdS];simp only[go_sem];refine PC.use (Pa n E) ?_;simp only[go_sem];exact .refl _
theorem QY(n:Nat)(E:n<20):PC prog 120 [int n] (str (kD n)):=by
 refine pcd Tryz.func120 ?_;unfold Tryz.f120;simp only[gdS];simp only[go_sem];refine PC.use (adR n E) ?_;simp only[go_sem];exact .refl _
theorem bP{n:Int}(h: -9223372036854775808<=n/\n<=9223372036854775807):W n=n:=aW h
theorem Oz(n a b:Int):PC prog 269 [int n,int a,int b] (boo (decide (n>=a)&&decide (n<=b))):=by
 refine pcd Tryz.func269 ?_;unfold Tryz.f269;simp only[gdS];simp only[go_sem];exact .refl _
structure TravB(l:List Point):Prop where
 len:1<=l.length/\l.length<=16
 pt:∀p∈l,0<=p.t/\p.t<=4096/\p.t<=p.a/\p.a<=p.t+4096
 mono:∀i,i+1<l.length->(dW l i).t<(dW l (i+1)).t/\(dW l i).a<=(dW l (i+1)).a
theorem fF{α:Type}{b:Bool}{f:α}(h:opt b f=[]):b=false:=by
 cases b with
 | false=>rfl
 | true=>simp[opt]at h
theorem KS{l:List Point}(h:jK l=[]):TravB l:=by
 unfold jK at h;rw[Xaz]at h;have h1:=fF h.1;unfold F9 at h1;simp only[Xai,decide_eq_false_iff_not]at h1;have F:∀i,i<l.length->iC l i=[]:=fun i hi=>Xcg.1 h.2 i (Xap.2 hi)
 have J:∀p∈l,0<=p.t/\p.t<=4096/\p.t<=p.a/\p.a<=p.t+4096:=fun p I=>by
   obtain⟨i,hi,rfl⟩:=List.getElem_of_mem I;have:=F i hi;unfold iC at this;rw[Xaz]at this;have E:=fF this.1;rw[dY (List.getElem?_eq_getElem hi)]at E;unfold qJ at E;simp only[Xai,decide_eq_false_iff_not]at E;have w:=aW (n:=l[i].t+4096) (by omega);omega
 refine⟨by omega,J,fun i hi=>?_⟩;have:=F (i+1) hi;unfold iC at this;rw[Xaz]at this;have E:=fF this.2;unfold LF at E;have e:i+1-1=i:=rfl;rw[e]at E;simp at E;exact E
theorem Lz{l:List Point}(h:TravB l):∀(i j:Nat),i<j->j<l.length->(dW l i).t<(dW l j).t
 | i,0,hij,_=>by omega
 | i,j+1,hij,hj=>by
   have h1:=(h.mono j hj).1;by_cases e:i=j
   . subst e;exact h1
   . have:=Lz h i j (by omega) (by omega)
     omega
theorem WY(l:List Point)(h:TravB l):PC prog 302 [.sl (l.map cA)] (.sl []):=by
 have hl:=h.len;refine pcd Tryz.func302 ?_;unfold Tryz.f302;simp only[gdS];simp only[go_sem];refine aB (fun Z=>by exfalso;simp only[Xbc,Xas,decide_eq_true_eq]at Z;omega) (fun _=>?_);simp only[go_sem];refine⟨fun ρ _=>∃k:Nat,k<=l.length/\ρ 0=.sl (l.map cA)/\ρ 19=.sl (l.map cA)/\ρ 20=int l.length/\ρ 21=int k/\ρ 3=.sl [],fun ρ _=>l.length-aX (ρ 21),⟨0,Xab _,rfl,rfl,rfl,rfl,rfl⟩,?_⟩;rintro ρ H ⟨k,hk,h0,F,E,I,J⟩;simp only[go_sem,h0,F,E,I,J];refine aB (fun O=>?_) (fun af=>?_)
 . have O:=aZ O
   obtain⟨p,hp⟩:=aQ O;have b1:=inB O;have ag:=h.pt p (Xad hp);simp only[go_sem,h0,F,E,I,J,aH hp,b1];refine aN fun i5 aa=>?_
   simp only[go_sem,h0,F,E,I,J];refine aM (aA _ _ _) (by simp[gX]) ?_;generalize X:aI (aI _ i5 _) i5 _=HGi5;have Y:HGi5 i5=some (⟨136,2,[cA p]⟩):=by rw[<-X,aA];rfl
   clear X aa;simp only[go_sem,h0,F,E,I,J,Y];refine PC.use (QY k (by omega)) ?_;simp only[go_sem,h0,F,E,I,J,Y];refine PC.use (Oz _ _ _) ?_;simp only[go_sem,h0,F,E,I,J,Y];have w:=aW (n:=p.t+4096) (by omega);refine aB (fun Z=>by exfalso;rw[w]at Z;simp at Z;omega) (fun _=>?_);simp only[go_sem,h0,F,E,I,J,Y];refine dP [i5] [(0,false),(1,false),(2,false),(3,true),(4,true),(5,true),(6,false),(7,false),(8,false),(9,false),(10,false),(11,false),(12,false),(13,true),(14,true),(15,true),(16,false),(17,false),(18,false),(19,false),(20,false),(21,false),(22,false),(23,false)] (by simp[Y]) (by kernel_rfl) fun Hp Hr ac hr _ ad=>?_
   have P5:=(ac i5 (by simp)).trans Y;obtain⟨q,hq⟩:=aQ (show k-1<l.length by omega);have ab:decide ((k:Int)>0)=true->(0<=IntKind.i64.wrap ((k:Int)-1)/\IntKind.i64.wrap ((k:Int)-1)<(l.length:Int)):=fun hg=>by
     simp at hg;rw[oI (show k<=4611686018427387904 by omega)];omega
   simp only[go_sem,h0,F,E,I,J,P5,ZE (show k<=4611686018427387904 by omega),aH hq];refine⟨ab,fun hg=>ab hg.1,jX fun _ Hm _ _=>?_⟩;simp only[go_sem,h0,F,E,I,J];have hm:0<k->q.t<p.t/\q.a<=p.a:=fun ae=>by
     have:=h.mono (k-1) (by omega);rw[show k-1+1=k by omega,dY hp,dY hq]at this;exact this
   refine aB (fun Z=>?_) (fun _=>?_)
   . exfalso
     simp only[Xbc,Xam,decide_eq_true_eq]at Z;have:=hm (by omega);omega
   simp only[go_sem,h0,F,E,I,J,aS (show k<=4611686018427387904 by omega)];exact⟨⟨k+1,O,rfl⟩,by simp only[aG];omega⟩
 . simp only[go_sem,J]
   exact .refl _
theorem JT(l:List Point)(h:TravB l):PC prog 270 [.sl (l.map cA)] (boo true):=by
 refine pcd Tryz.func270 ?_;unfold Tryz.f270;simp only[gdS];simp only[go_sem];refine PC.use (WY l h) ?_;simp only[go_sem];exact .refl _
theorem HK(p:Point)(t:Int):PC prog 304 [.agg (cA p),int t] (int (W (p.t-t))):=by
 refine pcd Tryz.func304 ?_;unfold Tryz.f304;simp only[gdS];simp only[go_sem];exact .refl _
def bs(l:List Point)(t:Int):Nat:=(l.takeWhile fun p=>decide (p.t<t)).length
def xY(l:List Point)(t:Int):Bool:=decide ((bs l t:Int)<(l.length:Int))&&((dW l (bs l t)).t-t == 0)
theorem X9{α:Type}{p:α->Bool}:∀(l:List α) (i:Nat),i<=l.length->(∀c x,c<i->l[c]?=some x->p x=true)->(∀x,l[i]?=some x->p x=false)->(l.takeWhile p).length=i
 | [],i,hi,_,_=>by simp at hi;simp[hi]
 | a::r,0,_,_,h2=>by
   have:=h2 a rfl;simp[List.takeWhile,this]
 | a::r,i+1,hi,h1,h2=>by
   have F:=h1 0 a (by omega) rfl;rw[List.takeWhile_cons,if_pos F,Xac,X9 r i (by simpa using hi) (fun c x I E=>h1 (c+1) x (by omega) (by simpa using E)) (fun x E=>h2 x (by simpa using E))]
theorem axF{l:List Point}{t:Int}{i:Nat}(hi:i<=l.length)(h1:∀c,c<i->(dW l c).t<t)(I:i<l.length->t<=(dW l i).t):bs l t=i:=by
 refine X9 l i hi (fun c x F E=>?_) (fun x E=>?_)
 . have:=h1 c F
   rw[dY E]at this;simpa using this
 . have:=I (List.getElem?_eq_some_iff.1 E).1
   rw[dY E]at this;simp;omega
theorem Wr(l:List Point)(t:Int)(h:TravB l)(ht:0<=t/\t<=1073741824):PC prog 303 [.sl (l.map cA),int t,.v (.func (.func 304) #[] #[])] (.tup [int (bs l t),boo (xY l t)]):=by
 have hl:=h.len;refine pcd Tryz.func303 ?_;unfold Tryz.f303;simp only[gdS];simp only[go_sem];have ad:aE prog 304=true:=by kernel_rfl
 refine⟨fun ρ _=>∃i j:Nat,i<=j/\j<=l.length/\ρ 0=.sl (l.map cA)/\ρ 1=int t/\ρ 2=.v (.func (.func 304) #[] #[])/\ρ 8=int l.length/\ρ 9=int i/\ρ 10=int j/\(∀c,c<i->(dW l c).t<t)/\(j<l.length->t<=(dW l j).t),fun ρ _=>aX (ρ 10)-aX (ρ 9),⟨0,l.length,Xab _,Xag _,rfl,rfl,rfl,rfl,rfl,rfl,fun c hc=>by omega,fun hc=>by omega⟩,?_⟩;rintro ρ H ⟨i,j,ai,hj,h0,h1,X,Y,h9,F,hz,hy⟩;simp only[go_sem,h0,h1,X,Y,h9,F];refine aB (fun I=>?_) (fun aa=>?_)
 . have I:i<j:=by simp at I;omega
   have w1:IntKind.i64.wrap ((i:Int)+(j:Int))=((i+j:Nat):Int):=by rw[aW (by omega)];omega
   have w2:IntKind.u64.wrap ((i+j:Nat):Int)=((i+j:Nat):Int):=Di (by omega);have w3:shV .shr .u64 ((i+j:Nat):Int) 1=(((i+j)/2:Nat):Int):=by
     show((i+j:Nat):Int).fdiv (2^min (1:Int).toNat 64)=_;rw[Int.fdiv_eq_ediv_of_nonneg _ (by decide)];rfl
   have w4:IntKind.i64.wrap (((i+j)/2:Nat):Int)=(((i+j)/2:Nat):Int):=aW (by omega);have hm:(i+j)/2<l.length:=by omega
   generalize ag:(i+j)/2=m at w3 w4 hm;have ah:i<=m/\m<j:=by omega
   obtain⟨p,hp⟩:=aQ hm;have b1:=inB hm;have ae:=h.pt p (Xad hp);have e:W (p.t-t)=p.t-t:=bP (by omega);simp only[go_sem,h0,h1,X,Y,h9,F,w1,w2,w3,w4,aH hp,b1,ad];refine⟨by decide,PC.use (HK p t) ?_⟩;simp only[go_sem,h0,h1,X,Y,h9,F,e];refine hU (fun E _=>∃i' Z:Nat,i'<=Z/\Z<=l.length/\Z-i'<j-i/\E 0=.sl (l.map cA)/\E 1=int t/\E 2=.v (.func (.func 304) #[] #[])/\E 8=int l.length/\E 9=int i'/\E 10=int Z/\(∀c,c<i'->(dW l c).t<t)/\(Z<l.length->t<=(dW l Z).t)) ?_ fun K hK _ _=>aB (fun hb=>?_) (fun hb=>?_)
   . rintro E H' ⟨i',Z,a1,a2,a3,c0,c1,c2,c8,c9,ab,cz,cy⟩
     exact⟨⟨i',Z,a1,a2,c0,c1,c2,c8,c9,ab,cz,cy⟩,by rw[c9,ab];simp only[aG];omega⟩
   . have hb:p.t-t<0:=by simpa using hb
     simp only[go_sem,h0,h1,X,Y,h9,F,aS (show m<=4611686018427387904 by omega)];refine hK _ _ ⟨m+1,j,by omega,hj,by omega,by simp only[go_sem,h0],by simp only[go_sem,h1],by simp only[go_sem,X],by simp only[go_sem,Y],by simp only[go_sem],by simp only[go_sem,F],fun c hc=>?_,hy⟩;have e2:=dY hp;by_cases e3:c=m
     . subst e3;rw[e2];omega
     . have:=Lz h c m (by omega) hm
       rw[e2]at this;omega
   . have hb:¬p.t-t<0:=by simpa using hb
     simp only[go_sem,h0,h1,X,Y,h9,F];refine hK _ _ ⟨i,m,by omega,by omega,by omega,by simp only[go_sem,h0],by simp only[go_sem,h1],by simp only[go_sem,X],by simp only[go_sem,Y],by simp only[go_sem,h9],by simp only[go_sem],hz,fun _=>?_⟩;rw[dY hp];omega
 . have aa:i=j:=by simp at aa;omega
   subst aa;have ac:bs l t=i:=axF hj hz hy;simp only[go_sem,h0,h1,X,Y,h9,F,ad];have J:decide ((i:Int)<(l.length:Int))=true->(l.map cA).getD i []=cA (dW l i):=fun O=>by
     have I:i<l.length:=by simp at O;omega
     obtain⟨p,hp⟩:=aQ I;rw[aH hp,dY hp]
   have af:decide ((i:Int)<(l.length:Int))=true->0<=(i:Int)/\(i:Int)<(l.length:Int):=fun O=>by simp at O;omega
   refine⟨fun O=>⟨af O,by rw[J O];rfl⟩,fun O=>by rw[J O];exact Xag _,int (W ((dW l i).t-t)),fun O=>by rw[J O,Br];exact(HK _ t).q rfl,?_⟩;simp only[go_sem];have e:xY l t=(decide ((i:Int)<(l.length:Int))&&(W ((dW l i).t-t) == 0)):=by
     unfold xY;rw[ac];by_cases I:i<l.length
     . have ae:=h.pt _ (Xad (aQ I).choose_spec)
       rw[<-dY (aQ I).choose_spec]at ae;rw[bP (by omega)]
     . have:decide ((i:Int)<(l.length:Int))=false:=by simp;omega
       rw[this];rfl
   rw[ac,e];exact .refl _
def abI(p q:Point)(t:Int):Int:=W (p.a+IntKind.i64.wrap (Int.tdiv (W (W (W (W (t-p.t)*W (q.a-p.a))+W (q.t-p.t))-1)) (W (q.t-p.t))))
def kQ(l:List Point)(t:Int):Int:=
 if xY l t=true then(dW l (bs l t)).a else if((bs l t:Int) == 0)=true then xH (dW l 0) t
 else if((bs l t:Int) == (l.length:Int))=true then xH (dW l (bs l t-1)) t else abI (dW l (bs l t-1)) (dW l (bs l t)) t
theorem akG(l:List Point)(t:Int):bs l t<=l.length:=by
 have:=congrArg List.length (List.takeWhile_append_dropWhile (p:=fun p:Point=>decide (p.t<t)) (l:=l));rw[Xae]at this;unfold bs;omega
theorem VB(l:List Point)(t:Int)(h:TravB l)(ht:0<=t/\t<=1073741824):PC prog 271 [.sl (l.map cA),int t] (int (kQ l t)):=by
 have hl:=h.len;have hb:=akG l t;refine pcd Tryz.func271 ?_;unfold Tryz.f271;simp only[gdS];simp only[go_sem];refine PC.use (Wr l t h ht) ?_;simp only[go_sem];obtain⟨i,hi⟩:∃i,bs l t=i:=⟨_,rfl⟩;have ab:kQ l t=if xY l t=true then(dW l i).a else if((i:Int) == 0)=true then xH (dW l 0) t else if((i:Int) == (l.length:Int))=true then xH (dW l (i-1)) t else abI (dW l (i-1)) (dW l i) t:=by unfold kQ;rw[hi]
 rw[hi]at hb |-;rw[ab];refine aB (fun h1=>?_) (fun h1=>?_)
 . have aa:i<l.length:=by unfold xY at h1;rw[hi]at h1;simp at h1;omega
   obtain⟨p,J⟩:=aQ aa;have b1:=inB aa;simp only[go_sem,aH J,b1];rw[if_pos h1,dY J];exact .refl _
 simp only[go_sem];refine aB (fun h2=>?_) (fun h2=>?_)
 . obtain⟨p,J⟩:=aQ (show 0<l.length by omega)
   simp only[go_sem];refine fV (by rfl) (by kernel_rfl) ?_;simp only[go_sem,aH J];rw[if_neg (by rw[h1];simp),if_pos h2,dY J];have b0:(0:Int)<=0/\(0:Int)<(l.length:Int):=by omega
   exact⟨b0,b0,.refl _⟩
 simp only[go_sem];refine aB (fun h3=>?_) (fun h3=>?_)
 . have ad:i≠0:=by simpa using h2
   obtain⟨p,J⟩:=aQ (show i-1<l.length by omega);simp only[go_sem];refine fV (by rfl) (by kernel_rfl) ?_;have w:IntKind.i64.wrap ((i:Int)-1)=((i-1:Nat):Int):=by rw[aW (by omega)];omega
   have b1:=inB (show i-1<l.length by omega);simp only[go_sem,w,aH J,b1];rw[if_neg (by rw[h1];simp),if_neg (by rw[h2];simp),if_pos h3,dY J];exact .refl _
 have ad:i≠0:=by simpa using h2
 have ai:i≠l.length:=by simp at h3;omega
 obtain⟨p,J⟩:=aQ (show i-1<l.length by omega);obtain⟨q,hq⟩:=aQ (show i<l.length by omega);have w:IntKind.i64.wrap ((i:Int)-1)=((i-1:Nat):Int):=by rw[aW (by omega)];omega
 have b1:=inB (show i-1<l.length by omega);have b2:=inB (show i<l.length by omega);have Y:=(h.mono (i-1) (by omega)).1;rw[show i-1+1=i by omega,dY J,dY hq]at Y;have ag:=h.pt p (Xad J);have af:=h.pt q (Xad hq);rw[if_neg (by rw[h1];simp),if_neg (by rw[h2];simp),if_neg (by rw[h3];simp),dY J,dY hq];simp only[go_sem];refine Bh (fun O H'=>O 1=int t/\∃F E,O 7=.op F 0 0/\O 8=.op E 0 0/\H' F=some (⟨136,2,[cA p]⟩:Row)/\H' E=some (⟨136,2,[cA q]⟩:Row)/\F≠E) ?_ fun K hK=>?_
 . rintro ρ H ⟨h1,F,E,Z,h8,R7,R8,I⟩
   simp only[go_sem,h1,Z,h8,R7,R8];refine dP [F,E] [(0,true),(1,true),(2,true),(3,true),(4,true),(5,true),(6,true),(7,true),(8,true),(9,true),(10,true),(11,true),(12,true),(13,true),(14,true),(15,false),(16,false),(17,false),(18,false)] (by simp[R7,R8]) (by kernel_rfl) fun Hp X J hr _ ae=>?_
   have P7:=(J F (by simp)).trans R7;have P8:=(J E (by simp)).trans R8;simp only[go_sem,h1,Z,h8,P7,P8];refine⟨ahR (by omega),jX fun _ Hm _ _=>?_⟩;simp only[go_sem];exact .refl _
 . refine Cn [] (.q 0 (.q 1 (.q 2 (.q 3 (.q 4 (.q 5 (.q 6 (.q 7 (.q 8 (.a2 9 (.a1 10 (.a1 11 (.a1 12 .nil))) 10 (.a1 9 (.a1 11 (.a1 12 .nil))))))))))))) (by simp) (by kernel_rfl) fun Hp X _ ah _ _=>?_
   simp only[go_sem,w,aH J,aH hq,b1,b2];have rP:∀{a b:Nat} {G:aJ} {z:List AV} {y:List AV},a≠b->G a=some (⟨136,2,[z]⟩:Row)->aI G b (some (⟨136,2,[y]⟩:Row)) a=some (⟨136,2,[z]⟩:Row):=fun ac hG=>by rw[aD _ _ _ _ ac];exact hG
   refine qO ?_ ?_
   . simp only[go_sem]
     refine aN fun F Z=>?_
     simp only[go_sem];refine aN fun E h8=>?_
     have I:=aO (aA _ _ _) h8;have S7:=lF (r':=(⟨136,2,[[int 0,int 0]]⟩:Row)) (aA X F (some (⟨136,2,[[int 0,int 0]]⟩:Row))) h8;have S8:=aA (aI X F (some (⟨136,2,[[int 0,int 0]]⟩:Row))) E (some (⟨136,2,[[int 0,int 0]]⟩:Row));generalize aI (aI X F _) E _=G at S7 S8 |-;simp only[go_sem];refine aM S7 (by simp[gX]) ?_;simp only[go_sem];refine aM (akO S8 I.symm) (by simp[gX]) ?_;simp only[go_sem];refine jX fun _ Hm _ Y=>hK _ _ ⟨by simp only[go_sem],F,E,by simp only[go_sem],by simp only[go_sem],?_,?_,I⟩
     . rw[Y F (by simp),aD _ _ _ _ I,aA]
     . rw[Y E (by simp),aA]
   . simp only[go_sem]
     refine aN fun E h8=>?_
     simp only[go_sem];refine aN fun F Z=>?_
     have I:=(aO (aA _ _ _) Z).symm;have S8:=lF (r':=(⟨136,2,[[int 0,int 0]]⟩:Row)) (aA X E (some (⟨136,2,[[int 0,int 0]]⟩:Row))) Z;have S7:=aA (aI X E (some (⟨136,2,[[int 0,int 0]]⟩:Row))) F (some (⟨136,2,[[int 0,int 0]]⟩:Row));generalize aI (aI X E _) F _=G at S7 S8 |-;simp only[go_sem];refine aM S7 (by simp[gX]) ?_;simp only[go_sem];refine aM (akO S8 I.symm) (by simp[gX]) ?_;simp only[go_sem];refine jX fun _ Hm _ Y=>hK _ _ ⟨by simp only[go_sem],F,E,by simp only[go_sem],by simp only[go_sem],?_,?_,I⟩
     . rw[Y F (by simp),aD _ _ _ _ I,aA]
     . rw[Y E (by simp),aA]
theorem T4{α:Type}{p:α->Bool}:∀l:List α,(∀c x,c<(l.takeWhile p).length->l[c]?=some x->p x=true)/\(∀x,l[(l.takeWhile p).length]?=some x->p x=false)
 | []=>⟨fun c x h _=>by simp at h,fun x h=>by simp at h⟩
 | a::r=>by
   obtain⟨h1,J⟩:=T4 (p:=p) r;by_cases F:p a=true
   . rw[List.takeWhile_cons,if_pos F]
     refine⟨fun c x I E=>?_,fun x E=>J x (by simpa using E)⟩;cases c with
     | zero=>simp at E;subst E;exact F
     | succ c=>exact h1 c x (by simpa using I) (by simpa using E)
   . rw[List.takeWhile_cons,if_neg F]
     refine⟨fun c x I _=>by simp at I,fun x E=>?_⟩;simp at E;subst E;simpa using F
theorem Tk{p:Point}{t:Int}(E:0<=p.t/\p.t<=4096/\p.t<=p.a/\p.a<=p.t+4096)(e:p.t=t):xH p t=p.a:=by
 unfold xH;subst e;rw[bP (n:=p.t+p.a) (by omega),bP (by omega)];omega
theorem acF{p q:Point}{t:Int}(I:0<=p.t/\p.t<=4096/\p.t<=p.a/\p.a<=p.t+4096)(F:0<=q.t/\q.t<=4096/\q.t<=q.a/\q.a<=q.t+4096)(E:p.t<q.t)(e:p.t=t):Et p q t=p.a:=by
 unfold Et;subst e;rw[Int.sub_self,show W 0=0 from rfl,Int.zero_mul,show W 0=0 from rfl,Int.zero_add,bP (n:=q.t) (by omega),bP (n:=q.t-p.t) (by omega),bP (n:=q.t-p.t-1) (by omega),
   Xbp (by omega),Int.ediv_eq_zero_of_lt (by omega) (by omega)]
 rw[show IntKind.i64.wrap 0=0 from rfl,Xcv,bP (by omega)]
theorem anK{p q:Point}{t:Int}(X:0<=p.t/\p.t<=4096/\p.t<=p.a/\p.a<=p.t+4096)(O:0<=q.t/\q.t<=4096/\q.t<=q.a/\q.a<=q.t+4096)(Y:p.a<=q.a)(h1:p.t<=t)(Z:t<q.t):Et p q t=abI p q t:=by
 unfold Et abI;have J:0<=t-p.t/\t-p.t<=4096:=by omega
 have I:0<=q.a-p.a/\q.a-p.a<=8192:=by omega
 have F:0<=(t-p.t)*(q.a-p.a):=Int.mul_nonneg J.1 I.1;have E:(t-p.t)*(q.a-p.a)<=4096*8192:=Int.mul_le_mul J.2 I.2 I.1 (by omega);rw[bP (n:=t-p.t) (by omega),bP (n:=q.a-p.a) (by omega),bP (n:=(t-p.t)*(q.a-p.a)) (by omega),bP (n:=q.t-p.t) (by omega)];generalize (t-p.t)*(q.a-p.a)=m at F E;rw[bP (n:=m+q.t) (by omega),bP (n:=m+q.t-p.t) (by omega),bP (n:=m+(q.t-p.t)) (by omega),show m+q.t-p.t=m+(q.t-p.t)by omega]
def Q2(l:List Point)(t:Int):Int:=match (List.range (l.length-1)).find? (pD l t)with
 | some k=>Et (dW l k) (dW l (k+1)) t
 | none=>if decide (t>(dW l 0).t)=true then xH (dW l (l.length-1)) t else xH (dW l 0) t
theorem Ht{l:List Point}{t:Int}{k:Nat}(h:(List.range (l.length-1)).find? (pD l t)=some k):Q2 l t=Et (dW l k) (dW l (k+1)) t:=by unfold Q2;rw[h]
theorem OA{l:List Point}{t:Int}(h:(List.range (l.length-1)).find? (pD l t)=none)(E:t>(dW l 0).t):Q2 l t=xH (dW l (l.length-1)) t:=by unfold Q2;rw[h];exact if_pos (by simpa using E)
theorem No{l:List Point}{t:Int}(h:(List.range (l.length-1)).find? (pD l t)=none)(E:¬t>(dW l 0).t):Q2 l t=xH (dW l 0) t:=by unfold Q2;rw[h];exact if_neg (by simpa using E)
theorem amU{l:List Point}{t:Int}{i:Nat}(hi:bs l t=i)(h:i<l.length/\(dW l i).t=t):kQ l t=(dW l i).a:=by
 unfold kQ xY;rw[hi];exact if_pos (by simp;omega)
theorem alX{l:List Point}{t:Int}{i:Nat}(hi:bs l t=i)(h:¬(i<l.length/\(dW l i).t=t)):kQ l t=if((i:Int) == 0)=true then xH (dW l 0) t
 else if((i:Int) == (l.length:Int))=true then xH (dW l (i-1)) t else abI (dW l (i-1)) (dW l i) t:=by
 unfold kQ xY;rw[hi];exact if_neg (by simp;intro E;omega)
theorem aaU{l:List Point}{t:Int}(h:TravB l)(hr:jK l=[])(ht:0<=t/\t<=1073741824):jT l t=kQ l t:=by
 have hl:=h.len;have hb:=akG l t;obtain⟨ai,aj⟩:=T4 (p:=fun p:Point=>decide (p.t<t)) l;have F:∀c,c<bs l t->(dW l c).t<t:=fun c Y=>by
   obtain⟨x,hx⟩:=aQ (show c<l.length by omega);have:=ai c x Y hx;rw[dY hx];simpa using this
 have X:bs l t<l.length->t<=(dW l (bs l t)).t:=fun ah=>by
   obtain⟨x,hx⟩:=aQ ah;have:=aj x hx;rw[dY hx];simpa using this
 have aa:∀c,c<l.length->0<=(dW l c).t/\(dW l c).t<=4096/\(dW l c).t<=(dW l c).a/\(dW l c).a<=(dW l c).t+4096:=fun c Y=>by
   obtain⟨x,hx⟩:=aQ Y;rw[dY hx];exact h.pt x (Xad hx)
 unfold jT;have ae:A8 l t=false:=by unfold A8;rw[hr];simp;omega
 rw[if_neg (by rw[ae];simp)];show Q2 l t=kQ l t;obtain⟨i,hi⟩:∃i,bs l t=i:=⟨_,rfl⟩;rw[hi]at hb F X;have E:(∀c,c+1<l.length->pD l t c=false)->(List.range (l.length-1)).find? (pD l t)=none:=fun hn=>HH fun c Y=>hn c (by have:=Xap.1 Y;omega)
 have O:∀k,k+1<l.length->(∀c,c<k->pD l t c=false)->pD l t k=true->(List.range (l.length-1)).find? (pD l t)=some k:=fun k hk hn hy=>NP (k:=k) (fun y ad=>by
   rw[List.take_range]at ad;exact hn y (by have:=Xap.1 ad;omega)) (pV (by omega)) hy
 have I:∀c,c+1<l.length->(dW l (c+1)).t<=t->pD l t c=false:=fun c _ Y=>by unfold pD;simp;omega
 by_cases ab:i<l.length/\(dW l i).t=t
 . rw[amU hi ab]
   obtain⟨J,he⟩:=ab;have ac:∀c,c+1<l.length->c+1<=i->pD l t c=false:=fun c Y al=>I c Y (by
     by_cases e:c+1=i
     . rw[e];omega
     . have:=F (c+1) (by omega);omega)
   by_cases Z:i+1<l.length
   . have hm:=h.mono i Z
     rw[Ht (O i Z (fun c Y=>ac c (by omega) (by omega)) (by unfold pD;simp;omega))];exact acF (aa i J) (aa (i+1) Z) hm.1 he
   . have hn:=E fun c Y=>ac c Y (by omega)
     have ag:i=l.length-1:=by omega
     by_cases h0:i=0
     . rw[h0]at he J |-
       rw[No hn (by omega)];exact Tk (aa 0 J) he
     . have:=F 0 (by omega)
       rw[OA hn this,<-ag];exact Tk (aa i J) he
 . rw[alX hi ab]
   by_cases h0:i=0
   . subst h0
     have hh:=X (by omega);have af:(dW l 0).t≠t:=fun e=>ab ⟨by omega,e⟩
     rw[No (E fun c Y=>by
       have:(dW l 0).t<=(dW l c).t:=by
         by_cases e:c=0
         . rw[e];omega
         . have:=Lz h 0 c (by omega) (by omega);omega
       unfold pD;simp;omega) (by omega),if_pos (by simp)]
   . rw[if_neg (by simp;omega)]
     by_cases hn:i=l.length
     . have:=F 0 (by omega)
       rw[OA (E fun c Y=>I c Y (by have:=F (c+1) (by omega);omega)) this,if_pos (by simp;omega),hn]
     . have J:i<l.length:=by omega
       have hh:=X J;have af:(dW l i).t≠t:=fun e=>ab ⟨J,e⟩
       have ak:=F (i-1) (by omega);have e1:i-1+1=i:=by omega
       rw[Ht (O (i-1) (by omega) (fun c Y=>I c (by omega) (by have:=F (c+1) (by omega);omega)) (by unfold pD;rw[e1];simp;omega)),if_neg (by simp;omega)];rw[e1];have hm:=h.mono (i-1) (by omega);rw[e1]at hm;exact anK (aa (i-1) (by omega)) (aa i J) hm.2 (by omega) (by omega)
theorem Vt(l:List Point)(t:Int)(I:jK l=[]):PC prog 232 [.sl (l.map cA),int t] (int (jT l t)):=by
 have h:=KS I;refine pcd Tryz.func232 ?_;unfold Tryz.f232;simp only[gdS];simp only[go_sem];refine PC.use (Oz _ _ _) ?_;simp only[go_sem];refine⟨_,fun _=>(JT l h).q rfl,?_⟩;simp only[go_sem];have E:A8 l t=(!(decide (t>=0)&&decide (t<=1073741824))|| !true):=by
   unfold A8;rw[I,Xar];simp
 rw[<-E];refine aB (fun F=>?_) (fun F=>?_)
 . simp only[go_sem]
   exact bZ (by unfold jT;rw[if_pos F])
 have J:0<=t/\t<=1073741824:=by unfold A8 at F;simp at F;omega
 simp only[go_sem];refine PC.use (VB l t h J) ?_;simp only[go_sem];exact bZ (aaU h I J).symm
theorem Nf(n:Network)(i:Int):PC prog 192 [.agg (aV n),int i] (boo (LD n i)):=by
 refine pcd Tryz.func192 ?_;unfold Tryz.f192;simp only[gdS];simp only[go_sem];exact .refl _
def L1(a:Arc):List AV:=[int a.src,int a.dst,int a.profile]
theorem afZ(a:Arc):PC prog 231 [.agg (gF a)] (.agg (L1 a)):=by
 refine pcb (fun t=>t == 2) Tryz.func231 ?_;unfold Tryz.f231;simp only[gdS];simp only[go_sem];refine aN fun j E=>?_
 simp only[go_sem];refine aM (aA _ _ _) (by simp) ?_;simp only[go_sem];exact .refl _
structure NetOk(n:Network):Prop where
 arcs:n.arcs.length<=1048576
 travel:∀a∈n.arcs,jK a.travel=[]
 slow:∀a∈n.arcs,a.slow.length<=1048576
theorem Sc(a:Arc)(t:Int)(ha:jK a.travel=[])(ab:a.slow.length<=1048576):PC prog 194 [.agg (gF a),int t] (int (qQ a t)):=by
 refine pcd Tryz.func194 ?_;unfold Tryz.f194;simp only[gdS];simp only[go_sem];refine PC.use (Vt a.travel t ha) ?_;simp only[go_sem];refine⟨fun ρ _=>∃k:Nat,k<=a.slow.length/\ρ 1=int t/\ρ 13=.sl (a.slow.map cA)/\ρ 14=int a.slow.length/\ρ 5=int ((a.slow.take k).foldl (oX t) (jT a.travel t))/\ρ 15=int k,fun ρ _=>a.slow.length-aX (ρ 15),⟨0,Xab _,rfl,rfl,rfl,rfl,rfl⟩,?_⟩;rintro ρ H ⟨k,hk,h1,F,I,X,E⟩;simp only[go_sem,h1,F,I,X,E];refine aB (fun J=>?_) (fun Z=>?_)
 . have J:=aZ J
   obtain⟨p,hp⟩:=aQ J;have b1:=inB J;have hs:(a.slow.take (k+1)).foldl (oX t) (jT a.travel t)=oX t ((a.slow.take k).foldl (oX t) (jT a.travel t)) p:=by rw[bX hp,List.foldl_append];rfl
   simp only[go_sem,h1,F,I,X,E,aH hp,b1];refine aN fun i7 aa=>?_
   simp only[go_sem,h1,F,I,X,E];refine aM (aA _ _ _) (by simp[gX]) ?_;generalize Y:aI (aI _ i7 _) i7 _=HGi7;have R7:HGi7 i7=some (⟨136,2,[cA p]⟩):=by rw[<-Y,aA];rfl
   clear Y aa;simp only[go_sem,h1,F,I,X,E,R7];refine hU (fun O _=>O 1=int t/\O 13=.sl (a.slow.map cA)/\O 14=int a.slow.length/\O 5=int ((a.slow.take (k+1)).foldl (oX t) (jT a.travel t))/\O 15=int k) ?_ fun K hK _ _=>aB (fun hb=>?_) (fun hb=>?_)
   . clear h1 F I X E
     rintro ρ H ⟨h1,F,I,X,E⟩;simp only[go_sem,h1,F,I,X,E,aS (show k<=4611686018427387904 by omega)];exact⟨⟨k+1,J,rfl,rfl⟩,by simp only[aG];omega⟩
   . simp only[go_sem,h1,F,I,X,E,R7]
     refine hK _ _ ⟨by simp only[go_sem,h1],by simp only[go_sem,F],by simp only[go_sem,I],?_,by simp only[go_sem,E]⟩;simp only[go_sem];rw[hs,oX,if_pos hb];rfl
   . simp only[go_sem]
     refine hK _ _ ⟨by simp only[go_sem,h1],by simp only[go_sem,F],by simp only[go_sem,I],?_,by simp only[go_sem,E]⟩;simp only[go_sem,X];rw[hs,oX,if_neg (by rw[hb];simp)]
 . have Z:=bD hk Z
   subst Z;simp only[go_sem,X];rw[Xaf];exact .refl _
theorem agD(n:Network)(p f t:Int)(hl:n.arcs.length<=1048576):PC prog 193 [.agg (aV n),int p,int f,int t] (.tup [.agg (gF ((nP n p f t).getD Ca)),boo (nP n p f t).isSome]):=by
 refine pcd Tryz.func193 ?_;unfold Tryz.f193;simp only[gdS];simp only[go_sem];refine aN fun j8 am=>?_
 generalize ai:aI _ j8 _=HGj8;have R8:HGj8 j8=some (⟨139,6,[gF Ca]⟩):=by rw[<-ai,aA];rfl
 clear ai am;simp only[go_sem,R8];refine aN fun I ag=>?_
 have J:j8≠I:=aO R8 ag;simp only[go_sem,R8];refine aM (aA _ _ _) (by simp[gX]) ?_;generalize ad:aI (aI _ I _) I _=HGj10;replace R8:=(congrFun ad.symm j8).trans ((aD _ _ _ _ J).trans ((aD _ _ _ _ J).trans R8));have O:HGj10 I=some (⟨285,3,[[int f,int t,int p]]⟩):=by rw[<-ad,aA];rfl
 clear ad ag;simp only[go_sem,O,R8];refine⟨fun ρ H=>∃k:Nat,k<=n.arcs.length/\ρ 8=.op j8 0 0/\ρ 10=.op I 0 0/\ρ 18=.sl (n.arcs.map gF)/\ρ 19=int n.arcs.length/\ρ 20=int k/\H j8=some (⟨139,6,[gF Ca]⟩:Row)/\H I=some (⟨285,3,[[int f,int t,int p]]⟩:Row)/\∀a∈n.arcs.take k,N4 p f t a=false,fun ρ _=>n.arcs.length-aX (ρ 20),⟨0,Xab _,rfl,rfl,rfl,rfl,rfl,R8,O,by simp⟩,?_⟩;clear R8 O;rintro ρ H ⟨k,hk,h8,ab,aa,ac,Z,R8,O,hz⟩;simp only[go_sem,h8,ab,aa,ac,Z];refine aB (fun af=>?_) (fun al=>?_)
 . have af:=aZ af
   obtain⟨a,aj⟩:=aQ af;have b1:=inB af;simp only[go_sem,h8,ab,aa,ac,Z,aH aj,b1];refine aN fun X ae=>?_
   have F:j8≠X:=aO R8 ae;have E:I≠X:=aO O ae;simp only[go_sem,h8,ab,aa,ac,Z,R8,O];refine aM (aA _ _ _) (by simp[jH]) ?_;generalize Y:aI (aI _ X _) X _=HGi12;replace R8:=(congrFun Y.symm j8).trans ((aD _ _ _ _ F).trans ((aD _ _ _ _ F).trans R8));replace O:=(congrFun Y.symm I).trans ((aD _ _ _ _ E).trans ((aD _ _ _ _ E).trans O));have ah:HGi12 X=some (⟨139,6,[gF a]⟩):=by rw[<-Y,aA];rfl
   clear Y ae;simp only[go_sem,h8,ab,aa,ac,Z,ah,R8,O];refine dP [X] [(0,true),(1,true),(2,false),(3,false)] (by simp[ah]) (by kernel_rfl) fun Hp Hr hp hr _ au=>?_
   have an:=(hp X (by simp)).trans ah;have ak:=(hr I (by simp[E])).trans O;simp only[go_sem,h8,ab,aa,ac,Z,an,ak];refine⟨_,(afZ a).q rfl,?_⟩;simp only[go_sem,h8,ab,aa,ac,Z,an,ak,L1];refine jX fun _ Hm ar ap=>?_
   have M8:Hm j8=some (⟨139,6,[gF Ca]⟩:Row):=by
     have n1:j8∉[X]:=by simp[F]
     rw[ap j8 n1];exact(hr j8 n1).trans R8
   have aq:=(ar X (by simp)).trans ah;have ao:Hm I=_:=(ap I (by simp[E])).trans ak;simp only[go_sem,h8,ab,aa,ac,Z,M8,ao,aq];have ea:(a.src == f&&(a.dst == t&&(a.profile == p&&true)))=N4 p f t a:=by unfold N4;rw[Bool.and_true,Bool.and_assoc]
   rw[ea];refine aB (fun hb=>?_) (fun hb=>?_)
   . simp only[go_sem,h8,aq]
     refine aM M8 (by simp[jH]) ?_;simp only[go_sem,h8,jH];have:nP n p f t=some a:=NP hz aj hb;rw[this];exact .refl _
   . simp only[go_sem,h8,ab,aa,ac,Z,aS (show k<=4611686018427387904 by omega)]
     exact⟨⟨k+1,af,rfl,M8,ao,aT (p:=fun a=>N4 p f t a=false) aj hb hz⟩,by simp only[aG];omega⟩
 . have al:=bD hk al
   subst al;rw[Xaf]at hz;simp only[go_sem,h8];refine aM R8 (by simp) ?_;simp only[go_sem,h8];have:nP n p f t=none:=HH hz;rw[this];exact .refl _
theorem TO(n:Network)(p f t time:Int)(Y:NetOk n):PC prog 151 [.agg (aV n),int p,int f,int t,int time] (.tup [int (dH n p f t time).1,int (dH n p f t time).2.1,int (dH n p f t time).2.2]):=by
 refine pcd Tryz.func151 ?_;unfold Tryz.f151;simp only[gdS];simp only[go_sem];refine PC.use (Nf n f) ?_;simp only[go_sem];refine⟨_,fun _=>(Nf n t).q rfl,?_⟩;simp only[go_sem];refine aB (fun h1=>?_) (fun h1=>?_)
 . simp only[go_sem]
   have:dH n p f t time=(0,0,11):=by unfold dH;rw[if_pos h1]
   rw[this];exact .refl _
 simp only[go_sem];refine aB (fun Z=>?_) (fun Z=>?_)
 . simp only[go_sem]
   have:dH n p f t time=(time,0,0):=by unfold dH;rw[if_neg (by rw[h1];simp),if_pos Z]
   rw[this];exact .refl _
 have hg:dH n p f t time=match nP n p f t with|some a=>(qQ a time,a.miles,0)|none=>(0,0,12):=by unfold dH;rw[if_neg (by rw[h1];simp),if_neg (by rw[Z];simp)];rfl
 rw[hg];simp only[go_sem];refine PC.use (agD n p f t Y.arcs) ?_;simp only[go_sem];refine aN fun I J=>?_
 simp only[go_sem];refine aM (aA _ _ _) (by simp[jH]) ?_;generalize E:aI (aI _ I _) I _=HGj13;have F:HGj13 I=some (⟨139,6,[gF ((nP n p f t).getD Ca)]⟩):=by rw[<-E,aA];rfl
 clear E J;simp only[go_sem,F];cases hf:nP n p f t with
 | none=>
   refine aB (fun _=>?_) (fun X=>by simp at X);simp only[go_sem];exact .refl _
 | some a=>
   have O:=List.mem_of_find?_eq_some hf;refine aB (fun X=>by simp at X) (fun _=>?_);rw[hf]at F;simp only[go_sem,Xcm,jH];refine fV (by rfl) (by kernel_rfl) ?_;simp only[go_sem,Xcm,F,jH];refine⟨_,(Sc a time (Y.travel a O) (Y.slow a O)).q rfl,?_⟩;simp only[go_sem,Xcm,F,jH];exact .refl _
theorem ST(s:Stop)(a:Int):PC prog 195 [.agg (dZ s),int a] (.tup [int (if gA a s.start>s.close then 0 else gA a s.start),int (if gA a s.start>s.close then 14 else 0)]):=by
 refine pcd Tryz.func195 ?_;unfold Tryz.f195;simp only[gdS];simp only[go_sem];refine aB (fun E=>?_) (fun E=>?_)
 . have E:gA a s.start>s.close:=by simpa using E
   simp only[go_sem];rw[if_pos E,if_pos E];exact .refl _
 . have E:¬gA a s.start>s.close:=by simpa using E
   simp only[go_sem];rw[if_neg E,if_neg E];exact .refl _
end Go.Proofs.YtdlijlecpopadaaGreatDoor.Sq
end
