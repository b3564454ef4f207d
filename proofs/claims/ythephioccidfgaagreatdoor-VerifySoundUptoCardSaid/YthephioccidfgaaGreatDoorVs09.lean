import Derived.Test.YthephioccidfgaaGreatDoorVs08
set_option linter.unusedSimpArgs false
set_option linter.unusedVariables false
set_option linter.defProp false
set_option maxRecDepth 100000
section
namespace Go.Proofs.YthephioccidfgaaGreatDoor.Sq
open Go.Proofs.Tryz
open Go.Aw Go.Aw.D Go.Proofs Ty
open Mv (bZ cL aR)
def qS{α:Type}{p:α->Bool}:∀(l:List α) (n:Int),0<=n->decide (uX p l n>=0)=l.any p
 | [],n,_=>rfl
 | a::r,n,hn=>by
  have ih:=qS (p:=p) r (n+1) (by omega);rw[Xar]at ih |-;simp only[decide_eq_true_eq]at ih |-;rw[List.any_cons,Xax,<-ih];by_cases h:p a=true
  all_goals simp_all[uX]
def Qp(l:List Int):(xR l).length=1:=(rfl)
def aeV(l:List Int):(xR l).getD 0 .any=.sl (l.map aQ):=(rfl)
attribute [go_sem] Qp aeV
def E8{g:Nat}{cap:List AV}{p:Visit->Bool}(l:List (Visit))(hl:l.length<=1048576)(F:aF prog g=true)(Y:∀v∈l,PC prog g (.agg (aL v)::cap) (boo (p v))):
  PC prog 164 [.sl (l.map aL),.fn g cap] (int (uX p l 0)):=by
 refine pcd func164 rfl rfl ?_;simp only[go_sem];refine⟨fun ρ _=>∃k:Nat,k<=l.length/\ρ 0=.sl (l.map aL)/\ρ 1=.fn g cap/\ρ 7=int l.length/\ρ 8=int k/\∀u∈l.take k,p u=false,fun ρ _=>l.length-aU (ρ 8),⟨0,Xab _,rfl,rfl,rfl,rfl,by simp⟩,?_⟩;rintro ρ H ⟨k,Z,h0,h1,U,O,T⟩;simp only[go_sem,U,O];refine aA (fun A=>?_) (fun E=>?_)
 ·have A:=bF A;obtain⟨u,J⟩:=aI A;have b1:=inB A;simp only[go_sem,h0,h1,O,aC J,b1,F];refine aO (Y u (Xac J)) ?_;simp only[go_sem,];apply aA <;> intro X
  ·simp only[go_sem]
   grind[bZ,nQ]
  ·simp only[go_sem,h0,h1,U,O,aW k];exact⟨⟨k+1,A,rfl,aR (p:=fun u=>p u=false) J X T⟩,msr A⟩
 ·have E:=bG Z E;subst E;rw[Xad]at T;simp only[go_sem]
  grind[bZ,lO]
def uH{g:Nat}{cap:List AV}{p:Visit->Bool}(l:List (Visit))(F:l.length<=1048576)(A:aF prog g=true)(E:∀v∈l,PC prog g (.agg (aL v)::cap) (boo (p v))):
  PC prog 115 [.sl (l.map aL),.fn g cap] (boo (l.any p)):=by
 refine pcd func115 rfl rfl ?_;simp only[go_sem];refine aO (E8 l F A E) ?_;simp only[go_sem];simp[cL,qS]
def PM{g:Nat}{cap:List AV}{p:List Int->Bool}(l:List (List Int))(hl:l.length<=1048576)(F:aF prog g=true)(Y:∀v∈l,PC prog g (.sl (v.map aQ)::cap) (boo (p v))):
  PC prog 173 [.sl (l.map xR),.fn g cap] (int (uX p l 0)):=by
 refine pcd func173 rfl rfl ?_;simp only[go_sem];refine⟨fun ρ _=>∃k:Nat,k<=l.length/\ρ 0=.sl (l.map xR)/\ρ 1=.fn g cap/\ρ 7=int l.length/\ρ 8=int k/\∀u∈l.take k,p u=false,fun ρ _=>l.length-aU (ρ 8),⟨0,Xab _,rfl,rfl,rfl,rfl,by simp⟩,?_⟩;rintro ρ H ⟨k,Z,h0,h1,U,O,T⟩;simp only[go_sem,U,O];refine aA (fun A=>?_) (fun E=>?_)
 ·have A:=bF A;obtain⟨u,J⟩:=aI A;have b1:=inB A;simp only[go_sem,h0,h1,O,aC J,b1,F];refine aO (Y u (Xac J)) ?_;simp only[go_sem,];apply aA <;> intro X
  ·simp only[go_sem]
   grind[bZ,nQ]
  ·simp only[go_sem,h0,h1,U,O,aW k];exact⟨⟨k+1,A,rfl,aR (p:=fun u=>p u=false) J X T⟩,msr A⟩
 ·have E:=bG Z E;subst E;rw[Xad]at T;simp only[go_sem]
  grind[bZ,lO]
def IA{g:Nat}{cap:List AV}{p:List Int->Bool}(l:List (List Int))(F:l.length<=1048576)(A:aF prog g=true)(E:∀v∈l,PC prog g (.sl (v.map aQ)::cap) (boo (p v))):
  PC prog 124 [.sl (l.map xR),.fn g cap] (boo (l.any p)):=by
 refine pcd func124 rfl rfl ?_;simp only[go_sem];refine aO (PM l F A E) ?_;simp only[go_sem];simp[cL,qS]
def YX(l:List Visit)(v:Visit)(Z:l.length<=1048576):PC prog 206 [.sl (l.map aL),.agg (aL v)] (int (cD l v)):=by
 refine pcd func206 rfl rfl ?_;simp only[go_sem];refine⟨fun ρ _=>∃k:Nat,k<=l.length/\ρ 0=.sl (l.map aL)/\ρ 3=.rp (aL v) 0/\ρ 7=int l.length/\ρ 8=int k/\∀u∈l.take k,tO v u=false,fun ρ _=>l.length-aU (ρ 8),⟨0,Xab _,rfl,rfl,rfl,rfl,by simp⟩,?_⟩;rintro ρ H ⟨k,X,h0,h3,T,J,O⟩;simp only[go_sem,T,J];refine aA (fun A=>?_) (fun E=>?_)
 ·have A:=bF A;obtain⟨u,U⟩:=aI A;have Y:=inB A;have su:(v.order == u.order&&(v.drop == u.drop&&true))=tO v u:=by
   unfold tO
   grind
  simp only[go_sem,J];refine kB ?_;simp only[go_sem,h0,h3,aC U,Y];apply aA <;> intro F
  ·have F:tO v u=true:=by grind
   simp only[go_sem]
   grind[bZ,cD,nQ]
  ·have F:tO v u=false:=by grind
   simp only[go_sem,h0,h3,T,J,aW k];exact⟨⟨k+1,A,rfl,aR (p:=fun u=>tO v u=false) U F O⟩,msr A⟩
 ·have E:=bG X E;subst E;rw[Xad]at O;simp only[go_sem]
  grind[bZ,cD,lO]
def inV(l:List Visit)(v:Visit):Bool:=decide (cD l v>=0)
def VE(l:List Visit)(v:Visit)(A:l.length<=1048576):PC prog 166 [.sl (l.map aL),.agg (aL v)] (boo (inV l v)):=by refine pcd func166 rfl rfl ?_;simp only[go_sem];refine aO (YX l v A) ?_;simp only[go_sem];exact .refl _
def EI(l:List Visit)(v:Visit)(A:l.length<=1048576):PC prog 165 [.sl (l.map aL),.agg (aL v)] (int (cD l v)):=by refine pcd func165 rfl rfl ?_;simp only[go_sem];refine aO (YX l v A) ?_;simp only[go_sem];exact .refl _
def iE(l:List Visit)(o:Int):Bool:=l.any fun v=>v.order == o
def aAy(o:Int)(v:Visit):PC prog 167 [.agg (aL v),.rp [int o] 0] (boo (v.order == o)):=by refine pcd func167 rfl rfl ?_;simp only[go_sem];exact .refl _
def afN(o:Int)(v:Visit):PC prog 168 [.agg (aL v),.rp [int o] 0] (boo (v.order == o)):=by refine pcd func168 rfl rfl ?_;simp only[go_sem];exact .refl _
def Hs(l:List Visit)(o:Int)(A:l.length<=1048576):PC prog 120 [.sl (l.map aL),int o] (boo (iE l o)):=by refine pcd func120 rfl rfl ?_;simp only[go_sem];refine aO (uH (p:=fun v=>v.order == o) l A (by rfl) (fun v _=>aAy o v)) ?_;simp only[go_sem];exact .refl _
def Zw(l:List Order)(k:Int):PC prog 181 [.sl (l.map aY),int k] (boo (!bS k l.length)):=by
 refine pcd func181 rfl rfl ?_;simp only[go_sem];refine cL ?_;unfold bS
 grind
theorem FL{α:Type}{p:α->Bool}{l:List α}{k:Nat}{x:α}(A:l[k]?=some x)(E:p x=false):l.all p=false:=by grind
def QQ{α:Type}{p:α->Bool}{l:List α}(h:∀x∈l.take l.length,p x=true):l.all p=true:=by grind
theorem awB(x:Int):sI .and .i64 x 1=x%2:=by
 have h:((BitVec.ofInt 64 x &&& BitVec.ofInt 64 1).toNat:Int)=x%2:=by simp_all;omega
 refine Eq.trans (congrArg IntKind.i64.wrap h) ?_
 grind[bD]
def B8{a b:Nat}(E:a<2^63)(A:b<2^63):sI .or .i64 (a:Int) (b:Int)=((a ||| b:Nat):Int):=by
 have h:((BitVec.ofInt 64 (a:Int) ||| BitVec.ofInt 64 (b:Int)).toNat:Int)=((a ||| b:Nat):Int):=by grind
 refine Eq.trans (congrArg IntKind.i64.wrap h) ?_;have:=Xcc E A
 grind[bD]
theorem vV{x:Int}{i:Nat}(h:i<=62):shV .shr .i64 x (i:Int)=x/2^i:=by
 show x.fdiv (2^min ((i:Int)).toNat 64)=_
 grind
theorem Lc{i:Nat}(h:i<=62):shV .shl .i64 1 (i:Int)=((2^i:Nat):Int):=by
 show IntKind.i64.wrap (1*2^min ((i:Int)).toNat 64)=_;have:min ((i:Int)).toNat 64=i:=by omega
 rw[this,Int.one_mul];have A:(2:Nat)^i<=2^62:=Xas (by decide) h
 grind[bD]
def cR(set i:Int):Bool:=decide (i>=0)&&decide (i<=62)&&((set/2^i.toNat)%2 == 1)
def yH(set i:Int):PC prog 100 [int set,int i] (boo (cR set i)):=by
 refine pcd func100 rfl rfl ?_;simp only[go_sem]
 grind[cL,cR,awB,vV]
def jF(l:List Visit):Nat:=l.foldl (fun s v=>s ||| 2^v.order.toNat) 0
def alI(l:List Visit)(v:Visit):jF (l++[v])=jF l ||| 2^v.order.toNat:=by simp[jF]
def EK{m:Nat}(l:List Visit)(h:∀v∈l,v.order.toNat<m):jF l<2^m:=by
 suffices ∀(l:List Visit) (s:Nat),s<2^m->(∀v∈l,v.order.toNat<m)->l.foldl (fun s v=>s ||| 2^v.order.toNat) s<2^m from this l 0 (Nat.two_pow_pos m) h
 intro l;induction l<;>grind[Xcc,Xci]
theorem rQ(l:List Visit)(i:Nat):(jF l).testBit i=l.any fun v=>v.order.toNat == i:=by
 suffices ∀(l:List Visit) (s:Nat),(l.foldl (fun s v=>s ||| 2^v.order.toNat) s).testBit i=(s.testBit i||l.any fun v=>v.order.toNat == i)from by grind[jF]
 intro l;induction l<;>grind
def Rz{s i:Nat}(h:s.testBit i=true):s ||| 2^i=s:=by
 apply Nat.eq_of_testBit_eq
 grind
def okV(v:Visit):Bool:= !(decide (v.order<0)||decide (v.order>62))
def iF(l:List Visit):Int×Int:=if l.all okV then(((jF l:Nat):Int),0)else(0,2)
def L7(r:Route)(hr:r.visits.length<=1048576):PC prog 55 [.agg (bM r)] (.tup [int (iF r.visits).1,int (iF r.visits).2]):=by
 refine pcd func55 rfl rfl ?_;simp only[go_sem];refine⟨fun ρ _=>∃k:Nat,k<=r.visits.length/\ρ 8=.sl (r.visits.map aL)/\ρ 9=int r.visits.length/\ρ 10=int k/\ρ 4=int (jF (r.visits.take k):Nat)/\∀v∈r.visits.take k,okV v=true,fun ρ _=>r.visits.length-aU (ρ 10),⟨0,Xab _,rfl,rfl,rfl,rfl,by simp⟩,?_⟩;rintro ρ H ⟨k,hk,h8,Z,J,X,hz⟩;simp only[go_sem,Z,J];refine aA (fun A=>?_) (fun E=>?_)
 ·have A:=bF A;obtain⟨v,T⟩:=aI A;have b1:=inB A;simp only[go_sem,h8,J,aC T,b1];refine aJ fun j hj=>?_
  simp only[go_sem,];refine aM (aB _ _ _) (by simp[dJ]) ?_;simp only[go_sem,];apply aA <;> intro hb
  ·simp only[go_sem];have:iF r.visits=(0,2):=by grind[iF,FL,okV]
   rw[this];exact .refl _
  ·have U:okV v=true:=by grind[okV]
   have O:0<=v.order/\v.order<=62:=by grind
   have F:jF (r.visits.take k)<2^63:=EK _ fun v T=>by grind[okV]
   have Y:=Lc (i:=v.order.toNat) (by omega);rw[Int.toNat_of_nonneg O.1]at Y;have e2:=B8 (a:=jF (r.visits.take k)) (b:=2^v.order.toNat) F (Xci (by decide) (by omega));simp only[go_sem,h8,Z,J,X,Y,e2,aW k];refine⟨O.1,⟨k+1,A,rfl,?_,aR (p:=fun v=>okV v=true) T U hz⟩,msr A⟩;rw[aZ T,alI]
 ·have E:=bG hk E;subst E;simp only[go_sem,X];have:iF r.visits=(((jF r.visits:Nat):Int),0):=by grind[iF]
  rw[this,Xad];exact .refl _
def I7{s i:Nat}(F:s<2^63)(A:i<63)(h:s.testBit i=false):s ||| 2^i=s+2^i:=by
 have E:2^i<2^63:=Xci (by decide) A;have h0:BitVec.ofNat 64 s &&& BitVec.ofNat 64 (2^i)=0#64:=by
  apply BitVec.eq_of_toNat_eq;rw[BitVec.toNat_and,BitVec.toNat_ofNat,BitVec.toNat_ofNat,Xbf (by omega),Xbf (by omega)];apply Nat.eq_of_testBit_eq
  grind
 have h1:=congrArg BitVec.toNat (BitVec.add_eq_or_of_and_eq_zero (BitVec.ofNat 64 s) (BitVec.ofNat 64 (2^i)) h0)
 grind
def Gp{n:Int}(h:0<=n/\n<18446744073709551616):IntKind.u64.wrap n=n:=Mv.aoX h
theorem jD{s:Nat}{i:Int}(h0:0<=i)(h1:i<=62):cR (s:Int) i=s.testBit i.toNat:=by
 rw[Xcm];unfold cR
 grind
def CM{s:Nat}{i:Int}(h0:0<=i)(h1:i<=62):BH (s:Int) i=s.testBit i.toNat:=by rw[<-jD h0 h1];unfold BH cR;rw[Gp (by omega)];obtain⟨n,rfl⟩:=Int.eq_ofNat_of_zero_le h0;rw[vV (by omega)];rfl
def ajA{s:Nat}{n:Int}(E:s<2^63)(h0:0<=n)(h1:n<=62):atL (s:Int) n=((s ||| 2^n.toNat:Nat):Int):=by
 unfold atL;rw[CM h0 h1];cases A:s.testBit n.toNat with
 | true=>rw[if_pos rfl,Rz A]
 | false=>
  rw[if_neg (by simp),Gp (by omega)];obtain⟨k,rfl⟩:=Int.eq_ofNat_of_zero_le h0;have e:((k:Int)).toNat=k:=Xao k;rw[e]at A |-;have J:2^k<2^63:=Xci (by decide) (by omega);have F:=I7 E (by omega) A;have O:=Xcc E J
  grind[Lc,bD]
def C2{l:List Visit}(h:∀v∈l,D3 v=false):axS l=(jF l:Nat):=by
 suffices ∀(l:List Visit) (s:Nat),s<2^63->(∀v∈l,D3 v=false)->l.foldl (fun s v=>atL s v.order) (s:Int)=((l.foldl (fun s v=>s ||| 2^v.order.toNat) s:Nat):Int)from this l 0 (by decide) h
 intro l;induction l with
 | nil=>simp
 | cons v r ih=>intro s A h;have E:=h v (by simp);unfold D3 at E;simp only[Xam,decide_eq_false_iff_not]at E;rw[Xbd,Xbd,ajA A (by omega) (by omega)];exact ih _ (Xcc A (Xci (by decide) (by omega))) fun u F=>h u (by grind)
def YV(v:Visit):okV v= !D3 v:=rfl
def Lk(l:List Visit):iF l=dM l:=by
 unfold iF dM;by_cases h:l.any D3=true
 ·simp_all[YV]
 simp_all[YV,C2]
def J3(r:Route)(A:r.visits.length<=1048576):PC prog 55 [.agg (bM r)] (.tup [int (dM r.visits).1,int (dM r.visits).2]):=Lk r.visits▸L7 r A
def Ka{l:List Visit}(h:∀v∈l,D3 v=false){i:Int}(h0:0<=i)(h1:i<=62):cR (dM l).1 i=iE l i:=by
 have e:(dM l).1=(jF l:Nat):=by simp_all[dM,Ja,C2]
 rw[e,jD h0 h1,rQ];unfold iE;refine Mv.oB fun v E=>?_
 have A:=h v E;unfold D3 at A
 grind
def vC{l:List Visit}(h:∀v∈l,D3 v=false){i:Int}(h0:0<=i)(h1:i<=62):BH (dM l).1 i=iE l i:=by rw[<-Ka h h0 h1];simp_all[dM,Ja,C2,CM,jD]
def fL(o:Order)(i:Int):List Visit:=(if decide (o.pick.place>=0)=true then[⟨i,false⟩]else[])++(if decide (o.drop.place>=0)=true then[⟨i,true⟩]else[])
def eN(os:List Order)(i:Int):List Visit:=if bS i os.length=true then[]else match os[i.toNat]? with|some o=>fL o i|none=>[]
def Ur(o:Order)(i:Int):(fL o i).length<=2:=by unfold fL;split <;> split <;> simp
theorem vZ(os:List Order)(i:Int):(eN os i).length<=2:=by
 unfold eN;split
 ·simp
 ·split
  ·exact Ur _ _
  ·simp
def vL(os:List Order)(i:Int):PC prog 142 [.sl (os.map aY),int i] (.sl ((eN os i).map aL)):=by
 refine pcb (fun t=>t == 5) func142 rfl rfl ?_;simp only[go_sem];refine aJ fun j X=>?_
 simp only[go_sem];refine aO (Zw os i) ?_;simp only[go_sem];apply aA <;> intro h0
 ·have J:bS i os.length=true:=by grind
  simp only[go_sem];rw[eN,if_pos J];exact .refl _
 have J:bS i os.length=false:=by grind
 have E:0<=i/\i<(os.length:Int):=by grind[bS]
 obtain⟨o,A⟩:=aI (show i.toNat<os.length by omega);rw[eN,if_neg (by grind),A];simp only[go_sem,aC A,E];apply aA <;> intro h1
 ·simp only[go_sem];refine bC (aB _ _ _) ⟨rfl,rfl⟩ ⟨rfl,trivial⟩ (by simp) (fun j' T=>?_);simp only[go_sem,aC A,E];apply aA <;> intro O
  ·simp only[go_sem];refine bC (aB _ _ _) ⟨rfl,rfl⟩ ⟨rfl,trivial⟩ (by simp) (fun U F=>?_);simp only[go_sem];have e:fL o i=[⟨i,false⟩,⟨i,true⟩]:=by simp_all[fL]
   rw[e];exact .row _ _ _ (aB _ _ _) (ConvE.refl _)
  ·simp only[go_sem];have e:fL o i=[⟨i,false⟩]:=by simp_all[fL]
   rw[e];exact .row _ _ _ (aB _ _ _) (ConvE.refl _)
 ·simp only[go_sem,aC A,E];apply aA <;> intro O
  ·simp only[go_sem];refine bC (aB _ _ _) ⟨rfl,rfl⟩ ⟨rfl,trivial⟩ (by simp) (fun U F=>?_);simp only[go_sem];have e:fL o i=[⟨i,true⟩]:=by simp_all[fL]
   rw[e];exact .row _ _ _ (aB _ _ _) (ConvE.refl _)
  ·simp only[go_sem];have e:fL o i=[]:=by simp_all[fL]
   rw[e];exact .row _ _ _ (aB _ _ _) (ConvE.refl _)
def rH(l:List Visit)(i:Nat):Bool:=decide (cD (l.take i) (l.getD i ⟨0,false⟩)>=0)
def JD:∀l:List Visit,cQ 2 (l.map aL)
 | []=>trivial
 | _::r=>⟨rfl,JD r⟩
def avC(l:List Visit)(hl:l.length<=1048576):PC prog 118 [.sl (l.map aL)] (boo ((List.range l.length).any (rH l))):=by
 refine pcd func118 rfl rfl ?_;simp only[go_sem];refine⟨fun ρ _=>∃k:Nat,k<=l.length/\ρ 0=.sl (l.map aL)/\ρ 5=.sl (l.map aL)/\ρ 6=int l.length/\ρ 7=int k/\∀c∈(List.range l.length).take k,rH l c=false,fun ρ _=>l.length-aU (ρ 7),⟨0,Xab _,rfl,rfl,rfl,rfl,by simp⟩,?_⟩;rintro ρ H ⟨k,hk,h0,X,T,O,hz⟩;simp only[go_sem,T,O];refine aA (fun A=>?_) (fun F=>?_)
 ·have A:=bF A;obtain⟨v,hv⟩:=aI A;have b1:=inB A;simp only[go_sem,X,O,aC hv,b1];refine aJ fun U E=>?_
  simp only[go_sem,h0,X,T,O];refine bP E (by simp[dJ]) fun J (R4:J U=some (⟨123,2,[aL v]⟩)) N=>?_
  clear N E;simp only[go_sem];refine jI [U] [(0,true),(1,true),(2,true),(3,true),(4,true),(5,true)] (by grind) (by kernel_rfl) fun Hp Hr hp hr _ aa=>?_
  have P4:=(hp U (by simp)).trans R4;simp only[go_sem,h0,P4,<-List.map_take];refine⟨by omega,_,(EI (l.take k) v (by grind)).q rfl,?_⟩;simp only[go_sem];refine fF fun _ Hm _ _=>?_
  simp only[go_sem];have Z:rH l k=decide (cD (l.take k) v>=0):=by grind[rH]
  apply aA <;> intro Y
  ·simp only[go_sem]
   grind[cL]
  ·simp only[go_sem,h0,X,T,O,aW k];exact⟨⟨k+1,A,rfl,aR (p:=fun c=>rH l c=false) (zJ A) (Z.trans Y) hz⟩,msr A⟩
 ·have F:=bG hk F;subst F;simp only[go_sem]
  grind[cL]
def sQ(l:List Visit):List Visit->Int->Bool
 | [],_=>true
 | w::r,last=>decide (cD l w>last)&&sQ l r (cD l w)
def xN(os:List Order)(l:List Visit)(v:Visit):Bool:=inV (eN os v.order) v&&sQ l (eN os v.order) (-1)
def Ez{α:Type}{l:List α}{k:Nat}{x:α}(h:l[k]?=some x):l.drop k=x::l.drop (k+1):=by obtain⟨A,rfl⟩:=List.getElem?_eq_some_iff.1 h;exact List.drop_eq_getElem_cons A
def arH(x:Instance)(l:List Visit)(hl:l.length<=1048576):PC prog 119 [.agg (aE x),.sl (l.map aL)] (boo (l.all (xN x.orders l))):=by
 refine pcd func119 rfl rfl ?_;simp only[go_sem];refine⟨fun ρ _=>∃k:Nat,k<=l.length/\ρ 1=.sl (l.map aL)/\ρ 2=.rp (aE x) 0/\ρ 12=.sl (l.map aL)/\ρ 13=int l.length/\ρ 14=int k/\∀v∈l.take k,xN x.orders l v=true,fun ρ _=>l.length-aU (ρ 14),⟨0,Xab _,rfl,rfl,rfl,rfl,rfl,by simp⟩,?_⟩;rintro ρ H ⟨k,hk,h1,Z,J,F,A,hz⟩;simp only[go_sem,F,A];refine aA (fun O=>?_) (fun ab=>?_)
 ·have O:=bF O;obtain⟨v,hv⟩:=aI O;have b1:=inB O;simp only[go_sem,J,A,aC hv,b1];refine aJ fun i6 Y=>?_
  simp only[go_sem,h1,Z,J,F,A];refine bP Y (by simp[dJ]) fun af (R6:af i6=some (⟨123,2,[aL v]⟩)) N=>?_
  clear N Y;simp only[go_sem,Z,R6];refine aO (vL x.orders v.order) ?_;have aj:=vZ x.orders v.order;simp only[go_sem,R6];refine aO (VE (eN x.orders v.order) v (by omega)) ?_;simp only[go_sem];apply aA <;> intro hb
  ·simp only[go_sem]
   grind[cL,FL,xN]
  have ag:inV (eN x.orders v.order) v=true:=by grind
  simp only[go_sem];refine⟨fun ρ _=>∃(m:Nat) (last:Int),m<=(eN x.orders v.order).length/\ρ 1=.sl (l.map aL)/\ρ 2=.rp (aE x) 0/\ρ 12=.sl (l.map aL)/\ρ 13=int l.length/\ρ 14=int k/\ρ 27=.sl ((eN x.orders v.order).map aL)/\ρ 28=int (eN x.orders v.order).length/\ρ 29=int m/\ρ 8=int last/\sQ l (eN x.orders v.order) (-1)=sQ l ((eN x.orders v.order).drop m) last,fun ρ _=>(eN x.orders v.order).length-aU (ρ 29),
   ⟨0,-1,Xab _,h1,Z,J,F,A,rfl,rfl,by simp only[go_sem];rfl,rfl,rfl⟩,?_⟩
  rintro ρ H ⟨m,last,hm,h1,Z,J,F,A,ae,ac,X,h8,he⟩;simp only[go_sem,ac,X];refine aA (fun E=>?_) (fun T=>?_)
  ·have E:=bF E;obtain⟨w,hw⟩:=aI E;have b2:=inB E;simp only[go_sem,ae,X,aC hw,b2];refine aJ fun ai U=>?_
   simp only[go_sem,h1,Z,J,F,A,ae,ac,X,h8];refine bP U (by simp[dJ]) fun aa (ah:aa ai=some (⟨123,2,[aL w]⟩)) N=>?_
   clear N U;simp only[go_sem,h1,ah];refine aO (EI l w hl) ?_;simp only[go_sem,h8];rw[Ez hw]at he;apply aA <;> intro hb
   ·simp only[go_sem]
    grind[cL,FL,xN,sQ]
   ·simp only[go_sem,h1,Z,J,F,A,ae,ac,X,aW m];refine⟨⟨m+1,_,E,rfl,rfl,?_⟩,by grind[aN]⟩
    grind[sQ]
  ·have T:=bG hm T;subst T;rw[Xca,sQ]at he;simp only[go_sem,h1,Z,J,F,A,aW k];exact⟨⟨k+1,O,rfl,aR (p:=fun v=>xN x.orders l v=true) hv (by unfold xN;rw[ag,he];rfl) hz⟩,msr O⟩
 ·have ab:=bG hk ab;subst ab;simp only[go_sem]
  grind[cL]
def IH(l:List Visit)(a b:Int):Bool:=decide (uX (fun v:Visit=>v.order == b) l 0<0)||(iE l a&& !iE (l.drop (uX (fun v:Visit=>v.order == b) l 0).toNat) a)
def ZM{α:Type}{p:α->Bool}:∀(l:List α) (n:Int),uX p l n<n+l.length\/uX p l n= -1
 | [],n=>.inr rfl
 | a::r,n=>by
  unfold uX;split
  ·grind
  ·rcases ZM (p:=p) r (n+1)with h|h
   ·left;simp;omega
   ·right;exact h
def apZ(l:List Visit)(a b:Int)(E:l.length<=1048576):PC prog 121 [.sl (l.map aL),int a,int b] (boo (IH l a b)):=by
 refine pcd func121 rfl rfl ?_;simp only[go_sem];refine aO (E8 (p:=fun v=>v.order == b) l E rfl fun v _=>afN b v) ?_;simp only[go_sem];have F:=ZM (p:=fun v:Visit=>v.order == b) l 0;generalize J:uX (fun v:Visit=>v.order == b) l 0=I at F;apply aA <;> intro h0
 ·simp only[go_sem]
  grind[cL,IH]
 ·have A:0<=I:=by grind
  simp only[go_sem];refine aO (Hs l a E) ?_;simp only[go_sem,<-List.map_drop];refine⟨fun _=>⟨⟨A,by omega⟩,JD l⟩,_,fun _=>(Hs (l.drop I.toNat) a (by grind)).q rfl,?_⟩;simp only[go_sem];refine cL ?_;unfold IH;rw[J,h0];rfl
def anJ(x:Instance)(v:Visit):PC prog 116 [.agg (aL v),.rp (aE x) 0] (boo (bS v.order x.orders.length)):=by refine pcd func116 rfl rfl ?_;simp only[go_sem];exact .refl _
def ahX(x:Instance)(v:Visit)(h:bS v.order x.orders.length=false):PC prog 117 [.agg (aL v),.rp (aE x) 0] (boo (uN x v.order)):=by
 have A:0<=v.order/\v.order<(x.orders.length:Int):=by grind[bS]
 obtain⟨o,E⟩:=aI (show v.order.toNat<x.orders.length by omega);refine pcd func117 rfl rfl ?_;simp only[go_sem];simp only[go_sem,aC E,A]
 grind[cL,uN]
def oF(x:Instance)(l:List Visit):Int:=
 if((l.length:Int) == 0||l.any fun v=>bS v.order x.orders.length)=true then 2
 else if(l.any fun v=>uN x v.order)=true then 9
 else if((List.range l.length).any (rH l))=true then 6
 else if(!l.all (xN x.orders l))=true then 19
 else if(x.apart.any fun q=>iE l q.a&&iE l q.b)=true then 20
 else if(x.before.any fun q=> !IH l q.a q.b)=true then 21 else 0
def Kq(x:Instance)(r:Route)(hl:r.visits.length<=1048576)(ha:x.apart.length<=1048576)(hb:x.before.length<=1048576):PC prog 78 [.agg (aE x),.agg (bM r)] (int (oF x r.visits)):=by
 refine pcd func78 rfl rfl ?_;simp only[go_sem];refine⟨_,fun _=>(uH (p:=fun v=>bS v.order x.orders.length) r.visits hl rfl fun v _=>anJ x v).q rfl,?_⟩;simp only[go_sem];apply aA <;> intro c1
 ·simp only[go_sem];simp_all[bZ,oF]
 have af:∀v∈r.visits,bS v.order x.orders.length=false:=fun v hv=>by grind
 have c1:¬((r.visits.length:Int) == 0||r.visits.any fun v=>bS v.order x.orders.length)=true:=by grind
 simp only[go_sem];refine aO (uH (p:=fun v=>uN x v.order) r.visits hl rfl fun v hv=>ahX x v (af v hv)) ?_;simp only[go_sem];apply aA <;> intro c2
 ·simp only[go_sem];simp_all[bZ,oF]
 have c2:¬(r.visits.any fun v=>uN x v.order)=true:=by grind
 simp only[go_sem];refine aO (avC r.visits hl) ?_;simp only[go_sem];apply aA <;> intro c3
 ·simp only[go_sem];simp_all[bZ,oF,if_neg]
 have c3:¬((List.range r.visits.length).any (rH r.visits))=true:=by grind
 simp only[go_sem];refine aO (arH x r.visits hl) ?_;simp only[go_sem];apply aA <;> intro c4
 ·simp only[go_sem];simp_all[bZ,oF,if_neg]
 have c4:¬(!r.visits.all (xN x.orders r.visits))=true:=by grind
 simp only[go_sem];refine⟨fun ρ _=>∃k:Nat,k<=x.apart.length/\ρ 2=.rp (aE x) 0/\ρ 5=.sl (r.visits.map aL)/\ρ 33=.sl (x.apart.map cZ)/\ρ 34=int x.apart.length/\ρ 35=int k/\∀q∈x.apart.take k,(iE r.visits q.a&&iE r.visits q.b)=false,fun ρ _=>x.apart.length-aU (ρ 35),⟨0,Xab _,rfl,rfl,rfl,rfl,by simp only[go_sem];rfl,by simp⟩,?_⟩;rintro ρ H ⟨k,hk,h2,T,ab,Y,O,hz⟩;simp only[go_sem,Y,O];refine aA (fun A=>?_) (fun F=>?_)
 ·have A:=bF A;obtain⟨q,hq⟩:=aI A;have b1:=inB A;simp only[go_sem,ab,O,aC hq,b1];refine aJ fun i7 U=>?_
  simp only[go_sem,h2,T,ab,Y,O];refine bP U (by simp[nU]) fun ae (R7:ae i7=some (⟨92,2,[cZ q]⟩)) N=>?_
  clear N U;simp only[go_sem,T,R7];refine⟨by decide,PC.use (Hs r.visits q.a hl) ?_⟩;simp only[go_sem,T,R7];refine⟨fun _=>by decide,_,fun _=>(Hs r.visits q.b hl).q rfl,?_⟩;simp only[go_sem];refine aA (fun E=>?_) (fun E=>?_)
  ·simp only[go_sem];exact bZ (by unfold oF;rw[if_neg c1,if_neg c2,if_neg c3,if_neg c4,if_pos (Xak.2 ⟨q,Xac hq,E⟩)])
  ·simp only[go_sem,h2,T,ab,Y,O,aW k];exact⟨⟨k+1,A,rfl,aR (p:=fun q:Pair=>(iE r.visits q.a&&iE r.visits q.b)=false) hq E hz⟩,msr A⟩
 have F:=bG hk F;subst F;rw[Xad]at hz;have c5:¬(x.apart.any fun q=>iE r.visits q.a&&iE r.visits q.b)=true:=by simp_all
 simp only[go_sem,h2];refine⟨fun ρ _=>∃k:Nat,k<=x.before.length/\ρ 5=.sl (r.visits.map aL)/\ρ 51=.sl (x.before.map cZ)/\ρ 52=int x.before.length/\ρ 53=int k/\∀q∈x.before.take k,(!IH r.visits q.a q.b)=false,fun ρ _=>x.before.length-aU (ρ 53),⟨0,Xab _,T,rfl,rfl,by simp only[go_sem];rfl,by simp⟩,?_⟩;rintro ρ H ⟨k,hk,T,aa,Z,J,hz⟩;simp only[go_sem,Z,J];refine aA (fun A=>?_) (fun F=>?_)
 ·have A:=bF A;obtain⟨q,hq⟩:=aI A;have b1:=inB A;simp only[go_sem,aa,J,aC hq,b1];refine aJ fun i9 X=>?_
  simp only[go_sem,T,aa,Z,J];refine bP X (by simp[nU]) fun ac (R9:ac i9=some (⟨92,2,[cZ q]⟩)) N=>?_
  clear N X;simp only[go_sem,T,R9];refine⟨by decide,⟨by decide,PC.use (apZ r.visits q.a q.b hl) ?_⟩⟩;simp only[go_sem];refine aA (fun E=>?_) (fun E=>?_)
  ·simp only[go_sem];exact bZ (by unfold oF;rw[if_neg c1,if_neg c2,if_neg c3,if_neg c4,if_neg c5,if_pos (Xak.2 ⟨q,Xac hq,E⟩)])
  ·simp only[go_sem,T,aa,Z,J,aW k];exact⟨⟨k+1,A,rfl,aR (p:=fun q:Pair=>(!IH r.visits q.a q.b)=false) hq E hz⟩,msr A⟩
 have F:=bG hk F;subst F;rw[Xad]at hz;simp only[go_sem];simp_all[bZ,oF,Ja]
def dX(x:Instance)(v:Visit):Stop×Int:=if(bI x v).2=true then((bI x v).1,0)else(mJ,if bS v.order x.orders.length=true then 2 else 19)
def Yr(x:Instance)(v:Visit):PC prog 174 [.sl (x.orders.map aY),.agg (aL v)] (.tup [.agg (eQ (dX x v).1),int (dX x v).2]):=by
 refine pcd func174 rfl rfl ?_;simp only[go_sem];refine fR fun i4 X aa (E:X i4=some (CL mJ)) N=>?_
 simp only[go_sem];refine aO (Zw x.orders v.order) ?_;simp only[go_sem];apply aA <;> intro h1
 ·have h1:bS v.order x.orders.length=true:=by grind
  have e:dX x v=(mJ,2):=by simp_all[dX,bI]
  rw[e];simp only[go_sem];refine aM E (by simp) ?_;simp only[go_sem];exact .refl _
 have h1:bS v.order x.orders.length=false:=by grind
 have F:0<=v.order/\v.order<(x.orders.length:Int):=by grind[bS]
 obtain⟨o,ho⟩:=aI (show v.order.toNat<x.orders.length by omega);have e0:bI x v=(xK o v,decide ((xK o v).place>=0)):=by simp_all[bI]
 have e:dX x v=if(xK o v).place<0 then(mJ,19)else(xK o v,0):=by
  unfold dX
  grind
 rw[e];simp only[go_sem,aC ho,F];refine aJ fun i6 T=>?_
 simp only[go_sem];refine bP T (by simp[nP]) fun J (U:J i6=some (CL o.pick)) N=>?_
 replace E:=N E;obtain⟨A,E⟩:=E;simp only[go_sem];refine bQ (fun O H'=>O 4=.op i4 0 0/\O 6=.op i6 0 0/\H' i4=some (CL mJ)/\H' i6=some (CL (xK o v))) ?_ fun K hK=>aA (fun hb=>?_) (fun hb=>?_)
 ·clear E U;rintro ρ H ⟨Z,h6,E,U⟩;simp only[go_sem,h6,U];apply aA <;> intro Y
  ·have Y:(xK o v).place<0:=by grind
   rw[if_pos Y];simp only[go_sem,Z];refine aM E (by simp) ?_;simp only[go_sem,Z];exact .refl _
  ·have Y:¬(xK o v).place<0:=by grind
   rw[if_neg Y];simp only[go_sem,Z,h6,U];refine aM E (by simp[nP]) ?_;simp only[go_sem,Z];exact .refl _
 ·simp only[go_sem,aC ho,F];refine aM U (by simp[nP]) ?_;simp only[go_sem];refine hK _ _ ⟨rfl,rfl,by rw[aD _ _ _ _ A];exact E,?_⟩;rw[aB,xK,if_pos hb];rfl
 ·simp only[go_sem];refine hK _ _ ⟨rfl,rfl,E,?_⟩;simp_all[xK]
def qP(set:Int)(k:Nat):List Int:=((List.range k).filter fun i:Nat=>cR set (i:Int)).map fun i:Nat=>(i:Int)
def eY(set:Int):List Int:=qP set 63
def qD(set:Int)(k:Nat):qP set (k+1)=qP set k++(if cR set (k:Int)=true then[(k:Int)]else[]):=by
 unfold qP;rw[Xbv,List.filter_append,Xaw];by_cases h:cR set (k:Int)=true
 ·simp[h]
 ·simp[h]
theorem qY(set:Int)(k:Nat):(qP set k).length<=k:=by unfold qP;rw[Xaa];exact Xal (List.length_filter_le _ _) (by simp)
def lL(set:Int):PC prog 66 [int set] (.sl ((eY set).map aQ)):=by
 refine pcb (fun t=>t == 3) func66 rfl rfl ?_;simp only[go_sem];refine aJ fun j U=>?_
 simp only[go_sem];refine⟨fun ρ H=>∃k:Nat,k<=63/\ρ 0=int set/\ρ 5=int k/\∃j,ρ 3=.os j/\H j=some (DX (qP set k)),fun ρ _=>63-aU (ρ 5),⟨0,Xab _,rfl,rfl,j,rfl,aB _ _ _⟩,?_⟩;rintro ρ H ⟨k,T,h0,F,j,h3,R⟩;simp only[go_sem,F];refine aA (fun A=>?_) (fun E=>?_)
 ·have A:k<63:=by grind
  simp only[go_sem,h0,F];refine aO (yH set k) ?_;simp only[go_sem];apply aA <;> intro J
  ·simp only[go_sem,h3];refine bC R ⟨rfl,rfl⟩ ⟨rfl,trivial⟩ (by grind[qY]) (fun j' O=>?_);simp only[go_sem,h0,F,aW k];refine⟨⟨k+1,A,rfl,j',rfl,?_⟩,msr A⟩;rw[qD,if_pos J];exact iA (l':=[(k:Int)]) rfl
  ·simp only[go_sem,h0,F,h3,aW k];refine⟨⟨k+1,A,rfl,j,rfl,?_⟩,msr A⟩;simp_all[qD]
 ·have E:k=63:=by grind
  subst E;simp only[go_sem,h3];exact .row _ _ _ R (ConvE.refl _)
def Yp(a b:Int):Int:=W (a+b)
def Yd(a b:Int):Int:=W (a-b)
def azG(a b:Int):PC prog 208 [int a,int b] (int (Yp a b)):=by refine pcd func208 rfl rfl ?_;simp only[go_sem];exact .refl _
def IU(a b:Int):PC prog 209 [int a,int b] (int (Yd a b)):=by refine pcd func209 rfl rfl ?_;simp only[go_sem];exact .refl _
def aiN{α:Type}{l:List α}{k n:Nat}{x z:α}(E:l.length=n)(h:l[k]?=some x):(l.take k++List.replicate (n-k) z).set k x=l.take (k+1)++List.replicate (n-(k+1)) z:=by
 have A:=(List.getElem?_eq_some_iff.1 h).1;have e:n-k=(n-(k+1))+1:=by omega
 rw[aZ h,e,List.replicate_succ,List.set_append_right _ _ (by grind)];have:k-(l.take k).length=0:=by grind
 grind
def MJ{g:Nat}{op:Int->Int->Int}(a b:List Int)(hl:a.length<=1048576)(J:a.length=b.length)(U:aF prog g=true)(hg:∀p q,PC prog g [int p,int q] (int (op p q))):
  NC prog 207 [.sl (a.map aQ),.sl (b.map aQ),.v (.func (.func g) #[] #[])] (DX (List.zipWith op a b)) (fun j=>.tup [.os j,int 0]):=by
 have T:(List.zipWith op a b).length=a.length:=by rw[List.length_zipWith,<-J,Nat.min_self]
 refine ncb (fun _=>false) func207 rfl rfl ?_;simp only[go_sem];refine aA (fun hb=>by rw[J]at hb;simp at hb) (fun _=>?_);simp only[go_sem];refine⟨⟨by omega,by omega⟩,aJ fun j hj=>?_⟩;simp only[go_sem];refine⟨fun ρ H=>∃k:Nat,k<=a.length/\ρ 0=.sl (a.map aQ)/\ρ 1=.sl (b.map aQ)/\ρ 2=.v (.func (.func g) #[] #[])/\ρ 8=.os j/\ρ 19=int a.length/\ρ 20=int k/\H j=some (DX ((List.zipWith op a b).take k++List.replicate (a.length-k) 0)),fun ρ _=>a.length-aU (ρ 20),⟨0,Xab _,rfl,rfl,rfl,rfl,rfl,rfl,?_⟩,?_⟩
 ·simp[aB,aQ]
 rintro ρ H ⟨k,hk,h0,h1,Z,Y,O,E,R⟩;simp only[go_sem,O,E];refine aA (fun A=>?_) (fun F=>?_)
 ·have A:=bF A;obtain⟨p,hp⟩:=aI A;obtain⟨q,hq⟩:=aI (show k<b.length by omega);have b1:=inB A;have b2:=inB (show k<b.length by omega);simp only[go_sem,E];refine EG [(0,true),(1,true),(2,true),(3,true),(4,true),(5,true),(6,true),(7,true),(8,false),(9,false),(10,false),(11,false),(12,false),(13,false)] (by kernel_rfl) ?_;simp only[go_sem,h0,h1,Z,Y,aC hp,aC hq,b1,b2,U];refine aO (hg p q) ?_;have aa:((List.zipWith op a b).take k++List.replicate (a.length-k) 0:List Int).length=a.length:=by grind
  simp only[go_sem,R];refine⟨⟨b1.1,by omega⟩,cC so3 R (by grind) ?_⟩;have hz:(List.zipWith op a b)[k]?=some (op p q):=by grind
  have X:k<((List.zipWith op a b).take k++List.replicate (a.length-k) 0:List Int).length:=by omega
  obtain⟨y,hy⟩:=aI X;have hs:=aiN (n:=a.length) (z:=(0:Int)) T hz;simp only[go_sem,h0,h1,Z,Y,O,E,aC hy,aW k];refine⟨⟨k+1,A,rfl,?_⟩,msr A⟩;rw[<-hs];show _=some (⟨3,1,_⟩:Row);rw[List.map_set];rfl
 ·have F:=bG hk F;subst F;simp only[go_sem,Y]
  grind
def zI(a b:List Int):List Int:=List.zipWith Yp a b
def Ej(a b:List Int):List Int:=List.zipWith Yd a b
def axX(a b:List Int)(E:a.length<=1048576)(A:a.length=b.length):NC prog 171 [.sl (a.map aQ),.sl (b.map aQ)] (DX (zI a b)) (fun j=>.tup [.os j,int 0]):=by
 refine ncb (fun _=>false) func171 rfl rfl ?_;simp only[go_sem];refine NC.use (MJ a b E A rfl azG) fun j F=>?_
 simp only[go_sem];exact⟨j,rfl,aB _ _ _⟩
def aBs(a b:List Int)(E:a.length<=1048576)(A:a.length=b.length):NC prog 172 [.sl (a.map aQ),.sl (b.map aQ)] (DX (Ej a b)) (fun j=>.tup [.os j,int 0]):=by
 refine ncb (fun _=>false) func172 rfl rfl ?_;simp only[go_sem];refine NC.use (MJ a b E A rfl IU) fun j F=>?_
 simp only[go_sem];exact⟨j,rfl,aB _ _ _⟩
def NC.pc2{f:FuncId}{args:List AV}{r:Row}{y:AV}(h:NC prog f args r (fun j=>.tup [.os j,y])):PC prog f args (.tup [.sl r.es,y]):=
 RC.conv (RC.mono h fun x H' ⟨k,A,E⟩=>by rw[A];exact .tup _ _ (.cons _ _ _ _ (.row _ _ _ E (ConvE.refl _)) (ConvL.refl _)))
def avD(a c:List Int)(hl:a.length<=1048576):PC prog 126 [.sl (a.map aQ),.sl (c.map aQ)] (boo (lA a c)):=by
 refine pcd func126 rfl rfl ?_;simp only[go_sem];apply aA <;> intro hb
 ·simp only[go_sem]
  grind[cL,lA]
 have U:a.length=c.length:=by grind
 simp only[go_sem];refine⟨fun ρ _=>∃k:Nat,k<=a.length/\ρ 1=.sl (c.map aQ)/\ρ 12=.sl (a.map aQ)/\ρ 13=int a.length/\ρ 14=int k/\∀i∈(List.range a.length).take k,decide (a.getD i 0>c.getD i 0)=false,fun ρ _=>a.length-aU (ρ 14),⟨0,Xab _,rfl,rfl,rfl,rfl,by simp⟩,?_⟩;rintro ρ H ⟨k,hk,h1,O,J,F,X⟩;simp only[go_sem,J,F];refine aA (fun A=>?_) (fun E=>?_)
 ·have A:=bF A;obtain⟨p,Z⟩:=aI A;obtain⟨q,hq⟩:=aI (show k<c.length by omega);have b1:=inB A;have Y:=inB (show k<c.length by omega);have e1:a.getD k 0=p:=by grind
  have e2:c.getD k 0=q:=by grind
  simp only[go_sem,h1,O,F,aC Z,aC hq,b1,Y];refine aA (fun T=>?_) (fun T=>?_)
  ·simp only[go_sem]
   grind[cL,lA]
  ·simp only[go_sem,h1,O,J,F,aW k];exact⟨⟨k+1,A,rfl,aR (p:=fun i=>decide (a.getD i 0>c.getD i 0)=false) (zJ A) (by rw[e1,e2];exact T) X⟩,msr A⟩
 ·have E:=bG hk E;subst E;simp only[go_sem];refine cL ?_;unfold lA
  symm
  rw[Xah];refine⟨by simp[U],Xaj.2 fun i hi=>?_⟩;rw[X i (by rw[Xbb (by simp)];exact hi)];rfl
def P1(x:Instance):PC prog 170 [.sl (x.types.map bB)] (int (gL x)):=by
 refine pcd func170 rfl rfl ?_;simp only[go_sem];apply aA <;> intro F
 ·simp only[go_sem]
  grind[bZ,gL]
 ·have h0:0<x.types.length:=by grind
  obtain⟨t,E⟩:=aI h0;have A:(0:Int)<=0/\(0:Int)<(x.types.length:Int):=⟨Xaz _,by omega⟩;simp only[go_sem,aC (k:=0) E,A]
  grind[bZ,gL]
def xH(c s:Int):Bool:=(decide (c>=0)&&decide (s>=0))&&(sI .andNot .i64 s c == 0)
def aAd(t:VType)(s:Int):PC prog 122 [.agg (bB t),int s] (boo (xH t.skills s)):=by refine pcd func122 rfl rfl ?_;simp only[go_sem];exact .refl _
def rG(x:Instance)(s:List Int)(i:Int):List Int:=match x.orders[i.toNat]? with
 | some o=>if decide (o.pick.place<0)=true then zI s o.load else s
 | none=>s
def OG(x:Instance)(set dims:Int):List Int:=(eY set).foldl (rG x) (List.replicate dims.toNat 0)
theorem nL{α A:Type}{f:A->α->A}{l:List α}{k:Nat}{x:α}{b:A}(h:l[k]?=some x):(l.take (k+1)).foldl f b=f ((l.take k).foldl f b) x:=by rw[aZ h,Xbq];rfl
def DU{x:Instance}{d:Nat}(A:∀o∈x.orders,o.load.length=d)(l:List Int):(l.foldl (rG x) (List.replicate d 0)).length=d:=by
 suffices ∀(l:List Int) (s:List Int),s.length=d->(l.foldl (rG x) s).length=d from this l _ (by simp)
 intro l;induction l<;>grind[rG,zI]
def atK(x:Instance)(set dims:Int)(h0:0<=dims)(h1:dims<=1048576)(hd:∀o∈x.orders,o.load.length=dims.toNat)(hm:∀i∈eY set,0<=i/\i<(x.orders.length:Int)):
  PC prog 169 [.agg (aE x),int set,int dims] (.sl ((OG x set dims).map aQ)):=by
 have ab:(eY set).length<=63:=qY set 63;refine pcb (fun t=>t == 28) func169 rfl rfl ?_;simp only[go_sem];refine⟨⟨⟨h0,Xaz _⟩,by omega⟩,aJ fun j hj=>?_⟩;simp only[go_sem];refine aO (lL set) ?_;simp only[go_sem];refine⟨fun ρ H=>∃k:Nat,k<=(eY set).length/\ρ 3=.rp (aE x) 0/\ρ 13=.sl ((eY set).map aQ)/\ρ 14=int (eY set).length/\ρ 15=int k/\∃j,ρ 7=.os j/\H j=some (DX (((eY set).take k).foldl (rG x) (List.replicate dims.toNat 0))),fun ρ _=>(eY set).length-aU (ρ 15),⟨0,Xab _,rfl,rfl,rfl,rfl,j,rfl,?_⟩,?_⟩
 ·simp[aB,aQ]
 rintro ρ H ⟨k,hk,h3,F,O,E,j,T,R⟩;simp only[go_sem,O,E];refine aA (fun A=>?_) (fun J=>?_)
 ·have A:=bF A;obtain⟨i,Z⟩:=aI A;have b1:=inB A;have U:=hm i (Xac Z);obtain⟨o,Y⟩:=aI (show i.toNat<x.orders.length by omega);have es:((eY set).take (k+1)).foldl (rG x) (List.replicate dims.toNat 0)=if decide (o.pick.place<0)=true then zI (((eY set).take k).foldl (rG x) (List.replicate dims.toNat 0)) o.load else((eY set).take k).foldl (rG x) (List.replicate dims.toNat 0):=by grind[nL,rG]
  have ac:=DU hd ((eY set).take k);generalize hS:((eY set).take k).foldl (rG x) (List.replicate dims.toNat 0)=s at *;simp only[go_sem,h3,F,E,aC Z,b1,aC Y,U];apply aA <;> intro X
  ·simp only[go_sem];refine Mu T R fun Hr aa hr=>?_
   simp only[go_sem,h3,aC Y,U];refine NC.use (axX s o.load (by omega) (by grind)) fun j2 ae=>?_
   simp only[go_sem,h3,F,O,E,aW k];exact⟨⟨k+1,A,rfl,j2,rfl,by rw[es,if_pos X];exact aB _ _ _⟩,msr A⟩
  ·simp only[go_sem,h3,F,O,E,T,aW k];exact⟨⟨k+1,A,rfl,j,rfl,by rw[es,if_neg (by rw[X];simp)];exact R⟩,msr A⟩
 ·have J:=bG hk J;subst J;rw[Xad]at R;simp only[go_sem,T];exact .row _ _ _ R (ConvE.refl _)
def Xw(x:Instance)(s:List Int)(v:Visit):List Int:=match x.orders[v.order.toNat]? with
 | some o=>if v.drop=true then Ej s o.load else zI s o.load
 | none=>s
def Gj(x:Instance)(l:List Visit)(k:Nat):List Int:=(l.take k).foldl (Xw x) (OG x (dM l).1 (gL x))
def yG(x:Instance)(l:List Visit)(k:Nat):List (List Int):=(List.range k).map (Gj x l)
def M7{x:Instance}{l:List Visit}{k:Nat}{v:Visit}(h:l[k]?=some v):Gj x l (k+1)=Xw x (Gj x l k) v:=nL h
structure LoadB(x:Instance):Prop where
 dims:0<=gL x/\gL x<=1048576
 load:∀o∈x.orders,o.load.length=(gL x).toNat
 few:x.orders.length<=63
theorem aqT{x:Instance}(E:LoadB x){s:List Int}{v:Visit}(h:s.length=(gL x).toNat):(Xw x s v).length=(gL x).toNat:=by
 unfold Xw;split
 ·rename_i o A;have:=E.load o (Xac A)
  grind[Ej,zI]
 omega
theorem FA{x:Instance}(A:LoadB x)(l:List Visit)(k:Nat):(Gj x l k).length=(gL x).toNat:=by
 suffices ∀(l:List Visit) (s:List Int),s.length=(gL x).toNat->(l.foldl (Xw x) s).length=(gL x).toNat from this _ _ (DU A.load _)
 intro l;induction l<;>grind[aqT]
def aqB{s:Nat}{i:Int}(h:i∈eY (s:Int)):0<=i/\i<=62/\s.testBit i.toNat=true:=by grind[eY,qP,jD]
def ahW{x:Instance}{l:List Visit}(h:oF x l=0):∀v∈l,0<=v.order/\v.order<(x.orders.length:Int):=by
 intro v E;by_cases A:((l.length:Int) == 0||l.any fun v=>bS v.order x.orders.length)=true
 ·simp_all[oF]
 simp_all[bS]
def Ad{x:Instance}(F:LoadB x){l:List Visit}(h:∀v∈l,0<=v.order/\v.order<(x.orders.length:Int)):dM l=(((jF l:Nat):Int),0)/\∀i∈eY (dM l).1,0<=i/\i<(x.orders.length:Int):=by
 have A:∀v∈l,D3 v=false:=fun v J=>by
  have:=h v J;have:=F.few
  grind[D3]
 have e:dM l=(((jF l:Nat):Int),0):=by simp_all[dM,C2]
 refine⟨e,fun i E=>?_⟩;rw[e]at E;obtain⟨h0,h1,O⟩:=aqB E
 grind[rQ]
def oP(x:Instance)(l:List Visit):List (List Int)×Int:=if(oF x l != 0)=true then([],oF x l)else(yG x l (l.length+1),0)
def alK(x:Instance)(r:Route)(Z:LoadB x)(hl:r.visits.length<=1048576)(ha:x.apart.length<=1048576)(hb:x.before.length<=1048576):
  PC prog 123 [.agg (aE x),.agg (bM r)] (.tup [.sl ((oP x r.visits).1.map xR),int (oP x r.visits).2]):=by
 refine pcb (fun t=>t == 35) func123 rfl rfl ?_;simp only[go_sem];refine aO (Kq x r hl ha hb) ?_;simp only[go_sem];apply aA <;> intro hc
 ·simp only[go_sem];have:oP x r.visits=([],oF x r.visits):=by simp_all[oP]
  rw[this];exact .refl _
 have e0:oP x r.visits=(yG x r.visits (r.visits.length+1),0):=by simp_all[oP]
 have ah:oF x r.visits=0:=by grind
 have ac:=ahW ah;obtain⟨eo,hm⟩:=Ad Z ac;simp only[go_sem];refine aO (J3 r hl) ?_;simp only[go_sem];refine aA (fun ae=>by rw[eo]at ae;simp at ae) (fun _=>?_);simp only[go_sem];refine EG [(0,true),(1,true),(2,false),(3,false),(4,false),(5,false),(6,false)] (by kernel_rfl) ?_;simp only[go_sem];refine aO (P1 x) ?_;simp only[go_sem];refine aO (atK x _ _ Z.dims.1 Z.dims.2 Z.load hm) ?_;simp only[go_sem];refine aJ fun j hj=>?_
 simp only[go_sem];refine⟨fun ρ H=>∃k:Nat,k<=r.visits.length/\ρ 2=.rp (aE x) 0/\ρ 37=.sl (r.visits.map aL)/\ρ 38=int r.visits.length/\ρ 39=int k/\ρ 9=.sl ((Gj x r.visits k).map aQ)/\∃j,ρ 10=.os j/\H j=some (aBd (yG x r.visits (k+1))),fun ρ _=>r.visits.length-aU (ρ 39),⟨0,Xab _,rfl,rfl,rfl,rfl,rfl,j,rfl,aB _ _ _⟩,?_⟩;rintro ρ H ⟨k,hk,h2,J,O,F,h9,j,T,R⟩;simp only[go_sem,O,F,];refine aA (fun A=>?_) (fun Y=>?_)
 ·have A:=bF A;obtain⟨v,hv⟩:=aI A;have b1:=inB A;have ag:=ac v (Xac hv);obtain⟨o,ho⟩:=aI (show v.order.toNat<x.orders.length by omega);have al:=Z.load o (Xac ho);have am:=FA Z r.visits k;have hd:=Z.dims;have U:=M7 (x:=x) hv;unfold Xw at U;rw[ho]at U;simp only at U;simp only[go_sem,J,F,aC hv,b1];refine aJ fun aj aa=>?_
  simp only[go_sem,h2,J,O,F,h9,T,R];refine bP aa (by simp[dJ]) fun X (ab:X aj=some (⟨123,2,[aL v]⟩)) N=>?_
  replace R:=(N R).2;simp only[go_sem,ab];have af:yG x r.visits (k+2)=yG x r.visits (k+1)++[Gj x r.visits (k+1)]:=by grind[yG,Xbv]
  have ak:(yG x r.visits (k+1)).length=k+1:=by simp[yG]
  refine aA (fun E=>?_) (fun E=>?_)
  ·simp only[go_sem,h2,h9,ab,aC ho,ag];refine aO (NC.pc2 (aBs (Gj x r.visits k) o.load (by omega) (by omega))) ?_;simp only[go_sem];refine aA (fun hb=>by simp at hb) (fun _=>?_);simp only[go_sem,T];refine bC R ⟨rfl,rfl⟩ ⟨rfl,trivial⟩ (by grind) (fun j' ai=>?_);simp only[go_sem,h2,J,O,F,aW k];refine⟨⟨k+1,A,rfl,by rw[U,if_pos E],j',rfl,?_⟩,msr A⟩;rw[aB,af,U,if_pos E];show _=some (⟨32,1,_⟩:Row);rw[Xaw];rfl
  ·simp only[go_sem,h2,h9,ab,aC ho,ag];refine aO (NC.pc2 (axX (Gj x r.visits k) o.load (by omega) (by omega))) ?_;simp only[go_sem];refine aA (fun hb=>by simp at hb) (fun _=>?_);simp only[go_sem,T];refine bC R ⟨rfl,rfl⟩ ⟨rfl,trivial⟩ (by grind) (fun j' ai=>?_);simp only[go_sem,h2,J,O,F,aW k];refine⟨⟨k+1,A,rfl,by rw[U,if_neg (by rw[E];simp)],j',rfl,?_⟩,by simp only[aN];omega⟩;rw[aB,af,U,if_neg (by rw[E];simp)];show _=some (⟨32,1,_⟩:Row);rw[Xaw];rfl
 ·have Y:=bG hk Y;subst Y;simp only[go_sem,T];rw[e0];exact .tup _ _ (.cons _ _ _ _ (.row _ _ _ R (ConvE.refl _)) (ConvL.refl _))
def auL(x:Instance)(r:Route)(a:List Int)(J:a.length<=1048576)(O:bS r.type x.types.length=false):
  PC prog 125 [.sl (a.map aQ),.rp (aE x) 0,.rp (bM r) 0] (boo (!lA a (HR x r.type))):=by
 have A:0<=r.type/\r.type<(x.types.length:Int):=by grind[bS]
 obtain⟨t,E⟩:=aI (show r.type.toNat<x.types.length by omega);have F:HR x r.type=t.cap:=by unfold HR;rw[E]
 refine pcd func125 rfl rfl ?_;simp only[go_sem];simp only[go_sem,aC E,A];refine aO (avD a t.cap J) ?_;simp only[go_sem];rw[F];exact .refl _
def Bj(x:Instance)(r:Route):Int:=
 if bS r.type x.types.length=true then 2 else if((oP x r.visits).2 != 0)=true then(oP x r.visits).2
 else if((oP x r.visits).1.any fun l=> !lA l (HR x r.type))=true then 17 else 0
def Wm{x:Instance}(A:LoadB x){l:List Visit}:(oP x l).1.length<=l.length+1/\∀a∈(oP x l).1,a.length=(gL x).toNat:=by grind[oP,yG,FA]
def awW(x:Instance)(r:Route)(A:LoadB x)(Y:r.visits.length<=1048575)(O:x.apart.length<=1048576)(F:x.before.length<=1048576):
  PC prog 80 [.agg (aE x),.agg (bM r)] (int (Bj x r)):=by
 refine pcd func80 rfl rfl ?_;simp only[go_sem];apply aA <;> intro h1
 ·simp only[go_sem];simp_all[bZ,Bj,bS]
 have h1:bS r.type x.types.length=false:=h1;have X:¬bS r.type x.types.length=true:=by grind
 simp only[go_sem];refine aO (alK x r A (by omega) O F) ?_;simp only[go_sem];apply aA <;> intro T
 ·simp only[go_sem];simp_all[bZ,Bj]
 have c2:¬((oP x r.visits).2 != 0)=true:=by grind
 obtain⟨Z,J⟩:=Wm A (l:=r.visits);have U:=A.dims;simp only[go_sem];refine aO (IA (p:=fun a=> !lA a (HR x r.type)) (oP x r.visits).1 (by omega) rfl fun a E=>auL x r a (by rw[J a E];omega) h1) ?_;simp only[go_sem];apply aA <;> intro h3
 ·simp only[go_sem];simp_all[bZ,Bj]
 ·simp only[go_sem];simp_all[bZ,Bj]
def axZ{H:aG}{a b:ByteArray}(h:a=b):Conv H (.v (.string a)) (.v (.string b)):=h▸.refl _
def awS(n:Nat)(O:n<20):PC prog 251 [int n] (str (mU n)):=by
 refine pcd func251 rfl rfl ?_;simp only[go_sem];apply aA <;> intro J
 ·simp only[go_sem,aW n];have A:n=0\/n=1\/n=2\/n=3\/n=4\/n=5\/n=6\/n=7\/n=8\/n=9:=by grind
  rcases A with rfl|rfl|rfl|rfl|rfl|rfl|rfl|rfl|rfl|rfl <;> exact⟨by decide,axZ (by rw[zU (by omega)];rfl)⟩
 ·have F:10<=n:=by grind
  have w1:IntKind.i64.wrap ((n:Int)*2)=((n*2:Nat):Int):=by grind[bD]
  have E:IntKind.i64.wrap (((n*2:Nat):Int)+2)=((n*2+2:Nat):Int):=by grind[bD]
  simp only[go_sem,w1,E];have A:n=10\/n=11\/n=12\/n=13\/n=14\/n=15\/n=16\/n=17\/n=18\/n=19:=by omega
  rcases A with rfl|rfl|rfl|rfl|rfl|rfl|rfl|rfl|rfl|rfl <;> exact⟨by decide,axZ (by rw[CY (by omega),zU (by omega)];rfl)⟩
def TA(n:Nat)(E:n<20):PC prog 232 [int n,int 10] (str (mU n)):=by refine pcd func232 rfl rfl ?_;simp only[go_sem];refine aA (fun _=>?_) (fun A=>by simp at A);simp only[go_sem];refine aA (fun A=>?_) (fun A=>by simp at A;omega);simp only[go_sem];refine aO (awS n E) ?_;simp only[go_sem];exact .refl _
def auG(n:Nat)(A:n<20):PC prog 205 [int n] (str (mU n)):=by refine pcd func205 rfl rfl ?_;simp only[go_sem];refine aO (TA n A) ?_;simp only[go_sem];exact .refl _
def W0(n:Nat)(A:n<20):PC prog 163 [int n] (str (mU n)):=by refine pcd func163 rfl rfl ?_;simp only[go_sem];refine aO (auG n A) ?_;simp only[go_sem];exact .refl _
theorem dQ{n:Int}(h: -9223372036854775808<=n/\n<=9223372036854775807):W n=n:=bD h
def Tj(n a b:Int):PC prog 270 [int n,int a,int b] (boo (decide (n>=a)&&decide (n<=b))):=by refine pcd func270 rfl rfl ?_;simp only[go_sem];exact .refl _
structure TravB(l:List Point):Prop where
 len:1<=l.length/\l.length<=16
 pt:∀p∈l,0<=p.t/\p.t<=4096/\p.t<=p.a/\p.a<=p.t+4096
 mono:∀i,i+1<l.length->(eI l i).t<(eI l (i+1)).t/\(eI l i).a<=(eI l (i+1)).a
theorem fU{α:Type}{b:Bool}{f:α}(h:opt b f=[]):b=false:=by grind[opt]
def Qi{l:List Point}(h:jY l=[]):TravB l:=by
 unfold jY at h;rw[Xbe]at h;have h1:=fU h.1;unfold QD at h1;simp only[Xam,decide_eq_false_iff_not]at h1;have E:∀i,i<l.length->iI l i=[]:=fun i A=>Xcd.1 h.2 i (Xai.2 A)
 have h3:∀p∈l,0<=p.t/\p.t<=4096/\p.t<=p.a/\p.a<=p.t+4096:=fun p J=>by
  obtain⟨i,A,rfl⟩:=List.getElem_of_mem J;have:=E i A;unfold iI at this;rw[Xbe]at this;have F:=fU this.1;rw[fG (List.getElem?_eq_getElem A)]at F
  grind[zY,bD]
 refine⟨by omega,h3,fun i A=>?_⟩
 grind[iI,Xbe,fU,XO]
def PX{l:List Point}(h:TravB l):∀(i j:Nat),i<j->j<l.length->(eI l i).t<(eI l j).t
 | i,0,hij,_=>by omega
 | i,j+1,hij,hj=>by
  have h1:=(h.mono j hj).1;by_cases e:i=j
  ·subst e;exact h1
  ·have:=PX h i j (by omega) (by omega);omega
def ajQ(l:List Point)(h:TravB l):PC prog 276 [.sl (l.map cF)] (.sl []):=by
 have hl:=h.len;refine pcd func276 rfl rfl ?_;simp only[go_sem];refine aA (fun hb=>by exfalso;grind) (fun _=>?_);simp only[go_sem];refine⟨fun ρ _=>∃k:Nat,k<=l.length/\ρ 0=.sl (l.map cF)/\ρ 19=.sl (l.map cF)/\ρ 20=int l.length/\ρ 21=int k/\ρ 3=.sl [],fun ρ _=>l.length-aU (ρ 21),⟨0,Xab _,rfl,rfl,rfl,rfl,rfl⟩,?_⟩;rintro ρ H ⟨k,hk,h0,O,J,F,h3⟩;simp only[go_sem,J,F];refine aA (fun A=>?_) (fun ab=>?_)
 ·have A:=bF A;obtain⟨p,hp⟩:=aI A;have b1:=inB A;have ac:=h.pt p (Xac hp);simp only[go_sem,O,F,aC hp,b1];refine aJ fun X U=>?_
  simp only[go_sem];refine aM (aB _ _ _) (by simp[jJ]) ?_;generalize E:aH (aH _ X _) X _=HGi5;have Y:HGi5 X=some (⟨116,2,[cF p]⟩):=by rw[<-E,aB];rfl
  clear E U;simp only[go_sem];refine aO (W0 k (by omega)) ?_;simp only[go_sem,Y];refine aO (Tj _ _ _) ?_;simp only[go_sem,Y];have w:=bD (n:=p.t+4096) (by omega);refine aA (fun hb=>by exfalso;grind) (fun _=>?_);simp only[go_sem];refine jI [X] [(0,false),(1,false),(2,false),(3,true),(4,true),(5,true),(6,false),(7,false),(8,false),(9,false),(10,false),(11,false),(12,false),(13,true),(14,true),(15,true),(16,false),(17,false),(18,false),(19,false),(20,false),(21,false),(22,false),(23,false)] (by grind) (by kernel_rfl) fun Hp Hr Z hr _ aa=>?_
  have P5:=(Z X (by simp)).trans Y;obtain⟨q,hq⟩:=aI (show k-1<l.length by omega);have T:decide ((k:Int)>0)=true->(0<=IntKind.i64.wrap ((k:Int)-1)/\IntKind.i64.wrap ((k:Int)-1)<(l.length:Int)):=fun hg=>by grind[xZ]
  simp only[go_sem,h0,P5,anG (show k<=4611686018427387904 by omega),aC hq];refine⟨T,fun hg=>T hg.1,fF fun _ Hm _ _=>?_⟩;simp only[go_sem];have hm:0<k->q.t<p.t/\q.a<=p.a:=fun ae=>by
   have:=h.mono (k-1) (by omega)
   grind[fG]
  apply aA <;> intro hb
  ·exfalso
   grind
  simp only[go_sem,h0,O,J,F,h3,aW k];exact⟨⟨k+1,A,rfl⟩,msr A⟩
 ·simp only[go_sem,h3];exact .refl _
def Fc(l:List Point)(h:TravB l):PC prog 271 [.sl (l.map cF)] (boo true):=by refine pcd func271 rfl rfl ?_;simp only[go_sem];refine aO (ajQ l h) ?_;simp only[go_sem];exact .refl _
def ML(p:Point)(t:Int):PC prog 278 [.agg (cF p),int t] (int (W (p.t-t))):=by refine pcd func278 rfl rfl ?_;simp only[go_sem];exact .refl _
def bs(l:List Point)(t:Int):Nat:=(l.takeWhile fun p=>decide (p.t<t)).length
def CB(l:List Point)(t:Int):Bool:=decide ((bs l t:Int)<(l.length:Int))&&((eI l (bs l t)).t-t == 0)
def ahL{α:Type}{p:α->Bool}:∀(l:List α) (i:Nat),i<=l.length->(∀c x,c<i->l[c]?=some x->p x=true)->(∀x,l[i]?=some x->p x=false)->(l.takeWhile p).length=i
 | [],i,hi,_,_=>by simp_all
 | a::r,0,_,_,h2=>by simp_all
 | a::r,i+1,hi,h1,h2=>by have E:=h1 0 a (by omega) rfl;rw[List.takeWhile_cons,if_pos E,Xag,ahL r i (by grind) (fun c x F A=>h1 (c+1) x (by omega) (by grind)) (fun x A=>h2 x (by grind))]
def aBv{l:List Point}{t:Int}{i:Nat}(J:i<=l.length)(h1:∀c,c<i->(eI l c).t<t)(F:i<l.length->t<=(eI l i).t):bs l t=i:=by
 refine ahL l i J (fun c x E A=>?_) (fun x A=>?_)
 ·have:=h1 c E;rw[fG A]at this;simpa using this
 ·have:=F (List.getElem?_eq_some_iff.1 A).1;rw[fG A]at this;simp;omega
def aeU(l:List Point)(t:Int)(h:TravB l)(ht:0<=t/\t<=1073741824):PC prog 277 [.sl (l.map cF),int t,.v (.func (.func 278) #[] #[])] (.tup [int (bs l t),boo (CB l t)]):=by
 have hl:=h.len;refine pcd func277 rfl rfl ?_;simp only[go_sem];have Z:aF prog 278=true:=by kernel_rfl
 refine⟨fun ρ _=>∃i j:Nat,i<=j/\j<=l.length/\ρ 0=.sl (l.map cF)/\ρ 1=int t/\ρ 2=.v (.func (.func 278) #[] #[])/\ρ 8=int l.length/\ρ 9=int i/\ρ 10=int j/\(∀c,c<i->(eI l c).t<t)/\(j<l.length->t<=(eI l j).t),fun ρ _=>aU (ρ 10)-aU (ρ 9),⟨0,l.length,Xab _,Xae _,rfl,rfl,rfl,rfl,rfl,rfl,fun c hc=>by omega,fun hc=>by omega⟩,?_⟩;rintro ρ H ⟨i,j,af,hj,h0,h1,U,h8,h9,F,hz,hy⟩;simp only[go_sem,h9,F];refine aA (fun O=>?_) (fun Y=>?_)
 ·have O:i<j:=by grind
  have w1:IntKind.i64.wrap ((i:Int)+(j:Int))=((i+j:Nat):Int):=by grind[bD]
  have w2:IntKind.u64.wrap ((i+j:Nat):Int)=((i+j:Nat):Int):=Gp (by omega);have w3:shV .shr .u64 ((i+j:Nat):Int) 1=(((i+j)/2:Nat):Int):=by
   show((i+j:Nat):Int).fdiv (2^min (1:Int).toNat 64)=_
   grind
  have w4:IntKind.i64.wrap (((i+j)/2:Nat):Int)=(((i+j)/2:Nat):Int):=bD (by omega);have hm:(i+j)/2<l.length:=by omega
  generalize ae:(i+j)/2=m at w3 w4 hm;have ag:i<=m/\m<j:=by omega
  obtain⟨p,hp⟩:=aI hm;have b1:=inB hm;have ac:=h.pt p (Xac hp);have e:W (p.t-t)=p.t-t:=dQ (by omega);simp only[go_sem,h0,h1,U,h9,F,w1,w2,w3,w4,aC hp,b1,Z];refine⟨by decide,PC.use (ML p t) ?_⟩;simp only[go_sem,h0,h1,U,h8,h9,F,e];refine qN (fun A _=>∃T j':Nat,T<=j'/\j'<=l.length/\j'-T<j-i/\A 0=.sl (l.map cF)/\A 1=int t/\A 2=.v (.func (.func 278) #[] #[])/\A 8=int l.length/\A 9=int T/\A 10=int j'/\(∀c,c<T->(eI l c).t<t)/\(j'<l.length->t<=(eI l j').t)) ?_ fun K hK _ _=>aA (fun hb=>?_) (fun hb=>?_)
  ·rintro A H' ⟨T,j',a1,a2,a3,c0,c1,c2,c8,c9,ab,cz,cy⟩;exact⟨⟨T,j',a1,a2,c0,c1,c2,c8,c9,ab,cz,cy⟩,by grind[aN]⟩
  ·have hb:p.t-t<0:=by grind
   simp only[go_sem,aW m];refine hK _ _ ⟨m+1,j,by omega,hj,by omega,h0,h1,U,h8,rfl,F,fun c hc=>?_,hy⟩;have e2:=fG hp;by_cases e3:c=m
   ·grind
   ·have:=PX h c m (by omega) hm
    grind
  ·have hb:¬p.t-t<0:=by grind
   simp only[go_sem];refine hK _ _ ⟨i,m,by omega,by omega,by omega,h0,h1,U,h8,h9,rfl,hz,fun _=>?_⟩
   grind[fG]
 ·have Y:i=j:=by grind
  subst Y;have X:bs l t=i:=aBv hj hz hy;simp only[go_sem,h0,h1,U,h8,h9,Z];have E:decide ((i:Int)<(l.length:Int))=true->(l.map cF).getD i []=cF (eI l i):=fun J=>by grind[fG]
  have aa:decide ((i:Int)<(l.length:Int))=true->0<=(i:Int)/\(i:Int)<(l.length:Int):=fun J=>by grind
  refine⟨fun J=>⟨aa J,by rw[E J];rfl⟩,fun J=>by rw[E J];exact Xae _,int (W ((eI l i).t-t)),fun J=>by rw[E J,EC];exact(ML _ t).q rfl,?_⟩;simp only[go_sem];have e:CB l t=(decide ((i:Int)<(l.length:Int))&&(W ((eI l i).t-t) == 0)):=by
   unfold CB;rw[X];by_cases O:i<l.length
   ·have ac:=h.pt _ (Xac (aI O).choose_spec)
    grind[fG,dQ]
   grind
  rw[X,e];exact .refl _
def anB(p q:Point)(t:Int):Int:=W (p.a+IntKind.i64.wrap (Int.tdiv (W (W (W (W (t-p.t)*W (q.a-p.a))+W (q.t-p.t))-1)) (W (q.t-p.t))))
def LN(l:List Point)(t:Int):Int:=
 if CB l t=true then(eI l (bs l t)).a else if((bs l t:Int) == 0)=true then AY (eI l 0) t
 else if((bs l t:Int) == (l.length:Int))=true then AY (eI l (bs l t-1)) t else anB (eI l (bs l t-1)) (eI l (bs l t)) t
def axO(l:List Point)(t:Int):bs l t<=l.length:=by have:=congrArg List.length (List.takeWhile_append_dropWhile (p:=fun p:Point=>decide (p.t<t)) (l:=l));rw[Xaf]at this;unfold bs;omega
def aeD(l:List Point)(t:Int)(h:TravB l)(ht:0<=t/\t<=1073741824):PC prog 272 [.sl (l.map cF),int t] (int (LN l t)):=by
 have hl:=h.len;have hb:=axO l t;refine pcd func272 rfl rfl ?_;simp only[go_sem];refine aO (aeU l t h ht) ?_;simp only[go_sem];obtain⟨i,hi⟩:∃i,bs l t=i:=⟨_,rfl⟩;have Z:LN l t=if CB l t=true then(eI l i).a else if((i:Int) == 0)=true then AY (eI l 0) t else if((i:Int) == (l.length:Int))=true then AY (eI l (i-1)) t else anB (eI l (i-1)) (eI l i) t:=by grind[LN]
 rw[hi]at hb |-;rw[Z];apply aA <;> intro h1
 ·have aa:i<l.length:=by grind[CB]
  obtain⟨p,A⟩:=aI aa;have b1:=inB aa;simp only[go_sem,aC A,b1];rw[if_pos h1,fG A];exact .refl _
 simp only[go_sem];apply aA <;> intro h2
 ·obtain⟨p,A⟩:=aI (show 0<l.length by omega);simp only[go_sem];refine kB ?_;simp only[go_sem,aC A];rw[if_neg (by grind),if_pos h2,fG A];have b0:(0:Int)<=0/\(0:Int)<(l.length:Int):=by omega
  exact⟨b0,b0,.refl _⟩
 simp only[go_sem];apply aA <;> intro h3
 ·have ac:i≠0:=by grind
  obtain⟨p,A⟩:=aI (show i-1<l.length by omega);simp only[go_sem];refine kB ?_;have w:IntKind.i64.wrap ((i:Int)-1)=((i-1:Nat):Int):=by grind[bD]
  have b1:=inB (show i-1<l.length by omega);simp only[go_sem,w,aC A,b1];rw[if_neg (by grind),if_neg (by grind),if_pos h3,fG A];exact .refl _
 have ac:i≠0:=by grind
 have ah:i≠l.length:=by grind
 obtain⟨p,A⟩:=aI (show i-1<l.length by omega);obtain⟨q,hq⟩:=aI (show i<l.length by omega);have w:IntKind.i64.wrap ((i:Int)-1)=((i-1:Nat):Int):=by grind[bD]
 have b1:=inB (show i-1<l.length by omega);have b2:=inB (show i<l.length by omega);have hm:=(h.mono (i-1) (by omega)).1;rw[show i-1+1=i by omega,fG A,fG hq]at hm;have ai:=h.pt p (Xac A);have ag:=h.pt q (Xac hq);rw[if_neg (by grind),if_neg (by grind),if_neg (by grind),fG A,fG hq];simp only[go_sem];refine DT (fun T H'=>T 1=int t/\∃E F,T 7=.op E 0 0/\T 8=.op F 0 0/\H' E=some (⟨116,2,[cF p]⟩:Row)/\H' F=some (⟨116,2,[cF q]⟩:Row)/\E≠F) ?_ fun K hK=>?_
 ·rintro ρ H ⟨h1,E,F,U,X,R7,R8,J⟩;simp only[go_sem,U,X,R7,R8];refine jI [E,F] [(0,true),(1,true),(2,true),(3,true),(4,true),(5,true),(6,true),(7,true),(8,true),(9,true),(10,true),(11,true),(12,true),(13,true),(14,true),(15,false),(16,false),(17,false),(18,false)] (by grind) (by kernel_rfl) fun Hp O A hr _ af=>?_
  have P7:=(A E (by simp)).trans R7;have P8:=(A F (by simp)).trans R8;simp only[go_sem,h1,U,X,P7,P8];refine⟨atV (by omega),fF fun _ Hm _ _=>?_⟩;simp only[go_sem];exact .refl _
 ·refine C3 [] (.q 0 (.q 1 (.q 2 (.q 3 (.q 4 (.q 5 (.q 6 (.q 7 (.q 8 (.a2 9 (.a1 10 (.a1 11 (.a1 12 .nil))) 10 (.a1 9 (.a1 11 (.a1 12 .nil))))))))))))) (by simp) (by kernel_rfl) fun Hp O _ ae _ _=>?_
  simp only[go_sem,w,aC A,aC hq,b1,b2];have rP:∀{a b:Nat} {G:aG} {z:List AV} {y:List AV},a≠b->G a=some (⟨116,2,[z]⟩:Row)->aH G b (some (⟨116,2,[y]⟩:Row)) a=some (⟨116,2,[z]⟩:Row):=fun ab hG=>by rw[aD _ _ _ _ ab];exact hG
  refine lF ?_ ?_
  ·simp only[go_sem];refine aJ fun E U=>?_
   simp only[go_sem];refine aJ fun F X=>?_
   have J:=aV (aB _ _ _) X;have S7:=jW (r':=(⟨116,2,[[int 0,int 0]]⟩:Row)) (aB O E (some (⟨116,2,[[int 0,int 0]]⟩:Row))) X;have Y:=aB (aH O E (some (⟨116,2,[[int 0,int 0]]⟩:Row))) F (some (⟨116,2,[[int 0,int 0]]⟩:Row));generalize aH (aH O E _) F _=G at S7 Y |-;simp only[go_sem];refine aM S7 (by simp[jJ]) ?_;simp only[go_sem];refine aM (axF Y J.symm) (by simp[jJ]) ?_;simp only[go_sem];refine fF fun _ Hm _ hm=>hK _ _ ⟨rfl,E,F,rfl,rfl,?_,?_,J⟩
   all_goals grind[aB]
  ·simp only[go_sem];refine aJ fun F X=>?_
   simp only[go_sem];refine aJ fun E U=>?_
   have J:=(aV (aB _ _ _) U).symm;have Y:=jW (r':=(⟨116,2,[[int 0,int 0]]⟩:Row)) (aB O F (some (⟨116,2,[[int 0,int 0]]⟩:Row))) U;have S7:=aB (aH O F (some (⟨116,2,[[int 0,int 0]]⟩:Row))) E (some (⟨116,2,[[int 0,int 0]]⟩:Row));generalize aH (aH O F _) E _=G at S7 Y |-;simp only[go_sem];refine aM S7 (by simp[jJ]) ?_;simp only[go_sem];refine aM (axF Y J.symm) (by simp[jJ]) ?_;simp only[go_sem];refine fF fun _ Hm _ hm=>hK _ _ ⟨rfl,E,F,rfl,rfl,?_,?_,J⟩
   all_goals grind[aB]
def aaB{α:Type}{p:α->Bool}:∀l:List α,(∀c x,c<(l.takeWhile p).length->l[c]?=some x->p x=true)/\(∀x,l[(l.takeWhile p).length]?=some x->p x=false)
 | []=>⟨fun c x h _=>by grind,fun x h=>by grind⟩
 | a::r=>by
  obtain⟨h1,A⟩:=aaB (p:=p) r;by_cases E:p a=true
  ·simp_all;grind
  simp_all
def Yo{p:Point}{t:Int}(A:0<=p.t/\p.t<=4096/\p.t<=p.a/\p.a<=p.t+4096)(e:p.t=t):AY p t=p.a:=by grind[AY,dQ]
def arX{p q:Point}{t:Int}(E:0<=p.t/\p.t<=4096/\p.t<=p.a/\p.a<=p.t+4096)(F:0<=q.t/\q.t<=4096/\q.t<=q.a/\q.a<=q.t+4096)(A:p.t<q.t)(e:p.t=t):ID p q t=p.a:=by
 unfold ID;subst e;rw[Int.sub_self,show W 0=0 from rfl,Int.zero_mul,show W 0=0 from rfl,Int.zero_add,dQ (n:=q.t) (by omega),dQ (n:=q.t-p.t) (by omega),dQ (n:=q.t-p.t-1) (by omega),
  Xcf (by omega),Int.ediv_eq_zero_of_lt (by omega) (by omega)]
 rw[show IntKind.i64.wrap 0=0 from rfl,Int.add_zero,dQ (by omega)]
def ayG{p q:Point}{t:Int}(U:0<=p.t/\p.t<=4096/\p.t<=p.a/\p.a<=p.t+4096)(O:0<=q.t/\q.t<=4096/\q.t<=q.a/\q.a<=q.t+4096)(X:p.a<=q.a)(h1:p.t<=t)(T:t<q.t):ID p q t=anB p q t:=by
 unfold ID anB;have J:0<=t-p.t/\t-p.t<=4096:=by omega
 have F:0<=q.a-p.a/\q.a-p.a<=8192:=by omega
 have E:0<=(t-p.t)*(q.a-p.a):=Int.mul_nonneg J.1 F.1;have A:(t-p.t)*(q.a-p.a)<=4096*8192:=Int.mul_le_mul J.2 F.2 F.1 (by omega);rw[dQ (n:=t-p.t) (by omega),dQ (n:=q.a-p.a) (by omega),dQ (n:=(t-p.t)*(q.a-p.a)) (by omega),dQ (n:=q.t-p.t) (by omega)];generalize (t-p.t)*(q.a-p.a)=m at E A;rw[dQ (n:=m+q.t) (by omega),dQ (n:=m+q.t-p.t) (by omega),dQ (n:=m+(q.t-p.t)) (by omega),show m+q.t-p.t=m+(q.t-p.t)by omega]
def Xs(l:List Point)(t:Int):Int:=match (List.range (l.length-1)).find? (rW l t)with
 | some k=>ID (eI l k) (eI l (k+1)) t
 | none=>if decide (t>(eI l 0).t)=true then AY (eI l (l.length-1)) t else AY (eI l 0) t
def Me{l:List Point}{t:Int}{k:Nat}(h:(List.range (l.length-1)).find? (rW l t)=some k):Xs l t=ID (eI l k) (eI l (k+1)) t:=by unfold Xs;rw[h]
def UF{l:List Point}{t:Int}(h:(List.range (l.length-1)).find? (rW l t)=none)(A:t>(eI l 0).t):Xs l t=AY (eI l (l.length-1)) t:=by unfold Xs;rw[h];exact if_pos (by simpa using A)
def Uq{l:List Point}{t:Int}(h:(List.range (l.length-1)).find? (rW l t)=none)(A:¬t>(eI l 0).t):Xs l t=AY (eI l 0) t:=by unfold Xs;rw[h];exact if_neg (by simpa using A)
def aAT{l:List Point}{t:Int}{i:Nat}(A:bs l t=i)(h:i<l.length/\(eI l i).t=t):LN l t=(eI l i).a:=by unfold LN CB;rw[A];exact if_pos (by simp;omega)
def ayJ{l:List Point}{t:Int}{i:Nat}(A:bs l t=i)(h:¬(i<l.length/\(eI l i).t=t)):LN l t=if((i:Int) == 0)=true then AY (eI l 0) t
 else if((i:Int) == (l.length:Int))=true then AY (eI l (i-1)) t else anB (eI l (i-1)) (eI l i) t:=by
 unfold LN CB;rw[A];exact if_neg (by simp;intro E;omega)
def alF{l:List Point}{t:Int}(h:TravB l)(hr:jY l=[])(ht:0<=t/\t<=1073741824):kU l t=LN l t:=by
 have hl:=h.len;have hb:=axO l t;obtain⟨af,ae⟩:=aaB (p:=fun p:Point=>decide (p.t<t)) l;have A:∀c,c<bs l t->(eI l c).t<t:=fun c X=>by obtain⟨x,hx⟩:=aI (show c<l.length by omega);have:=af c x X hx;rw[fG hx];simpa using this
 have T:bs l t<l.length->t<=(eI l (bs l t)).t:=fun ag=>by obtain⟨x,hx⟩:=aI ag;have:=ae x hx;rw[fG hx];simpa using this
 have Y:∀c,c<l.length->0<=(eI l c).t/\(eI l c).t<=4096/\(eI l c).t<=(eI l c).a/\(eI l c).a<=(eI l c).t+4096:=fun c X=>by obtain⟨x,hx⟩:=aI X;rw[fG hx];exact h.pt x (Xac hx)
 unfold kU;have ac:DH l t=false:=by unfold DH;rw[hr];simp;omega
 rw[if_neg (by rw[ac];simp)];show Xs l t=LN l t;obtain⟨i,hi⟩:∃i,bs l t=i:=⟨_,rfl⟩;rw[hi]at hb A T;have F:(∀c,c+1<l.length->rW l t c=false)->(List.range (l.length-1)).find? (rW l t)=none:=fun hn=>L8 fun c X=>hn c (by have:=Xai.1 X;omega)
 have O:∀k,k+1<l.length->(∀c,c<k->rW l t c=false)->rW l t k=true->(List.range (l.length-1)).find? (rW l t)=some k:=fun k hk hn hy=>Tb (k:=k) (fun y ab=>by rw[List.take_range]at ab;exact hn y (by have:=Xai.1 ab;omega)) (zJ (by omega)) hy
 have E:∀c,c+1<l.length->(eI l (c+1)).t<=t->rW l t c=false:=fun c _ X=>by unfold rW;simp;omega
 by_cases Z:i<l.length/\(eI l i).t=t
 ·rw[aAT hi Z];obtain⟨J,he⟩:=Z;have aa:∀c,c+1<l.length->c+1<=i->rW l t c=false:=fun c X aj=>E c X (by
   by_cases e:c+1=i
   ·rw[e];omega
   ·have:=A (c+1) (by omega);omega)
  by_cases U:i+1<l.length
  ·have hm:=h.mono i U;rw[Me (O i U (fun c X=>aa c (by omega) (by omega)) (by unfold rW;simp;omega))];exact arX (Y i J) (Y (i+1) U) hm.1 he
  ·have hn:=F fun c X=>aa c X (by omega)
   have ai:i=l.length-1:=by omega
   by_cases h0:i=0
   ·rw[h0]at he J |-;rw[Uq hn (by omega)];exact Yo (Y 0 J) he
   ·have:=A 0 (by omega);rw[UF hn this,<-ai];exact Yo (Y i J) he
 ·rw[ayJ hi Z];by_cases h0:i=0
  ·subst h0;have hh:=T (by omega);have ah:(eI l 0).t≠t:=fun e=>Z ⟨by omega,e⟩
   rw[Uq (F fun c X=>by
    have:(eI l 0).t<=(eI l c).t:=by
     by_cases e:c=0
     ·rw[e];omega
     ·have:=PX h 0 c (by omega) (by omega);omega
    unfold rW;simp;omega) (by omega),if_pos (by simp)]
  ·rw[if_neg (by simp;omega)];by_cases hn:i=l.length
   ·have:=A 0 (by omega);rw[UF (F fun c X=>E c X (by have:=A (c+1) (by omega);omega)) this,if_pos (by simp;omega),hn]
   ·have J:i<l.length:=by omega
    have hh:=T J;have ah:(eI l i).t≠t:=fun e=>Z ⟨J,e⟩
    have ak:=A (i-1) (by omega);have e1:i-1+1=i:=by omega
    rw[Me (O (i-1) (by omega) (fun c X=>E c (by omega) (by have:=A (c+1) (by omega);omega)) (by unfold rW;rw[e1];simp;omega)),if_neg (by simp;omega)];rw[e1];have hm:=h.mono (i-1) (by omega);rw[e1]at hm;exact ayG (Y (i-1) (by omega)) (Y i J) hm.2 (by omega) (by omega)
def agQ(l:List Point)(t:Int)(F:jY l=[]):PC prog 256 [.sl (l.map cF),int t] (int (kU l t)):=by
 have h:=Qi F;refine pcd func256 rfl rfl ?_;simp only[go_sem];refine aO (Tj _ _ _) ?_;simp only[go_sem];refine⟨_,fun _=>(Fc l h).q rfl,?_⟩;simp only[go_sem];have A:DH l t=(!(decide (t>=0)&&decide (t<=1073741824))|| !true):=by unfold DH;rw[F,Xar];simp
 rw[<-A];apply aA <;> intro E
 ·simp only[go_sem];exact bZ (by unfold kU;rw[if_pos E])
 have J:0<=t/\t<=1073741824:=by unfold DH at E;simp at E;omega
 simp only[go_sem];refine aO (aeD l t h J) ?_;simp only[go_sem];exact bZ (alF h F J).symm
def Uc(n:Network)(i:Int):PC prog 233 [.agg (bA n),int i] (boo (O0 n i)):=by refine pcd func233 rfl rfl ?_;simp only[go_sem];exact .refl _
def TZ(a:Arc):List AV:=[int a.src,int a.dst,int a.profile]
def atY(a:Arc):PC prog 255 [.agg (fK a)] (.agg (TZ a)):=by
 refine pcb (fun t=>t == 2) func255 rfl rfl ?_;simp only[go_sem];refine aJ fun j A=>?_
 simp only[go_sem];refine aM (aB _ _ _) (by simp) ?_;simp only[go_sem];exact .refl _
structure NetOk(n:Network):Prop where
 arcs:n.arcs.length<=1048576
 travel:∀a∈n.arcs,jY a.travel=[]
 slow:∀a∈n.arcs,a.slow.length<=1048576
def V2(a:Arc)(t:Int)(ha:jY a.travel=[])(aa:a.slow.length<=1048576):PC prog 235 [.agg (fK a),int t] (int (tL a t)):=by
 refine pcd func235 rfl rfl ?_;simp only[go_sem];refine aO (agQ a.travel t ha) ?_;simp only[go_sem];refine⟨fun ρ _=>∃k:Nat,k<=a.slow.length/\ρ 1=int t/\ρ 13=.sl (a.slow.map cF)/\ρ 14=int a.slow.length/\ρ 5=int ((a.slow.take k).foldl (rA t) (kU a.travel t))/\ρ 15=int k,fun ρ _=>a.slow.length-aU (ρ 15),⟨0,Xab _,rfl,rfl,rfl,rfl,rfl⟩,?_⟩;rintro ρ H ⟨k,hk,h1,E,J,X,A⟩;simp only[go_sem,J,A];refine aA (fun F=>?_) (fun U=>?_)
 ·have F:=bF F;obtain⟨p,hp⟩:=aI F;have b1:=inB F;have hs:(a.slow.take (k+1)).foldl (rA t) (kU a.travel t)=rA t ((a.slow.take k).foldl (rA t) (kU a.travel t)) p:=by rw[aZ hp,Xbq];rfl
  simp only[go_sem,E,A,aC hp,b1];refine aJ fun i7 Y=>?_
  simp only[go_sem];refine aM (aB _ _ _) (by simp[jJ]) ?_;generalize T:aH (aH _ i7 _) i7 _=HGi7;have R7:HGi7 i7=some (⟨116,2,[cF p]⟩):=by rw[<-T,aB];rfl
  clear T Y;simp only[go_sem,h1,R7];refine qN (fun O _=>O 1=int t/\O 13=.sl (a.slow.map cF)/\O 14=int a.slow.length/\O 5=int ((a.slow.take (k+1)).foldl (rA t) (kU a.travel t))/\O 15=int k) ?_ fun K hK _ _=>aA (fun Z=>?_) (fun Z=>?_)
  ·clear h1 E J X A;rintro ρ H ⟨h1,E,J,X,A⟩;simp only[go_sem,h1,E,J,X,A,aW k];exact⟨⟨k+1,F,rfl,rfl⟩,msr F⟩
  ·simp only[go_sem,X,R7];refine hK _ _ ⟨h1,E,J,?_,A⟩;simp only[go_sem];rw[hs,rA,if_pos Z];rfl
  ·simp only[go_sem];refine hK _ _ ⟨h1,E,J,?_,A⟩;simp only[go_sem,X];rw[hs,rA,if_neg (by rw[Z];simp)]
 ·have U:=bG hk U;subst U;simp only[go_sem,X];rw[Xad];exact .refl _
def atR(n:Network)(p f t:Int)(hl:n.arcs.length<=1048576):PC prog 234 [.agg (bA n),int p,int f,int t] (.tup [.agg (fK ((sS n p f t).getD Fz)),boo (sS n p f t).isSome]):=by
 refine pcd func234 rfl rfl ?_;simp only[go_sem];refine aJ fun j8 ah=>?_
 generalize ab:aH _ j8 _=HGj8;have R8:HGj8 j8=some (⟨119,6,[fK Fz]⟩):=by rw[<-ab,aB];rfl
 clear ab ah;simp only[go_sem];refine aJ fun J aa=>?_
 have F:j8≠J:=aV R8 aa;simp only[go_sem];refine aM (aB _ _ _) (by simp[]) ?_;generalize X:aH (aH _ J _) J _=HGj10;replace R8:=kpR X F F R8;have U:HGj10 J=some (⟨344,3,[[int f,int t,int p]]⟩):=by rw[<-X,aB];rfl
 clear X aa;simp only[go_sem,U,R8];refine⟨fun ρ H=>∃k:Nat,k<=n.arcs.length/\ρ 8=.op j8 0 0/\ρ 10=.op J 0 0/\ρ 18=.sl (n.arcs.map fK)/\ρ 19=int n.arcs.length/\ρ 20=int k/\H j8=some (⟨119,6,[fK Fz]⟩:Row)/\H J=some (⟨344,3,[[int f,int t,int p]]⟩:Row)/\∀a∈n.arcs.take k,Ui p f t a=false,fun ρ _=>n.arcs.length-aU (ρ 20),⟨0,Xab _,rfl,rfl,rfl,rfl,rfl,R8,U,by simp⟩,?_⟩;clear R8 U;rintro ρ H ⟨k,hk,h8,aj,am,ai,ac,R8,U,hz⟩;simp only[go_sem,ai,ac];refine aA (fun Z=>?_) (fun ae=>?_)
 ·have Z:=bF Z;obtain⟨a,af⟩:=aI Z;have b1:=inB Z;simp only[go_sem,am,ac,aC af,b1];refine aJ fun O Y=>?_
  have E:j8≠O:=aV R8 Y;have A:J≠O:=aV U Y;simp only[go_sem];refine aM (aB _ _ _) (by simp[pJ]) ?_;generalize T:aH (aH _ O _) O _=HGi12;replace R8:=kpR T E E R8;replace U:=kpR T A A U;have ag:HGi12 O=some (⟨119,6,[fK a]⟩):=by rw[<-T,aB];rfl
  clear T Y;simp only[go_sem];refine jI [O] [(0,true),(1,true),(2,false),(3,false)] (by simp[ag]) (by kernel_rfl) fun Hp Hr hp hr _ ar=>?_
  have an:=(hp O (by simp)).trans ag;have ak:=(hr J (by simp[A])).trans U;simp only[go_sem,an];refine⟨_,(atY a).q rfl,?_⟩;simp only[go_sem,aj,ak,TZ];refine fF fun _ Hm ao al=>?_
  have M8:Hm j8=some (⟨119,6,[fK Fz]⟩:Row):=by
   have n1:j8∉[O]:=by simp[E]
   rw[al j8 n1];exact(hr j8 n1).trans R8
  have ap:=(ao O (by simp)).trans ag;have aq:Hm J=_:=(al J (by simp[A])).trans ak;simp only[go_sem];have ea:(a.src == f&&(a.dst == t&&(a.profile == p&&true)))=Ui p f t a:=by unfold Ui;rw[Xbo,Bool.and_assoc]
  rw[ea];apply aA <;> intro hb
  ·simp only[go_sem,h8,ap];refine aM M8 (by simp[pJ]) ?_;simp only[go_sem,h8,pJ];have:sS n p f t=some a:=Tb hz af hb;rw[this];exact .refl _
  ·simp only[go_sem,h8,aj,am,ai,ac,aW k];exact⟨⟨k+1,Z,rfl,M8,aq,aR (p:=fun a=>Ui p f t a=false) af hb hz⟩,msr Z⟩
 ·have ae:=bG hk ae;subst ae;rw[Xad]at hz;simp only[go_sem,h8];refine aM R8 (by simp) ?_;simp only[go_sem,h8];have:sS n p f t=none:=L8 hz;rw[this];exact .refl _
def apH(n:Network)(p f t time:Int)(U:NetOk n):PC prog 211 [.agg (bA n),int p,int f,int t,int time] (.tup [int (fB n p f t time).1,int (fB n p f t time).2.1,int (fB n p f t time).2.2]):=by
 refine pcd func211 rfl rfl ?_;simp only[go_sem];refine aO (Uc n f) ?_;simp only[go_sem];refine⟨_,fun _=>(Uc n t).q rfl,?_⟩;simp only[go_sem];apply aA <;> intro h1
 ·simp only[go_sem];have:fB n p f t time=(0,0,11):=by unfold fB;rw[if_pos h1]
  rw[this];exact .refl _
 simp only[go_sem];apply aA <;> intro X
 ·simp only[go_sem];have:fB n p f t time=(time,0,0):=by unfold fB;rw[if_neg (by rw[h1];simp),if_pos X]
  rw[this];exact .refl _
 have Z:fB n p f t time=match sS n p f t with|some a=>(tL a time,a.miles,0)|none=>(0,0,12):=by unfold fB;rw[if_neg (by rw[h1];simp),if_neg (by rw[X];simp)];rfl
 rw[Z];simp only[go_sem];refine aO (atR n p f t U.arcs) ?_;simp only[go_sem];refine aJ fun J F=>?_
 simp only[go_sem];refine aM (aB _ _ _) (by simp[pJ]) ?_;generalize A:aH (aH _ J _) J _=HGj13;have E:HGj13 J=some (⟨119,6,[fK ((sS n p f t).getD Fz)]⟩):=by rw[<-A,aB];rfl
 clear A F;simp only[go_sem];cases Y:sS n p f t with
 | none=>refine aA (fun _=>?_) (fun T=>by simp at T);simp only[go_sem];exact .refl _
 | some a=>have O:=List.mem_of_find?_eq_some Y;refine aA (fun T=>by simp at T) (fun _=>?_);rw[Y]at E;simp only[go_sem,Xbr];refine kB ?_;simp only[go_sem,Xbr,E];refine⟨_,(V2 a time (U.travel a O) (U.slow a O)).q rfl,?_⟩;simp only[go_sem,Xbr,E];exact .refl _
def YG(s:Stop)(a:Int):PC prog 213 [.agg (eQ s),int a] (.tup [int (if eF a s.start>s.close then 0 else eF a s.start),int (if eF a s.start>s.close then 14 else 0)]):=by
 refine pcd func213 rfl rfl ?_;simp only[go_sem];apply aA <;> intro A
 ·have A:eF a s.start>s.close:=by simpa using A
  simp only[go_sem];rw[if_pos A,if_pos A];exact .refl _
 ·have A:¬eF a s.start>s.close:=by simpa using A
  simp only[go_sem];rw[if_neg A,if_neg A];exact .refl _
end Go.Proofs.YthephioccidfgaaGreatDoor.Sq
end
