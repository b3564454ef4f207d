/- Texts joined by a program: AuE, AuF. -/
import Derived.Test.YtdlijlecpopadaaGreatDoorZv22
set_option linter.unusedSimpArgs false
set_option linter.unusedVariables false
set_option maxRecDepth 100000
section
namespace Go.Proofs.YtdlijlecpopadaaGreatDoor.Sq
open Go.Aw Go.Aw.D Go.Proofs Ty
open Mv (fF eI NC.pc bK)
def jH(o:Order)(i:Int):List Visit:=(if decide (o.pick.place≥0)=true then[⟨i,false⟩]else[])++(if decide (o.drop.place≥0)=true then[⟨i,true⟩]else[])
def iP(os:List Order)(i:Int):List Visit:=if oH i os.length=true then[]else match os[i.toNat]? with|some o=>jH o i|none=>[]
theorem Hx(o:Order)(i:Int):(jH o i).length≤2:=by unfold jH;split <;> split <;> simp
theorem xK(os:List Order)(i:Int):(iP os i).length≤2:=by
 unfold iP;split
 · simp
 · split
   · exact Hx _ _
   · simp
theorem DR(os:List Order)(i:Int):PC Tryz.prog 64 [.sl (os.map aX),int i] (.sl ((iP os i).map cK)):=by
 refine PC.body (c:=Tryz.f64.body.getD .skip) (fun t=>t == 5) mixed Tryz.func64 rfl (by kernel_rfl) ?_;unfold Tryz.f64;simp only[Option.getD_some];simp only[go_sem];refine aN fun j hj=>?_
 simp only[go_sem];refine PC.use (Nt os i) ?_;simp only[go_sem];refine aA (fun h0=>?_) (fun h0=>?_)
 · have hb:oH i os.length=true:=by simpa using h0
   simp only[go_sem];rw[iP,if_pos hb];exact .refl _
 have hb:oH i os.length=false:=by simpa using h0
 have b0:0≤i∧i<(os.length:Int):=by simp only[oH,Bool.or_eq_false_iff,decide_eq_false_iff_not]at hb;omega
 obtain⟨o,ho⟩:=bC (show i.toNat<os.length by omega);rw[iP,if_neg (by rw[hb];simp),ho];simp only[go_sem,aH ho,b0];refine aA (fun h1=>?_) (fun h1=>?_)
 · simp only[go_sem,aH ho,b0]
   refine bA (aB _ _ _) ⟨rfl,rfl⟩ ⟨rfl,trivial⟩ (by simp) (fun j' hj'=>?_);simp only[go_sem,aH ho,b0];refine aA (fun h2=>?_) (fun h2=>?_)
   · simp only[go_sem,aH ho,b0]
     refine bA (aB _ _ _) ⟨rfl,rfl⟩ ⟨rfl,trivial⟩ (by simp) (fun j2 hj2=>?_);simp only[go_sem];have e:jH o i=[⟨i,false⟩,⟨i,true⟩]:=by unfold jH;rw[if_pos h1,if_pos h2];rfl
     rw[e];exact .row _ _ _ (aB _ _ _) (ConvE.refl _)
   · simp only[go_sem]
     have e:jH o i=[⟨i,false⟩]:=by unfold jH;rw[if_pos h1,if_neg (by rw[h2];simp)];rfl
     rw[e];exact .row _ _ _ (aB _ _ _) (ConvE.refl _)
 · simp only[go_sem,aH ho,b0]
   refine aA (fun h2=>?_) (fun h2=>?_)
   · simp only[go_sem,aH ho,b0]
     refine bA (aB _ _ _) ⟨rfl,rfl⟩ ⟨rfl,trivial⟩ (by simp) (fun j2 hj2=>?_);simp only[go_sem];have e:jH o i=[⟨i,true⟩]:=by unfold jH;rw[if_neg (by rw[h1];simp),if_pos h2];rfl
     rw[e];exact .row _ _ _ (aB _ _ _) (ConvE.refl _)
   · simp only[go_sem]
     have e:jH o i=[]:=by unfold jH;rw[if_neg (by rw[h1];simp),if_neg (by rw[h2];simp)];rfl
     rw[e];exact .row _ _ _ (aB _ _ _) (ConvE.refl _)
def dN(x:Instance)(v:Visit):Stop×Int:=if(wY x v).2=true then((wY x v).1,0)else(jM,if oH v.order x.orders.length=true then 2 else 19)
theorem M3(x:Instance)(v:Visit):PC Tryz.prog 91 [.sl (x.orders.map aX),.agg (cK v)] (.tup [.agg (iA (dN x v).1),int (dN x v).2]):=by
 refine PC.body (c:=Tryz.f91.body.getD .skip) (fun _=>false) mixed Tryz.func91 rfl (by kernel_rfl) ?_;unfold Tryz.f91;simp only[Option.getD_some];simp only[go_sem];refine aN fun i4 hi40=>?_
 generalize hGi4:aJ _ i4 _=HGi4;have R4:HGi4 i4=some (sV jM):=by rw[←hGi4,aB];try rfl
 clear hGi4 hi40;simp only[go_sem,R4];refine PC.use (Nt x.orders v.order) ?_;simp only[go_sem];refine aA (fun h1=>?_) (fun h1=>?_)
 · have h1:oH v.order x.orders.length=true:=by simpa using h1
   have e:dN x v=(jM,2):=by unfold dN wY;rw[if_pos h1,if_pos h1];rfl
   rw[e];simp only[go_sem];refine aU R4 (by simp) ?_;simp only[go_sem];exact .refl _
 have h1:oH v.order x.orders.length=false:=by simpa using h1
 have hin:0≤v.order∧v.order<(x.orders.length:Int):=by
   simp only[oH,Bool.or_eq_false_iff,decide_eq_false_iff_not]at h1;omega
 obtain⟨o,ho⟩:=bC (show v.order.toNat<x.orders.length by omega);have e0:wY x v=(nP o v,decide ((nP o v).place≥0)):=by unfold wY;rw[if_neg (by rw[h1];simp),ho]
 have e:dN x v=if(nP o v).place<0 then(jM,19)else(nP o v,0):=by
   unfold dN;rw[e0,if_neg (show ¬oH v.order x.orders.length=true by rw[h1];simp)];by_cases h:(nP o v).place<0
   · rw[if_pos h,if_neg (by simp;omega)]
   · rw[if_neg h,if_pos (by simp;omega)]
 rw[e];simp only[go_sem,aH ho,hin];refine aN fun i6 hi60=>?_
 have ne_i4_i6:i4≠i6:=aO R4 hi60;simp only[go_sem,R4];refine aU (aB _ _ _) (by simp[lP]) ?_;generalize hGi6:aJ (aJ _ i6 _) i6 _=HGi6;replace R4:=(congrFun hGi6.symm i4).trans ((aD _ _ _ _ ne_i4_i6).trans ((aD _ _ _ _ ne_i4_i6).trans R4));have R6:HGi6 i6=some (sV o.pick):=by rw[←hGi6,aB];try rfl
 clear hGi6 hi60;simp only[go_sem,R6,R4];refine bD (fun ρ' H'=>ρ' 4=.op i4 0 0∧ρ' 6=.op i6 0 0∧H' i4=some (sV jM)∧H' i6=some (sV (nP o v))) ?_ fun K hK=>aA (fun hb=>?_) (fun hb=>?_)
 · clear R4 R6
   rintro ρ H ⟨h4,h6,R4,R6⟩;simp only[go_sem,h4,h6,R6];refine aA (fun hp=>?_) (fun hp=>?_)
   · have hp:(nP o v).place<0:=by simpa using hp
     rw[if_pos hp];simp only[go_sem,h4];refine aU R4 (by simp) ?_;simp only[go_sem,h4];exact .refl _
   · have hp:¬(nP o v).place<0:=by simpa using hp
     rw[if_neg hp];simp only[go_sem,h4,h6,R6];refine aU R4 (by simp[lP]) ?_;simp only[go_sem,h4];exact .refl _
 · simp only[go_sem,aH ho,hin]
   refine aU R6 (by simp[lP]) ?_;simp only[go_sem];refine hK _ _ ⟨by simp only[go_sem],by simp only[go_sem],by rw[aD _ _ _ _ ne_i4_i6];exact R4,?_⟩;rw[aB,nP,if_pos hb];rfl
 · simp only[go_sem]
   refine hK _ _ ⟨by simp only[go_sem],by simp only[go_sem],R4,?_⟩;rw[nP,if_neg (by rw[hb];simp)];exact R6
def memU(set:Int)(k:Nat):List Int:=((List.range k).filter fun i:Nat=>iV set (i:Int)).map fun i:Nat=>(i:Int)
def OJ(set:Int):List Int:=memU set 63
def VT(a b:Int):Int:=W (a+b)
def QM(a b:Int):Int:=W (a-b)
theorem WG(a b:Int):PC Tryz.prog 190 [int a,int b] (int (VT a b)):=by
 refine PC.body (c:=Tryz.f190.body.getD .skip) (fun _=>false) mixed Tryz.func190 rfl (by kernel_rfl) ?_;unfold Tryz.f190;simp only[Option.getD_some];simp only[go_sem];exact .refl _
theorem Bi(a b:Int):PC Tryz.prog 191 [int a,int b] (int (QM a b)):=by
 refine PC.body (c:=Tryz.f191.body.getD .skip) (fun _=>false) mixed Tryz.func191 rfl (by kernel_rfl) ?_;unfold Tryz.f191;simp only[Option.getD_some];simp only[go_sem];exact .refl _
theorem Qs{α:Type}{l:List α}{k n:Nat}{x z:α}(hl:l.length=n)(h:l[k]?=some x):(l.take k++List.replicate (n-k) z).set k x=l.take (k+1)++List.replicate (n-(k+1)) z:=by
 have hlt:=(List.getElem?_eq_some_iff.1 h).1;have e:n-k=(n-(k+1))+1:=by omega
 rw[cN h,e,List.replicate_succ,List.set_append_right _ _ (by simp;omega)];have:k-(l.take k).length=0:=by simp;omega
 rw[this,List.set_cons_zero];simp
theorem EF{g:Nat}{op:Int→Int→Int}(a b:List Int)(hl:a.length≤1048576)(hab:a.length=b.length)(hok:aC Tryz.prog g=true)(hg:∀p q,PC Tryz.prog g [int p,int q] (int (op p q))):
   NC Tryz.prog 189 [.sl (a.map aM),.sl (b.map aM),.v (.func (.func g) #[] #[])] (Cn (List.zipWith op a b)) (fun j=>.tup [.os j,int 0]):=by
 have hzl:(List.zipWith op a b).length=a.length:=by rw[List.length_zipWith,←hab,Nat.min_self]
 refine NC.body (c:=Tryz.f189.body.getD .skip) (fun _=>false) mixed Tryz.func189 rfl (by kernel_rfl) ?_;unfold Tryz.f189;simp only[Option.getD_some];simp only[go_sem];refine aA (fun hb=>by rw[hab]at hb;simp at hb) (fun _=>?_);simp only[go_sem];refine⟨⟨by omega,by omega⟩,aN fun j hj=>?_⟩;simp only[go_sem];refine⟨fun ρ H=>∃k:Nat,k≤a.length∧ρ 0=.sl (a.map aM)∧ρ 1=.sl (b.map aM)∧ρ 2=.v (.func (.func g) #[] #[])∧ρ 8=.os j∧ρ 19=int a.length∧ρ 20=int k∧H j=some (Cn ((List.zipWith op a b).take k++List.replicate (a.length-k) 0)),fun ρ _=>a.length-bQ (ρ 20),⟨0,Nat.zero_le _,rfl,rfl,rfl,rfl,by simp only[go_sem,List.length_map],rfl,?_⟩,?_⟩
 · rw[aB]
   simp[Cn,List.map_replicate,aM]
 clear hj;rintro ρ H ⟨k,hk,h0,h1,h2,h8,h19,h20,R⟩;simp only[go_sem,h0,h1,h2,h8,h19,h20];refine aA (fun hlt=>?_) (fun hge=>?_)
 · have hlt:=cA hlt
   obtain⟨p,hp⟩:=bC hlt;obtain⟨q,hq⟩:=bC (show k<b.length by omega);have b1:=inB hlt;have b2:=inB (show k<b.length by omega);simp only[go_sem,h0,h1,h2,h8,h19,h20];refine kK [(0,true),(1,true),(2,true),(3,true),(4,true),(5,true),(6,true),(7,true),(8,false),(9,false),(10,false),(11,false),(12,false),(13,false)] (by kernel_rfl) ?_;simp only[go_sem,h0,h1,h2,h8,h19,h20,aH hp,aH hq,b1,b2,hok];refine PC.use (hg p q) ?_;have hlen:((List.zipWith op a b).take k++List.replicate (a.length-k) 0:List Int).length=a.length:=by simp[hzl];omega
   simp only[go_sem,h0,h1,h2,h8,h19,h20,R];refine⟨⟨b1.1,by rw[hlen];exact b1.2⟩,dU so3 R (by rw[List.length_map,hlen];exact⟨hlt,rfl,Nat.le_refl 1⟩) ?_⟩;have hz:(List.zipWith op a b)[k]?=some (op p q):=by rw[List.getElem?_zipWith,hp,hq]
   have hk0:k<((List.zipWith op a b).take k++List.replicate (a.length-k) 0:List Int).length:=by omega
   obtain⟨y,hy⟩:=bC hk0;have hs:=Qs (n:=a.length) (z:=(0:Int)) hzl hz;simp only[go_sem,h0,h1,h2,h8,h19,h20,aH hy,bG (show k≤4611686018427387904 by omega)];refine⟨⟨k+1,hlt,rfl,?_⟩,by simp only[aI];omega⟩;rw[←hs];show _=some (⟨3,1,_⟩:Row);rw[List.map_set];rfl
 · have hge:=cF hk hge
   subst hge;simp only[go_sem,h8];refine⟨j,rfl,?_⟩;rw[R,List.take_of_length_le (by omega)];simp
def pU(a b:List Int):List Int:=List.zipWith VT a b
def qV(a b:List Int):List Int:=List.zipWith QM a b
theorem aeV(a b:List Int)(hl:a.length≤1048576)(hab:a.length=b.length):NC Tryz.prog 149 [.sl (a.map aM),.sl (b.map aM)] (Cn (pU a b)) (fun j=>.tup [.os j,int 0]):=by
 refine NC.body (c:=Tryz.f149.body.getD .skip) (fun _=>false) mixed Tryz.func149 rfl (by kernel_rfl) ?_;unfold Tryz.f149;simp only[Option.getD_some];simp only[go_sem];refine NC.use (EF a b hl hab (by simp only[go_sem]) WG) fun j hj=>?_
 simp only[go_sem];exact⟨j,rfl,aB _ _ _⟩
theorem ZE(a b:List Int)(hl:a.length≤1048576)(hab:a.length=b.length):NC Tryz.prog 150 [.sl (a.map aM),.sl (b.map aM)] (Cn (qV a b)) (fun j=>.tup [.os j,int 0]):=by
 refine NC.body (c:=Tryz.f150.body.getD .skip) (fun _=>false) mixed Tryz.func150 rfl (by kernel_rfl) ?_;unfold Tryz.f150;simp only[Option.getD_some];simp only[go_sem];refine NC.use (EF a b hl hab (by simp only[go_sem]) Bi) fun j hj=>?_
 simp only[go_sem];exact⟨j,rfl,aB _ _ _⟩
theorem Mj(a c:List Int)(hl:a.length≤1048576):PC Tryz.prog 97 [.sl (a.map aM),.sl (c.map aM)] (boo (gK a c)):=by
 refine PC.body (c:=Tryz.f97.body.getD .skip) (fun _=>false) mixed Tryz.func97 rfl (by kernel_rfl) ?_;unfold Tryz.f97;simp only[Option.getD_some];simp only[go_sem];refine aA (fun hb=>?_) (fun hb=>?_)
 · simp only[go_sem]
   refine eI ?_;unfold gK;have:((a.length:Int) == (c.length:Int))=false:=by simpa[bne]using hb
   rw[this];rfl
 have hac:a.length=c.length:=by simp[bne]at hb;omega
 simp only[go_sem];refine⟨fun ρ _=>∃k:Nat,k≤a.length∧ρ 1=.sl (c.map aM)∧ρ 12=.sl (a.map aM)∧ρ 13=int a.length∧ρ 14=int k∧∀i∈(List.range a.length).take k,decide (a.getD i 0>c.getD i 0)=false,fun ρ _=>a.length-bQ (ρ 14),⟨0,Nat.zero_le _,rfl,rfl,by simp only[go_sem,List.length_map],rfl,by simp⟩,?_⟩;rintro ρ H ⟨k,hk,h1,h12,h13,h14,hz⟩;simp only[go_sem,h1,h12,h13,h14];refine aA (fun hlt=>?_) (fun hge=>?_)
 · have hlt:=cA hlt
   obtain⟨p,hp⟩:=bC hlt;obtain⟨q,hq⟩:=bC (show k<c.length by omega);have b1:=inB hlt;have b2:=inB (show k<c.length by omega);have e1:a.getD k 0=p:=by simp[List.getD,hp]
   have e2:c.getD k 0=q:=by simp[List.getD,hq]
   simp only[go_sem,h1,h12,h13,h14,aH hp,aH hq,b1,b2];refine aA (fun hb'=>?_) (fun hb'=>?_)
   · simp only[go_sem]
     refine eI ?_;unfold gK
     symm
     rw[Bool.and_eq_false_iff];right;exact UF (rN hlt) (by rw[e1,e2,hb'];rfl)
   · simp only[go_sem,h1,h12,h13,h14,bG (show k≤4611686018427387904 by omega)]
     exact⟨⟨k+1,hlt,rfl,bK (p:=fun i=>decide (a.getD i 0>c.getD i 0)=false) (rN hlt) (by rw[e1,e2];exact hb') hz⟩,by simp only[aI];omega⟩
 · have hge:=cF hk hge
   subst hge;simp only[go_sem];refine eI ?_;unfold gK
   symm
   rw[Bool.and_eq_true];refine⟨by simp[hac],List.all_eq_true.2 fun i hi=>?_⟩;rw[hz i (by rw[List.take_of_length_le (by simp)];exact hi)];rfl
def mR(c s:Int):Bool:=(decide (c≥0)&&decide (s≥0))&&(pV .andNot .i64 s c == 0)
theorem WI(t:VType)(s:Int):PC Tryz.prog 88 [.agg (bE t),int s] (boo (mR t.skills s)):=by
 refine PC.body (c:=Tryz.f88.body.getD .skip) (fun _=>false) mixed Tryz.func88 rfl (by kernel_rfl) ?_;unfold Tryz.f88;simp only[Option.getD_some];simp only[go_sem];exact .refl _
def WF(x:Instance)(s:List Int)(i:Int):List Int:=match x.orders[i.toNat]? with
 | some o=>if decide (o.pick.place<0)=true then pU s o.load else s
 | none=>s
def fH(x:Instance)(set dims:Int):List Int:=(OJ set).foldl (WF x) (List.replicate dims.toNat 0)
theorem iQ{α β:Type}{f:β→α→β}{l:List α}{k:Nat}{x:α}{b:β}(h:l[k]?=some x):(l.take (k+1)).foldl f b=f ((l.take k).foldl f b) x:=by rw[cN h,List.foldl_append];rfl
structure LoadB(x:Instance):Prop where
 dims:0≤LI x∧LI x≤1048576
 load:∀o∈x.orders,o.load.length=(LI x).toNat
 few:x.orders.length≤63
end Go.Proofs.YtdlijlecpopadaaGreatDoor.Sq
end
