/- Texts joined by a program: RxI, RxJ, RxK. -/
import Derived.Test.YtdlijlecpopadaaGreatDoorZv29
set_option linter.unusedSimpArgs false
set_option linter.unusedVariables false
set_option maxRecDepth 100000
section
namespace Go.Proofs.YtdlijlecpopadaaGreatDoor.Rx
open Go.Aw Go.Aw.D Go.Proofs Ty Go.Nu Go.So
open Nu (ltB geB)
abbrev kV(l:List Int):Row:=⟨3,1,l.map aM⟩
theorem CH(x:Int):(aM x).length=1:=(rfl)
theorem AP(x:Int):(aM x).drop 1=[]:=(rfl)
theorem Ns{α:Type}{l:List α}{k:Nat}{x:α}(h:l[k]?=some x):l.drop k=x::l.drop (k+1):=by
 obtain⟨hlt,rfl⟩:=List.getElem?_eq_some_iff.1 h;rw[List.getElem_cons_drop]
theorem WQ{α:Type}(l:List α):(tag l).Pairwise fun p q=>p.2<q.2:=by
 rw[List.pairwise_iff_getElem];intro i k hi hk hik;rw[F2 (List.getElem?_eq_getElem hi),F2 (List.getElem?_eq_getElem hk)];exact hik
theorem BS(H:aF)(j:Nat)(a b:Option Row):aJ (aJ H j a) j b=aJ H j b:=by
 funext k;unfold aJ;split <;> rfl
theorem lM{H:aF}{j:Nat}{r:Row}(h:H j=some r):aJ H j (some r)=H:=by
 funext k;unfold aJ;split
 · next e=>rw[e,h]
 · rfl
theorem Vw{L:List Int}{a b j:Nat}{x y:Int}{H0 H:aF}(hx:L[a]?=some x)(hy:L[b]?=some y)(hne:a≠b)(hH:H=aJ H0 j (some (kV L))):
   aJ (aJ H j (some (⟨3,1,(L.map aM).set a (aM y)⟩:Row))) j (some (⟨3,1,((L.map aM).set a (aM y)).set b (aM x++List.drop 1 (((L.map aM).set a (aM y)).getD b []))⟩:Row))=aJ H0 j (some (kV (swp L a b))):=by
 have hg:((L.map aM).set a (aM y)).getD b []=aM y:=by
   rw[List.getD,List.getElem?_set_ne hne,List.getElem?_map,hy];rfl
 rw[hH,BS,BS,hg,AP,List.append_nil];unfold swp kV;simp only[hx,hy,List.map_set]
abbrev TB:=Int×Nat
def fs(L:List TB):List Int:=L.map Prod.fst
theorem Ru(a:List TB):(fs a).length=a.length:=List.length_map _
theorem GR{L:List TB}{k:Nat}{x:TB}(h:L[k]?=some x):(fs L)[k]?=some x.1:=by unfold fs;rw[List.getElem?_map,h];rfl
structure CmpOk(gf:Nat)(cap':List AV)(lt:Int→Int→Bool)(ok:Int→Prop):Prop where
 call:aC Tryz.prog gf=true
 cmp:∀x y,ok x→ok y→∃n:Int,decide (n<0)=lt x y∧PC Tryz.prog gf (int x::int y::cap') (int n)
theorem Jo{l:List Nat}{H Hr Hm:aF}(h1:∀k,k∈l→Hm k=H k)(h2:∀k,k∉l→Hm k=Hr k)(h3:∀k,k∉l→Hr k=H k):Hm=H:=funext fun k=>by
 by_cases h:k∈l
 · exact h1 k h
 · rw[h2 k h,h3 k h]
theorem HK{gf:Nat}{cx:AV}{jc:Nat}{rc:Row}{cap':List AV}{lt:Int→Int→Bool}{ok:Int→Prop}(hs:SWO lt)(hc:CmpOk gf cap' lt ok)(hcv:∀H:aF,H jc=some rc→ConvL H [cx,.op jc 0 0] cap')(P X S:List TB)(a b j:Nat)(H0:aF)(K:AV→aF→Prop)(ha:a=P.length)(hb:b=a+X.length)
   (hrk:X.Pairwise fun p q=>p.2<q.2) (hok:∀x∈X,ok x.1) (hl:(P++X++S).length≤1048576) (hj:H0 j=some (kV (fs (P++X++S)))) (hjc:H0 jc=some rc) (hne:jc≠j)
   (hK:∀M:List TB,M.Perm X→M.Pairwise (tlt lt)→∀r,K r (aJ H0 j (some (kV (fs (P++M++S)))))):bN Tryz.prog 139 [.os j,int a,int b,(.fn gf [cx,.op jc 0 0])] H0 K:=by
 have hlen:P.length+X.length+S.length≤1048576:=by simpa[Nat.add_assoc]using hl
 have hcall:=hc.call;refine bN.body (c:=Tryz.f139.body.getD .skip) (fun _=>false) mixed Tryz.func139 rfl (by kernel_rfl) ?_;unfold Tryz.f139;simp only[Option.getD_some];simp only[go_sem];simp only[go_sem,bG (show a≤4611686018427387904 by omega)];refine⟨fun ρ H=>∃(k:Nat) (M:List TB),1≤k∧k≤max 1 X.length∧ρ 0=.os j∧ρ 1=int a∧ρ 2=int b∧ρ 3=(.fn gf [cx,.op jc 0 0])∧ρ 8=int (a+k:Nat)∧M.Perm (X.take k)∧M.Pairwise (tlt lt)∧H=aJ H0 j (some (kV (fs (P++M++X.drop k++S)))),fun ρ _=>b+1-bQ (ρ 8),
   ⟨1,X.take 1,Nat.le_refl _,Nat.le_max_left _ _,by simp only[go_sem],by simp only[go_sem],by simp only[go_sem],by simp only[go_sem],by simp only[go_sem],.refl _,by cases X <;> simp,by
     have:P++X.take 1++X.drop 1++S=P++X++S:=by rw[List.append_assoc P,List.take_append_drop]
     rw[this];exact(lM hj).symm⟩,?_⟩
 rintro ρ H ⟨k,M,hk1,hkm,e0,e1,e2,e3,e8,hp,hM,hH⟩;simp only[go_sem,e0,e1,e2,e3,e8];refine aA (fun hlt=>?_) (fun hge=>?_)
 · have hkx:k<X.length:=by have:=ltB hlt;omega
   obtain⟨y,hy⟩:=bC hkx;have hyX:y∈X:=List.mem_of_getElem? hy;have hML:M.length=k:=by rw[hp.length_eq,List.length_take];omega
   have hMok:∀z∈M,ok z.1∧z.2<y.2:=fun z hz=>by
     have hz:=hp.mem_iff.1 hz;refine⟨hok z (List.mem_of_mem_take hz),?_⟩;have hX:X=X.take k++y::X.drop (k+1):=by rw[←Ns hy,List.take_append_drop]
     rw[hX]at hrk;exact(List.pairwise_append.1 hrk).2.2 z hz y (List.mem_cons_self ..)
   simp only[go_sem,e0,e1,e2,e3,e8];refine⟨fun ρ H=>∃M1 M2:List TB,M=M1++M2∧(∀z∈M2,lt y.1 z.1=true)∧ρ 0=.os j∧ρ 1=int a∧ρ 2=int b∧ρ 3=(.fn gf [cx,.op jc 0 0])∧ρ 8=int (a+k:Nat)∧ρ 9=int (a+M1.length:Nat)∧H=aJ H0 j (some (kV (fs (P++M1++y::M2++X.drop (k+1)++S)))),fun ρ _=>bQ (ρ 9),
     ⟨M,[],by simp,by simp,by simp only[go_sem,e0],by simp only[go_sem,e1],by simp only[go_sem,e2],by simp only[go_sem,e3],by simp only[go_sem,e8],by simp only[go_sem,e8,hML],by rw[hH,Ns hy];simp only[List.append_assoc,List.cons_append,List.nil_append]⟩,?_⟩
   clear e0 e1 e2 e3 e8 hH;rintro ρ H ⟨M1,M2,rfl,hM2,e0,e1,e2,e3,e8,e9,hH⟩;have hml:M1.length+M2.length=k:=by rw[←hML,List.length_append]
   have R:H j=some (kV (fs (P++M1++y::M2++X.drop (k+1)++S))):=by rw[hH];exact aB _ _ _
   have Rc:H jc=some rc:=by rw[hH,aD _ _ _ _ hne];exact hjc
   have finish:(M1=[]∨∃M' z,M1=M'++[z]∧lt y.1 z.1=false)→(M1++y::M2).Perm (X.take (k+1))∧(M1++y::M2).Pairwise (tlt lt):=by
     intro hfin;refine⟨?_,LR hs hM (fun z hz=>?_) (fun z hz=>.inl (hM2 z (List.mem_of_mem_head? hz)))⟩
     · rw[cN hy]
       refine List.perm_middle.trans ?_;exact((hp.cons y)).trans (List.perm_append_singleton y _).symm
     · rcases hfin with rfl|⟨M',z',rfl,hz'⟩
       · cases hz
       · rw[List.getLast?_append,List.getLast?_singleton]at hz
         have:z'=z:=by simpa using hz
         subst this;exact .inr ⟨hz',(hMok z' (by simp)).2⟩
   rcases List.eq_nil_or_concat M1 with rfl|⟨M',z,rfl⟩
   · simp only[go_sem,e0,e1,e2,e3,e8,e9]
     refine gE [j,jc] [(0,true),(1,true),(2,true),(3,true),(4,true),(5,true),(6,true),(7,true),(8,true),(9,true),(10,true),(11,true),(12,true),(13,true),(14,true),(15,true),(16,true)] (by simp[R,Rc]) (by kernel_rfl) fun Hp Hr hp1 hr1 hp2 hr2=>?_
     have Rp:=(hp1 j (by simp)).trans R;have Rpc:=(hp1 jc (by simp)).trans Rc;have hz0:decide ((a:Int)>(a:Int))=false:=by simp
     simp only[List.length_nil,Nat.add_zero]at e9;simp only[go_sem,e0,e1,e2,e3,e8,e9,Rp,hz0,hcall];refine⟨int 0,?_⟩;simp only[go_sem,e0,e1,e2,e3,e8,e9];refine kA fun _ Hm hm1 hm2=>?_
     obtain rfl:=Jo hm1 hm2 hr1;refine aA (fun hb=>by cases hb) (fun _=>?_);simp only[go_sem,e0,e1,e2,e3,e8,bG (show a+k≤4611686018427387904 by omega)];obtain⟨f1,f2⟩:=finish (.inl rfl);refine⟨⟨k+1,_,by omega,by omega,?_,f1,f2,by rw[hH];simp only[List.append_assoc,List.cons_append,List.nil_append]⟩,by simp only[aI];omega⟩;rw[Nat.add_assoc]
   · rw[List.concat_eq_append]at *
     have hzy:(P++(M'++[z])++y::M2++X.drop (k+1)++S)[a+M'.length]?=some z:=by
       rw[ha];simp only[List.append_assoc];rw[List.getElem?_append_right (by omega),List.getElem?_append_right (by omega)];simp
     have hyy:(P++(M'++[z])++y::M2++X.drop (k+1)++S)[a+M'.length+1]?=some y:=by
       rw[ha];simp only[List.append_assoc];rw[List.getElem?_append_right (by omega),List.getElem?_append_right (by omega),List.getElem?_append_right (by simp;omega)];simp[Nat.add_sub_cancel_left,show P.length+M'.length+1-P.length-M'.length-1=0 by omega]
     simp only[List.length_append,List.length_singleton]at hml;have hfl:(fs (P++(M'++[z])++y::M2++X.drop (k+1)++S)).length=P.length+X.length+S.length:=by simp[fs];omega
     have b1:(0:Int)≤((a+M'.length+1:Nat):Int)∧((a+M'.length+1:Nat):Int)<((fs (P++(M'++[z])++y::M2++X.drop (k+1)++S)).length:Int):=by omega
     have b2:(0:Int)≤((a+M'.length:Nat):Int)∧((a+M'.length:Nat):Int)<((fs (P++(M'++[z])++y::M2++X.drop (k+1)++S)).length:Int):=by omega
     have g1:=aH (f:=aM) (GR hyy);have g2:=aH (f:=aM) (GR hzy);obtain⟨n,hn,hpc⟩:=hc.cmp y.1 z.1 (hok y hyX) (hMok z (by simp)).1;have e9':ρ 9=int ((a+M'.length+1:Nat):Int):=by rw[e9];simp[Nat.add_assoc]
     have hgt:decide (((a+M'.length+1:Nat):Int)>(a:Int))=true:=by simp;omega
     have w1:IntKind.i64.wrap (((a+M'.length+1:Nat):Int)-1)=((a+M'.length:Nat):Int):=by rw[aT (by omega)];omega
     simp only[go_sem,e0,e1,e2,e3,e8,e9'];refine gE [j,jc] [(0,true),(1,true),(2,true),(3,true),(4,true),(5,true),(6,true),(7,true),(8,true),(9,true),(10,true),(11,true),(12,true),(13,true),(14,true),(15,true),(16,true)] (by simp[R,Rc]) (by kernel_rfl) fun Hp Hr hp1 hr1 hp2 hr2=>?_
     have Rp:=(hp1 j (by simp)).trans R;have Rpc:=(hp1 jc (by simp)).trans Rc;simp only[go_sem,e0,e1,e2,e3,e8,e9',Rp,hgt,hcall,w1,g1,g2,b1,b2];refine⟨by omega,by omega,_,.inl ⟨_,.cons _ _ _ _ (.refl _) (.cons _ _ _ _ (.refl _) (hcv Hp Rpc)),hpc,rfl⟩,?_⟩;simp only[go_sem,e0,e1,e2,e3,e8,e9',hn];refine kA fun _ Hm hm1 hm2=>?_
     obtain rfl:=Jo hm1 hm2 hr1;refine aA (fun hb=>?_) (fun hb=>?_)
     · simp only[go_sem,e0,e1,e2,e3,e8,e9']
       refine Bm [] (.q 0 (.q 1 (.q 2 (.q 3 (.q 4 (.q 5 (.q 6 (.q 7 (.q 10 (.q 11 (.a2 8 (.a2 9 (.a1 12 (.a1 13 (.a1 14 (.a1 15 (.a1 16 (.a1 17 (.nil))))))) 12 (.a2 9 (.a1 13 (.a1 14 (.a1 15 (.a1 16 (.a1 17 (.nil)))))) 13 (.a1 9 (.a1 14 (.a1 15 (.a1 16 (.a1 17 (.nil)))))))) 12 (.a2 8 (.a2 9 (.a1 13 (.a1 14 (.a1 15 (.a1 16 (.a1 17 (.nil)))))) 13 (.a1 9 (.a1 14 (.a1 15 (.a1 16 (.a1 17 (.nil))))))) 13 (.a1 8 (.a1 9 (.a1 14 (.a1 15 (.a1 16 (.a1 17 (.nil))))))))))))))))))) (by simp) (by kernel_rfl) fun Hp Hr _ hr _ _=>?_
       obtain rfl:Hr=Hm:=funext fun i=>hr i (by simp)
       have hx:(fs (P++(M'++[z])++y::M2++X.drop (k+1)++S))[a+M'.length+1]?=some y.1:=GR hyy;have hy2:(fs (P++(M'++[z])++y::M2++X.drop (k+1)++S))[a+M'.length]?=some z.1:=GR hzy;simp only[go_sem,e0,e1,e2,e3,e8,e9',w1,R,b1,b2]
       repeat' (first|(refine yR ?_ ?_)|(refine⟨by omega,?_⟩)|(refine dU so3 R ⟨by rw[List.length_map];omega,rfl,Nat.le_refl 1⟩ ?_)|(refine dU so3 (aB _ _ _) ⟨by rw[List.length_set,List.length_map];omega,rfl,Nat.le_refl 1⟩ ?_)|(refine kA fun _ Hm _ hm=>?_;obtain rfl:Hm=_:=funext fun i=>hm i (by simp))|(simp only[go_sem,e0,e1,e2,e3,e8,e9',w1,R,b1,b2,g1,g2,List.length_set,List.length_map,AP,List.append_nil]))
       all_goals refine⟨⟨M',z::M2,by simp,?_,rfl,(Vw hx hy2 (by omega) hH).trans ?_⟩,by simp only[aI];omega⟩
       all_goals first
         | (intro u hu
            rcases List.mem_cons.1 hu with rfl|hu
            · exact hb
            · exact hM2 u hu)
         | (congr 2
            rw[SY _ _ _ (by omega)];have:=S4 (U:=fs (P++M')) (W:=fs (M2++X.drop (k+1)++S)) (x:=z.1) (y:=y.1) (i:=a+M'.length) (j:=a+M'.length+1) (by rw[Ru,List.length_append];omega) (by rw[Ru,List.length_append];omega);simp only[fs,List.map_append,List.map_cons,List.map_nil,List.append_assoc,List.cons_append,List.nil_append]at this ⊢;exact congrArg kV this)
     · simp only[go_sem,e0,e1,e2,e3,e8,bG (show a+k≤4611686018427387904 by omega)]
       obtain⟨f1,f2⟩:=finish (.inr ⟨M',z,rfl,hb⟩);refine⟨⟨k+1,_,by omega,by omega,?_,f1,f2,by rw[hH];simp only[List.append_assoc,List.cons_append,List.nil_append]⟩,by simp only[aI];omega⟩;rw[Nat.add_assoc]
 · have hkx : X.length ≤ k := by
     have:¬a+k<b:=fun h=>by simp at hge;omega
     omega
   rw[List.take_of_length_le hkx]at hp;rw[List.drop_of_length_le hkx,List.append_nil]at hH;simp only[go_sem];rw[hH];exact hK M hp hM _
section
variable{gf:Nat}{cx:AV}{jc:Nat}{rc:Row}{cap':List AV}{lt:Int→Int→Bool}{ok:Int→Prop}
theorem Ql(hs:SWO lt)(hc:CmpOk gf cap' lt ok)(hcv:∀H:aF,H jc=some rc→ConvL H [cx,.op jc 0 0] cap')(l:List Int)(j:Nat)(H0:aF)(K:AV→aF→Prop)(hl:l.length≤19)(hok:∀x∈l,ok x)(hj:H0 j=some (kV l))(hjc:H0 jc=some rc)(hne:jc≠j)
   (hK:∀r,K r (aJ H0 j (some (kV (kY lt l))))):bN Tryz.prog 75 [.os j,int (l.length:Nat),.fn gf [cx,.op jc 0 0]] H0 K:=by
 refine bN.body (c:=Tryz.f75.body.getD .skip) (fun _=>false) mixed Tryz.func75 rfl (by kernel_rfl) ?_;unfold Tryz.f75;simp only[Option.getD_some];simp only[go_sem];refine⟨fun ρ H=>ρ 0=.os j∧ρ 1=int (l.length:Nat)∧ρ 2=.fn gf [cx,.op jc 0 0]∧ρ 6=int 20∧ρ 7=int 0∧ρ 8=int 20∧H=H0,fun _ _=>0,⟨by simp only[go_sem],by simp only[go_sem],by simp only[go_sem],by simp only[go_sem],by simp only[go_sem],by simp only[go_sem],rfl⟩,?_⟩;rintro ρ H ⟨e0,e1,e2,e6,e7,e8,rfl⟩;simp only[go_sem,e0,e1,e2,e6,e7,e8];refine aA (fun hb=>?_) (fun hb=>?_)
 · have hb:=of_decide_eq_true hb
   omega
 simp only[go_sem,e0,e1,e2,e6,e7,e8];have htl:(tag l).length=l.length:=UQ l;refine HK hs hc hcv [] (tag l) [] 0 l.length j H _ rfl (by rw[htl,Nat.zero_add]) ?_ ?_ (by simp[htl];omega) ?_ hjc hne fun M hM hMs r=>?_
 · exact WQ l
 · intro x hx
   exact hok _ (by rw[←Fr l];exact List.mem_map.2 ⟨x,hx,rfl⟩)
 · simp only[List.nil_append,List.append_nil]
   show H j=some (kV ((tag l).map Prod.fst));rw[Fr];exact hj
 simp only[List.nil_append,List.append_nil];have hfm:fs M=kY lt l:=OF hs hM hMs;rw[hfm];simp only[go_sem,e0,e1,e2,e6,e7,e8];refine⟨fun ρ H'=>ρ 1=int (l.length:Nat)∧ρ 6=int 20∧H'=aJ H j (some (kV (kY lt l))),fun _ _=>0,⟨by simp only[go_sem,e1],by simp only[go_sem,e6],rfl⟩,?_⟩;rintro ρ H' ⟨e1,e6,rfl⟩;simp only[go_sem,e1,e6];refine aA (fun hb=>?_) (fun hb=>?_)
 · have hb:=of_decide_eq_true hb
   omega
 simp only[go_sem];exact hK _
theorem F0(hs:SWO lt)(hc:CmpOk gf cap' lt ok)(hcv:∀H:aF,H jc=some rc→ConvL H [cx,.op jc 0 0] cap')(l:List Int)(j:Nat)(H0:aF)(K:AV→aF→Prop)(hl:l.length≤19)(hok:∀x∈l,ok x)(hj:H0 j=some (kV l))(hjc:H0 jc=some rc)(hne:jc≠j)
   (hK:∀r,K r (aJ H0 j (some (kV (kY lt l))))):bN Tryz.prog 36 [.os j,.fn gf [cx,.op jc 0 0]] H0 K:=by
 refine bN.body (c:=Tryz.f36.body.getD .skip) (fun _=>false) mixed Tryz.func36 rfl (by kernel_rfl) ?_;unfold Tryz.f36;simp only[Option.getD_some];simp only[go_sem];simp only[go_sem,hj,List.length_map];refine Ql hs hc hcv l j H0 _ hl hok hj hjc hne fun r=>?_
 simp only[go_sem];exact hK _
end
end Go.Proofs.YtdlijlecpopadaaGreatDoor.Rx
end
section
namespace Go.Proofs.YtdlijlecpopadaaGreatDoor.Rx
open Go.Aw Go.Aw.D Go.Proofs Ty Go.Nu Go.So
open Sq (W iP dN iV NetOk pW rH oZ pJ)
open Nu (ltB geB GJ)
open Mv (fF eI NC.pc bK)
theorem Xg(l:List Int)(n:Int)(hl:l.length≤1048576):PC Tryz.prog 141 [.sl (l.map aM),int n] (int (pW (fun a=>n == a) l 0)):=by
 refine PC.body (c:=Tryz.f141.body.getD .skip) (fun _=>false) mixed Tryz.func141 rfl (by kernel_rfl) ?_;unfold Tryz.f141;simp only[Option.getD_some];simp only[go_sem];refine⟨fun ρ H=>∃(k:Nat),k≤l.length∧ρ 0=.sl (l.map aM)∧ρ 1=int n∧ρ 7=int (l.length:Nat)∧ρ 8=int k∧(∀u∈l.take k,(n == u)=false),fun ρ _=>l.length-bQ (ρ 8),⟨0,Nat.zero_le _,by simp only[go_sem],by simp only[go_sem],by simp only[go_sem,List.length_map],(by simp only[go_sem];rfl),by simp⟩,?_⟩;rintro ρ H ⟨k,hk,e0,e1,e7,e8,hz⟩;simp only[go_sem,e0,e1,e7,e8];refine aA (fun hlt=>?_) (fun hge=>?_)
 · have hlt:=ltB (by simpa using hlt)
   obtain⟨c,hc⟩:=bC hlt;have b1:=inB hlt;simp only[go_sem,e0,e1,e7,e8,aH hc,b1];refine aA (fun hb=>?_) (fun hb=>?_)
   · simp only[go_sem,e0,e1,e7,e8]
     exact fF (by rw[rH (p:=fun a=>n == a) hz hc hb];omega)
   · simp only[go_sem,e0,e1,e7,e8,bG (show k≤4611686018427387904 by omega)]
     exact⟨⟨k+1,hlt,rfl,bK (p:=fun u=>(n == u)=false) hc hb hz⟩,by simp only[aI];omega⟩
 have hge:=geB hk (by simpa using hge);subst hge;rw[List.take_length]at hz;simp only[go_sem];exact fF (by rw[oZ (p:=fun a=>n == a) hz])
def zS(l:List Int)(n:Int):Bool:=l.any fun a=>n == a
theorem nO(l:List Int)(n:Int)(hl:l.length≤1048576):PC Tryz.prog 78 [.sl (l.map aM),int n] (boo (zS l n)):=by
 refine PC.body (c:=Tryz.f78.body.getD .skip) (fun _=>false) mixed Tryz.func78 rfl (by kernel_rfl) ?_;unfold Tryz.f78;simp only[Option.getD_some];simp only[go_sem];refine PC.use (Xg l n hl) ?_;simp only[go_sem];exact eI (pJ l 0 (Int.le_refl _))
def jV(x:Instance)(a:Int):List Int:=(iP x.orders a).map fun v=>(dN x v).1.place
theorem yC(x:Instance)(a:Int):PC Tryz.prog 77 [.agg (aQ x),int a] (.sl ((jV x a).map aM)):=by
 have hv:=Sq.xK x.orders a;unfold jV;refine PC.body (c:=Tryz.f77.body.getD .skip) (fun t=>t == 5) mixed Tryz.func77 rfl (by kernel_rfl) ?_;unfold Tryz.f77;simp only[Option.getD_some];simp only[go_sem];refine aN fun j hj0=>?_
 generalize hGj:aJ _ j _=HGj;have R:HGj j=some (kV []):=by rw[←hGj,aB];try rfl
 clear hGj hj0;simp only[go_sem,R];refine PC.use (Sq.DR x.orders a) ?_;generalize iP x.orders a=V at *;simp only[go_sem,List.length_map];refine⟨fun ρ H=>∃(k:Nat) (j:Nat),k≤V.length∧ρ 2=.rp (aQ x) 0∧ρ 13=.sl (V.map cK)∧ρ 14=int (V.length:Nat)∧ρ 15=int k∧ρ 5=.os j∧H j=some (kV ((V.take k).map fun v=>(dN x v).1.place)),fun ρ _=>V.length-bQ (ρ 15),⟨0,j,Nat.zero_le _,by simp only[go_sem],by simp only[go_sem],by simp only[go_sem,List.length_map],(by simp only[go_sem];rfl),by simp only[go_sem],R⟩,?_⟩;rintro ρ H ⟨k,j,hk,e2,e13,e14,e15,e5,R⟩;simp only[go_sem,e2,e13,e14,e15,e5];refine aA (fun hlt=>?_) (fun hge=>?_)
 · have hlt:=ltB (by simpa using hlt)
   obtain⟨v,hc⟩:=bC hlt;have b1:=inB hlt;simp only[go_sem,e2,e13,e14,e15,e5,aH hc,b1];refine aN fun i7 hi70=>?_
   have ne_j_i7:j≠i7:=aO R hi70;simp only[go_sem,e2,e13,e14,e15,e5,R];refine aU (aB _ _ _) (by simp[oM]) ?_;generalize hGi7:aJ (aJ _ i7 _) i7 _=HGi7;replace R:=(congrFun hGi7.symm j).trans ((aD _ _ _ _ ne_j_i7).trans ((aD _ _ _ _ ne_j_i7).trans R));have R7:HGi7 i7=some (sG v):=by rw[←hGi7,aB];try rfl
   clear hGi7 hi70;simp only[go_sem,e2,e13,e14,e15,e5,R7,R];refine PC.use (Sq.M3 x v) ?_;simp only[go_sem,e2,e13,e14,e15,e5];refine aN fun i8 hi80=>?_
   have ne_j_i8:j≠i8:=aO R hi80;simp only[go_sem,e2,e13,e14,e15,e5,R];refine aU (aB _ _ _) (by simp[lP]) ?_;generalize hGi8:aJ (aJ _ i8 _) i8 _=HGi8;replace R:=(congrFun hGi8.symm j).trans ((aD _ _ _ _ ne_j_i8).trans ((aD _ _ _ _ ne_j_i8).trans R));have R8:HGi8 i8=some (sV (dN x v).1):=by rw[←hGi8,aB];try rfl
   clear hGi8 hi80;simp only[go_sem,e2,e13,e14,e15,e5,R8,R];refine bA R ⟨rfl,rfl⟩ (by simp only[go_sem]) (by simp only[List.length_map,List.length_take,List.length_cons,List.length_nil];omega) (fun j2 hj2=>?_);simp only[go_sem,e2,e13,e14,e15,e5,bG (show k≤4611686018427387904 by omega)];refine⟨⟨k+1,j2,hlt,rfl,rfl,?_⟩,by simp only[aI];omega⟩;rw[aB,cN hc];refine congrArg (fun L=>some (⟨3,1,L⟩:Row)) ?_;simp;rfl
 have hge:=geB hk (by simpa using hge);subst hge;rw[List.take_length]at R;simp only[go_sem,e2,e13,e14,e15,e5];exact .row _ _ _ R (ConvE.refl _)
def DA(p q:List Int)(out:Int)(c:Arc):Int:=if((zS p c.src&&zS q c.dst)||(zS q c.src&&zS p c.dst))=true then tQ out c.miles else out
def B1(x:Instance)(a b:Int):Int:=
 if((jV x a).any fun i=>zS (jV x b) i)=true then 0 else x.net.arcs.foldl (DA (jV x a) (jV x b)) 10001
theorem Ay(x:Instance)(a:Int):(jV x a).length≤2:=by
 unfold jV;rw[List.length_map];exact Sq.xK _ _
theorem Bw(x:Instance)(a b:Int)(hx:x.net.arcs.length≤1048576):PC Tryz.prog 39 [.agg (aQ x),int a,int b] (int (B1 x a b)):=by
 have eD:B1 x a b=if((jV x a).any fun i=>zS (jV x b) i)=true then 0 else x.net.arcs.foldl (DA (jV x a) (jV x b)) 10001:=rfl
 have hpl:=Ay x a;have hql:=Ay x b;generalize B1 x a b=D at eD;refine PC.body (c:=Tryz.f39.body.getD .skip) (fun _=>false) mixed Tryz.func39 rfl (by kernel_rfl) ?_;unfold Tryz.f39;simp only[Option.getD_some];simp only[go_sem];refine kK [(0,true),(1,true),(3,true),(4,true),(2,false),(5,false),(6,true),(7,true)] (by kernel_rfl) ?_;simp only[go_sem];refine PC.use (yC x a) ?_;simp only[go_sem];refine PC.use (yC x b) ?_;generalize jV x a=P at *;generalize jV x b=Q at *;simp only[go_sem,List.length_map];refine⟨fun ρ H=>∃(k:Nat),k≤P.length∧ρ 3=.rp (aQ x) 0∧ρ 7=.sl (P.map aM)∧ρ 8=.sl (Q.map aM)∧ρ 22=.sl (P.map aM)∧ρ 23=int (P.length:Nat)∧ρ 24=int k∧(∀u∈P.take k,zS Q u=false),fun ρ _=>P.length-bQ (ρ 24),⟨0,Nat.zero_le _,by simp only[go_sem],by simp only[go_sem],by simp only[go_sem],by simp only[go_sem],by simp only[go_sem,List.length_map],(by simp only[go_sem];rfl),by simp⟩,?_⟩;rintro ρ H ⟨k,hk,e3,e7,e8,e22,e23,e24,hz⟩;simp only[go_sem,e3,e7,e8,e22,e23,e24];refine aA (fun hlt=>?_) (fun hge=>?_)
 · have hlt:=ltB (by simpa using hlt)
   obtain⟨c,hc⟩:=bC hlt;have b1:=inB hlt;simp only[go_sem,e3,e7,e8,e22,e23,e24,aH hc,b1];refine PC.use (nO Q c (by omega)) ?_;simp only[go_sem,e3,e7,e8,e22,e23,e24];refine aA (fun hb=>?_) (fun hb=>?_)
   · rw[if_pos (List.any_eq_true.2 ⟨c,List.mem_of_getElem? hc,hb⟩)]at eD
     subst eD;simp only[go_sem];exact .refl _
   · simp only[go_sem,e3,e7,e8,e22,e23,e24,bG (show k≤4611686018427387904 by omega)]
     exact⟨⟨k+1,hlt,rfl,bK (p:=fun u=>zS Q u=false) hc hb hz⟩,by simp only[aI];omega⟩
 have hge:=geB hk (by simpa using hge);subst hge;rw[List.take_length]at hz;rw[if_neg (by rw[Bool.not_eq_true,List.any_eq_false];intro u hu;rw[hz u hu];simp)]at eD;simp only[go_sem,e3,e7,e8,e22,e23,e24,List.length_map];refine⟨fun ρ H=>∃(k:Nat),k≤x.net.arcs.length∧ρ 7=.sl (P.map aM)∧ρ 8=.sl (Q.map aM)∧ρ 34=.sl (x.net.arcs.map fC)∧ρ 35=int (x.net.arcs.length:Nat)∧ρ 36=int k∧ρ 11=int ((x.net.arcs.take k).foldl (DA P Q) 10001),fun ρ _=>x.net.arcs.length-bQ (ρ 36),⟨0,Nat.zero_le _,by simp only[go_sem,e3,e7,e8],by simp only[go_sem,e3,e7,e8],by simp only[go_sem,e3,e7,e8],by simp only[go_sem,List.length_map,e3,e7,e8],(by simp only[go_sem,e3,e7,e8];rfl),by simp only[go_sem];rfl⟩,?_⟩;rintro ρ H ⟨k,hk,e7,e8,e34,e35,e36,e11⟩;simp only[go_sem,e7,e8,e34,e35,e36,e11];refine aA (fun hlt=>?_) (fun hge=>?_)
 · have hlt:=ltB (by simpa using hlt)
   obtain⟨c,hc⟩:=bC hlt;have b1:=inB hlt;have hs:=Sq.iQ (f:=DA P Q) (b:=(10001:Int)) hc;generalize (x.net.arcs.take k).foldl (DA P Q) 10001=m at *;have hdc:DA P Q m c=if((zS P c.src&&zS Q c.dst)||(zS Q c.src&&zS P c.dst))=true then tQ m c.miles else m:=rfl
   simp only[go_sem,e7,e8,e34,e35,e36,e11,aH hc,b1];refine aN fun i13 hi130=>?_
   simp only[go_sem,e7,e8,e34,e35,e36,e11];refine aU (aB _ _ _) (by simp[gY]) ?_;generalize hGi13:aJ (aJ _ i13 _) i13 _=HGi13;have R13:HGi13 i13=some ((⟨139,6,[fC c]⟩:Row)):=by rw[←hGi13,aB];try rfl
   clear hGi13 hi130;simp only[go_sem,e7,e8,e34,e35,e36,e11,R13];refine PC.use (nO P c.src (by omega)) ?_;simp only[go_sem,e7,e8,e34,e35,e36,e11,R13];refine⟨_,fun _=>PC.q (nO Q c.dst (by omega)) rfl,?_⟩;simp only[go_sem,e7,e8,e34,e35,e36,e11,R13];refine PC.use (nO Q c.src (by omega)) ?_;simp only[go_sem,e7,e8,e34,e35,e36,e11,R13];refine⟨_,fun _=>PC.q (nO P c.dst (by omega)) rfl,?_⟩;simp only[go_sem,e7,e8,e34,e35,e36,e11,R13];refine aA (fun hb=>?_) (fun hb=>?_)
   · rw[if_pos hb]at hdc
     simp only[go_sem,e7,e8,e34,e35,e36,e11,R13,bG (show k≤4611686018427387904 by omega)];exact⟨⟨k+1,hlt,rfl,by rw[hs,hdc]⟩,by simp only[aI];omega⟩
   · rw[if_neg (fun h=>Bool.noConfusion (hb.symm.trans h))]at hdc
     simp only[go_sem,e7,e8,e34,e35,e36,e11,bG (show k≤4611686018427387904 by omega)];exact⟨⟨k+1,hlt,rfl,by rw[hs,hdc]⟩,by simp only[aI];omega⟩
 have hge:=geB hk (by simpa using hge);subst hge;rw[List.take_length]at e11;simp only[go_sem,e7,e8,e34,e35,e36,e11];subst eD;exact .refl _
theorem Tv(x:Instance)(i a b:Int)(hx:x.net.arcs.length≤1048576):PC Tryz.prog 37 [int a,int b,.rp (aQ x) 0,.rp [int i] 0] (int (iC (B1 x i a) (B1 x i b))):=by
 refine PC.body (c:=Tryz.f37.body.getD .skip) (fun _=>false) mixed Tryz.func37 rfl (by kernel_rfl) ?_;unfold Tryz.f37;simp only[Option.getD_some];simp only[go_sem];refine kK [(0,true),(1,true),(2,true),(4,true),(5,true),(6,true),(3,false),(7,false),(8,false),(9,true)] (by kernel_rfl) ?_;simp only[go_sem];refine PC.use (Bw x i a hx) ?_;simp only[go_sem];refine PC.use (Bw x i b hx) ?_;simp only[go_sem];refine PC.use (GJ _ _) ?_;simp only[go_sem];exact .refl _
def dlt(x:Instance)(i:Int)(a b:Int):Bool:=decide (B1 x i a<B1 x i b)
def lY(size i:Nat)(others:List Int):Int:=(others.take (size-1)).foldl (fun s k=>pV .or .i64 s (shV .shl .i64 1 k)) ((2^i:Nat):Int)
def gJ(x:Instance)(i:Nat):List Int:=((List.range x.orders.length).filter fun k=>k != i).map Int.ofNat
def VU(x:Instance)(size:Nat):List Int:=(List.range x.orders.length).map fun i=>lY size i (kY (dlt x (i:Nat)) (gJ x i))
theorem Ua(x:Instance)(i:Int):SWO (dlt x i):=⟨fun a b h=>by
 unfold dlt at *;have:=of_decide_eq_true h;exact decide_eq_false (by omega),fun a b c h1 h2=>by
 unfold dlt at *;have:=of_decide_eq_false h1;have:=of_decide_eq_false h2;exact decide_eq_false (by omega)⟩
theorem PX(a b:Int):decide (iC a b<0)=decide (a<b):=by
 unfold iC;split
 · next h=>rw[decide_eq_true h];rfl
 · next h=>
   rw[decide_eq_false h];split <;> rfl
theorem PB(x:Instance)(i:Int)(hx:x.net.arcs.length≤1048576):CmpOk 37 [.rp (aQ x) 0,.rp [int i] 0] (dlt x i) (fun _=>True):=
 ⟨by kernel_rfl,fun a b _ _=>⟨_,PX _ _,Tv x i a b hx⟩⟩
def yJ(i:Nat)(m:Nat):List Int:=((List.range m).filter fun k=>k != i).map Int.ofNat
theorem K9(i m:Nat):yJ i (m+1)=if(m != i)=true then yJ i m++[(m:Int)]else yJ i m:=by
 unfold yJ;rw[List.range_succ,List.filter_append,List.map_append];simp only[List.filter];cases h:(m != i)with
 | true=>rfl
 | false=>simp
theorem Dy(i:Nat):∀m,(yJ i m).length≤m:=fun m=>by
 unfold yJ;rw[List.length_map];exact Nat.le_trans (List.length_filter_le _ _) (by rw[List.length_range];exact Nat.le_refl m)
theorem Ed(lt:Int→Int→Bool)(l:List Int):(kY lt l).Perm l:=by
 have:∀(l acc:List Int),(l.foldl (fun acc x=>ins lt x acc) acc).Perm (acc++l):=by
   intro l;induction l with
   | nil=>intro acc;rw[List.append_nil];exact .refl _
   | cons a r ih=>
     intro acc;refine(ih _).trans ?_;refine((yP lt a acc).append_right r).trans ?_;simpa using List.perm_middle.symm
 have h2:=this l []
 rwa [List.nil_append]at h2
theorem G5{x:Instance}{i:Nat}{a:Int}(h:a∈gJ x i):0≤a∧a<x.orders.length:=by
 unfold gJ at h;obtain⟨k,hk,rfl⟩:=List.mem_map.1 h;have:=List.mem_range.1 (List.mem_filter.1 hk).1;show(0:Int)≤(k:Int)∧(k:Int)<(x.orders.length:Int);omega
theorem UZ{A:List Int}{n k:Nat}(v:Int)(hA:A.length=k)(hk:k<n):(A++List.replicate (n-k) 0).set k v=(A++[v])++List.replicate (n-(k+1)) 0:=by
 have:n-k=(n-(k+1))+1:=by omega
 rw[this,List.replicate_succ,List.set_append_right _ _ (by omega),hA,Nat.sub_self,List.set_cons_zero,List.append_assoc];rfl
theorem WT(x:Instance)(size:Nat)(h1:1≤size)(h10:size≤10)(hn:x.orders.length≤19)(hx:x.net.arcs.length≤1048576):
   PC Tryz.prog 11 [.agg (aQ x),int (size:Nat)] (.tup [.sl ((VU x size).map aM),int 0]):=by
 refine PC.body (c:=Tryz.f11.body.getD .skip) (fun t=>t == 8||t == 49) mixed Tryz.func11 rfl (by kernel_rfl) ?_;unfold Tryz.f11;simp only[Option.getD_some];simp only[go_sem];refine aA (fun hb=>?_) (fun hb=>?_)
 · simp at hb;omega
 simp only[go_sem];refine⟨by omega,aN fun j6 h6=>?_⟩;simp only[go_sem];have hrl:∀k,k≤x.orders.length→((List.range k).map (fun i=>lY size i (kY (dlt x (i:Nat)) (gJ x i)))++List.replicate (x.orders.length-k) 0).length=x.orders.length:=fun k hk=>by simp;omega
 have R6:aJ bT j6 (some (⟨3,1,List.replicate x.orders.length [int 0]⟩:Row)) j6=some (kV ((List.range 0).map (fun i=>lY size i (kY (dlt x (i:Nat)) (gJ x i)))++List.replicate (x.orders.length-0) 0)):=by
   rw[aB];refine congrArg (fun L=>some (⟨3,1,L⟩:Row)) ?_;rw[List.range_zero,List.map_nil,List.nil_append,Nat.sub_zero,List.map_replicate];rfl
 generalize aJ bT j6 _=HA at R6 ⊢;clear h6;refine⟨fun ρ H=>∃(k:Nat),k≤x.orders.length∧ρ 1=int (size:Nat)∧ρ 2=.rp (aQ x) 0∧ρ 6=.os j6∧ρ 23=int (x.orders.length:Nat)∧ρ 24=int k∧H j6=some (kV ((List.range k).map (fun i=>lY size i (kY (dlt x (i:Nat)) (gJ x i)))++List.replicate (x.orders.length-k) 0)),fun ρ _=>x.orders.length-bQ (ρ 24),⟨0,Nat.zero_le _,by simp only[go_sem,List.length_replicate],by simp only[go_sem,List.length_replicate],by simp only[go_sem,List.length_replicate],by simp only[go_sem,List.length_map,List.length_replicate],(by simp only[go_sem,List.length_replicate];rfl),R6⟩,?_⟩;rintro ρ H ⟨k,hk,e1,e2,e6,e23,e24,R6⟩;simp only[go_sem,e1,e2,e6,e23,e24];refine aA (fun hlt=>?_) (fun hge=>?_)
 · have hlt:=ltB (by simpa using hlt)
   simp only[go_sem,e1,e2,e6,e23,e24];refine aN fun i7 h7=>?_
   simp only[go_sem,e1,e2,e6,e23,e24];refine dU so3 (aB _ _ _) (by simp) ?_;have n67:=aO R6 h7;generalize hG:aJ (aJ H i7 _) i7 _=HGi7;replace R6:=(congrFun hG.symm j6).trans ((aD _ _ _ _ n67).trans ((aD _ _ _ _ n67).trans R6));have R7:HGi7 i7=some (kV [(k:Int)]):=by rw[←hG,aB];rfl
   clear hG h7;simp only[go_sem,e1,e2,e6,e23,e24];refine aN fun j8 h8=>?_
   have n68:=aO R6 h8;have n78:=aO R7 h8;have R6b:=(aD HGi7 j8 (some (⟨3,1,[]⟩:Row)) j6 n68).trans R6;have R7b:=(aD HGi7 j8 (some (⟨3,1,[]⟩:Row)) i7 n78).trans R7;have R8b:aJ HGi7 j8 (some (⟨3,1,[]⟩:Row)) j8=some (kV (yJ k 0)):=aB _ _ _;generalize aJ HGi7 j8 _=HB at R6b R7b R8b ⊢;clear R6 R7 h8;simp only[go_sem,e1,e2,e6,e23,e24,List.length_map];generalize hk0:k=k0 at *;refine⟨fun ρ H=>∃(k:Nat) (j8:Nat),k≤x.orders.length∧ρ 1=int (size:Nat)∧ρ 2=.rp (aQ x) 0∧ρ 6=.os j6∧ρ 7=.op i7 0 0∧ρ 23=int (x.orders.length:Nat)∧ρ 24=int (k0:Nat)∧ρ 29=int (x.orders.length:Nat)∧ρ 30=int k∧ρ 8=.os j8∧H j6=some (kV ((List.range k0).map (fun i=>lY size i (kY (dlt x (i:Nat)) (gJ x i)))++List.replicate (x.orders.length-k0) 0))∧H i7=some (kV [(k0:Int)])∧H j8=some (kV (yJ k0 k))∧j6≠j8∧i7≠j8,fun ρ _=>x.orders.length-bQ (ρ 30),⟨0,j8,Nat.zero_le _,by simp only[go_sem,e1,e2,e6,e23,e24],by simp only[go_sem,e1,e2,e6,e23,e24],by simp only[go_sem,e1,e2,e6,e23,e24],by simp only[go_sem,e1,e2,e6,e23,e24],by simp only[go_sem,e1,e2,e6,e23,e24],by simp only[go_sem,e1,e2,e6,e23,e24],by simp only[go_sem,List.length_map,e1,e2,e6,e23,e24],(by simp only[go_sem,e1,e2,e6,e23,e24];rfl),by simp only[go_sem],R6b,R7b,R8b,n68,n78⟩,?_⟩;rintro ρ H ⟨k,j8,hk,e1,e2,e6,e7,e23,e24,e29,e30,e8,R6,R7,R8,n68,n78⟩;simp only[go_sem,e1,e2,e6,e7,e23,e24,e29,e30,e8];refine aA (fun hlt=>?_) (fun hge=>?_)
   · have hlt2:=ltB (by simpa using hlt)
     have ho:=K9 k0 k;have hol:=Dy k0 k;simp only[go_sem,e1,e2,e6,e7,e23,e24,e29,e30,e8,R7];have hbe:(((k:Int)) != ((k0:Nat):Int))=(k != k0):=by
       rw[Bool.eq_iff_iff];simp only[bne_iff_ne,ne_eq];omega
     rw[hbe];refine aA (fun hb=>?_) (fun hb=>?_)
     · rw[if_pos hb]at ho
       simp only[go_sem,e1,e2,e6,e7,e23,e24,e29,e30,e8];refine bA R8 ⟨rfl,rfl⟩ (by simp only[go_sem]) (by simp only[List.length_map,List.length_cons,List.length_nil];omega) (fun j2 hj2=>?_);simp only[go_sem,e1,e2,e6,e7,e23,e24,e29,e30,e8,bG (show k≤4611686018427387904 by omega)];refine⟨⟨k+1,j2,hlt2,rfl,rfl,?_,?_,?_,aO R6 hj2,aO R7 hj2⟩,by simp only[aI];omega⟩
       · rw[aD _ _ _ _ (aO R6 hj2),aD _ _ _ _ n68];exact R6
       · rw[aD _ _ _ _ (aO R7 hj2),aD _ _ _ _ n78];exact R7
       · rw[aB,ho]
         refine congrArg (fun L=>some (⟨3,1,L⟩:Row)) ?_;rw[List.map_append];rfl
     · rw[if_neg (fun h=>Bool.noConfusion (hb.symm.trans h))]at ho
       simp only[go_sem,e1,e2,e6,e7,e23,e24,e29,e30,e8,bG (show k≤4611686018427387904 by omega)];exact⟨⟨k+1,j8,hlt2,rfl,rfl,R6,R7,by rw[ho];exact R8,n68,n78⟩,by simp only[aI];omega⟩
   have hge:=geB hk (by simpa using hge);subst hge;have hol:=Dy k0 x.orders.length;have hoe:yJ k0 x.orders.length=gJ x k0:=rfl;rw[hoe]at R8 hol;simp only[go_sem,e1,e2,e6,e7,e23,e24,e29,e30,e8];refine F0 (Ua x (k0:Nat)) (PB x (k0:Nat) hx) (fun H hH=>.cons _ _ _ _ (.refl _) (.cons _ _ _ _ (.ptr _ _ _ _ _ hH (by simp) (ConvL.refl _)) .nil)) (gJ x k0) j8 H _ (by omega) (fun _ _=>trivial) R8 R7 n78 fun r=>?_
   have hsl:(kY (dlt x (k0:Nat)) (gJ x k0)).length≤19:=by rw[(Ed _ _).length_eq];omega
   have hmem:∀a∈kY (dlt x (k0:Nat)) (gJ x k0),0≤a∧a≤61:=fun a ha=>by
     have:=G5 ((Ed _ _).mem_iff.1 ha);omega
   have R6c:=(aD H j8 (some (kV (kY (dlt x (k0:Nat)) (gJ x k0)))) j6 n68).trans R6;have R7c:=(aD H j8 (some (kV (kY (dlt x (k0:Nat)) (gJ x k0)))) i7 n78).trans R7;have R8c:aJ H j8 (some (kV (kY (dlt x (k0:Nat)) (gJ x k0)))) j8=some (kV (kY (dlt x (k0:Nat)) (gJ x k0))):=aB _ _ _;generalize aJ H j8 _=HC at R6c R7c R8c ⊢;have hns:lY size k0 (kY (dlt x (k0:Nat)) (gJ x k0))=lY size k0 (kY (dlt x (k0:Nat)) (gJ x k0)):=rfl;unfold lY at hns;generalize hSe:kY (dlt x (k0:Nat)) (gJ x k0)=S at *;simp only[go_sem,e1,e2,e6,e7,e23,e24,e29,e30,e8];have hki:k0≤62:=by omega
   have hgl:=hrl k0 (by omega);generalize hL:(List.range k0).map (fun i=>lY size i (kY (dlt x (i:Nat)) (gJ x i)))++List.replicate (x.orders.length-k0) 0=L at *;have b6:(0:Int)≤((k0:Nat):Int)∧((k0:Nat):Int)<((L.length:Nat):Int):=by omega
   refine gE [i7] [(0,true),(1,true),(2,true),(3,true),(4,false),(5,false)] (by simp[R7c]) (by kernel_rfl) fun Hp Hr hp hr _ hr0=>?_
   have P_R7c:=(hp i7 (by simp)).trans R7c;have Q_R6c:=(hr j6 (by simp[n67])).trans R6c;simp only[go_sem,e1,e2,e6,e7,e23,e24,e29,e30,e8,Sq.LD hki,List.length_map,b6,P_R7c,Q_R6c];refine dU so3 Q_R6c (by rw[List.length_map];exact⟨by omega,rfl,Nat.le_refl 1⟩) ?_;refine lG hr (by simp[n67]) ?_;have hset:∀(M:List Int) (v:Int),k0<M.length→(M.map aM).set k0 (lT ((M.map aM).getD k0 []) 0 [int v])=(M.set k0 v).map aM:=fun M v hM=>by
     obtain⟨u,hu⟩:=bC hM;rw[aH hu,List.map_set];rfl
   have R6d:aJ HC j6 (some (⟨3,1,(L.map aM).set k0 (lT ((L.map aM).getD k0 []) 0 [int ((2^k0:Nat):Int)])⟩:Row)) j6=some (kV (L.set k0 ((2^k0:Nat):Int))):=by
     rw[aB];exact congrArg (fun l=>some (⟨3,1,l⟩:Row)) (hset L _ (by omega))
   have R7d:=(aD HC j6 (some (⟨3,1,(L.map aM).set k0 (lT ((L.map aM).getD k0 []) 0 [int ((2^k0:Nat):Int)])⟩:Row)) i7 n67.symm).trans R7c;have R8d:=(aD HC j6 (some (⟨3,1,(L.map aM).set k0 (lT ((L.map aM).getD k0 []) 0 [int ((2^k0:Nat):Int)])⟩:Row)) j8 n68.symm).trans R8c;generalize aJ HC j6 _=HD at R6d R7d R8d ⊢;have w1:IntKind.i64.wrap (((size:Nat):Int)-1)=((size-1:Nat):Int):=by rw[aT (by omega)];omega
   have hmin:tQ ((size-1:Nat):Int) ((S.length:Nat):Int)=((min (size-1) S.length:Nat):Int):=by
     unfold tQ;split <;> omega
   simp only[go_sem,e1,e2,e6,e7,e23,e24,e29,e30,e8];refine zU (by simp only[go_sem,e8]) R8d fun Hf hf1 hf2=>?_
   have R6e:=(hf2 j6 n68).trans R6d;have R7e:=(hf2 i7 n78).trans R7d;have hmn:min (size-1) S.length≤S.length:=Nat.min_le_right _ _;have hnsM:lY size k0 S=(S.take (min (size-1) S.length)).foldl (fun s k=>pV .or .i64 s (shV .shl .i64 1 k)) ((2^k0:Nat):Int):=by
     unfold lY
     congr 1
     by_cases h:size-1≤S.length
     · rw[Nat.min_eq_left h]
     · rw[Nat.min_eq_right (by omega),List.take_of_length_le (by omega),List.take_length]
   simp only[go_sem,e1,e2,e6,e7,e23,e24,e29,e30,e8,List.length_map,w1,hmin];generalize hmm:min (size-1) S.length=M at *;refine⟨by omega,?_⟩;have hTl:(S.take M).length=M:=by rw[List.length_take];omega
   have hmemT:∀a∈S.take M,0≤a∧a≤61:=fun a ha=>hmem a (List.mem_of_mem_take ha)
   have hmt:(S.map aM).take M=(S.take M).map aM:=List.map_take.symm;generalize S.take M=T at *;refine⟨fun ρ H=>∃(k:Nat),k≤M∧ρ 1=int (size:Nat)∧ρ 2=.rp (aQ x) 0∧ρ 6=.os j6∧ρ 7=.op i7 0 0∧ρ 23=int (x.orders.length:Nat)∧ρ 24=int (k0:Nat)∧ρ 55=.sl (T.map aM)∧ρ 56=int (M:Nat)∧ρ 57=int k∧H j6=some (kV (L.set k0 ((T.take k).foldl (fun s k=>pV .or .i64 s (shV .shl .i64 1 k)) ((2^k0:Nat):Int))))∧H i7=some (kV [(k0:Int)]),fun ρ _=>M-bQ (ρ 57),⟨0,Nat.zero_le _,by simp only[go_sem,e1,e2,e6,e7,e23,e24,hmt,hTl],by simp only[go_sem,e1,e2,e6,e7,e23,e24,hmt,hTl],by simp only[go_sem,e1,e2,e6,e7,e23,e24,hmt,hTl],by simp only[go_sem,e1,e2,e6,e7,e23,e24,hmt,hTl],by simp only[go_sem,e1,e2,e6,e7,e23,e24,hmt,hTl],by simp only[go_sem,e1,e2,e6,e7,e23,e24,hmt,hTl],by simp only[go_sem,e1,e2,e6,e7,e23,e24,hmt,hTl],by simp only[go_sem,List.length_map,e1,e2,e6,e7,e23,e24,hmt,hTl],(by simp only[go_sem,e1,e2,e6,e7,e23,e24,hmt,hTl];rfl),R6e,R7e⟩,?_⟩;rintro ρ H ⟨k,hk,e1,e2,e6,e7,e23,e24,e55,e56,e57,R6,R7⟩;simp only[go_sem,e1,e2,e6,e7,e23,e24,e55,e56,e57];refine aA (fun hlt=>?_) (fun hge=>?_)
   · have hlt2:=ltB (by simpa using hlt)
     obtain⟨v,hv⟩:=bC (show k<T.length by omega);have hvb:=hmemT v (List.mem_of_getElem? hv);have hst:=Sq.iQ (f:=fun(s k:Int)=>pV .or .i64 s (shV .shl .i64 1 k)) (b:=((2^k0:Nat):Int)) hv;generalize (T.take k).foldl (fun s k=>pV .or .i64 s (shV .shl .i64 1 k)) ((2^k0:Nat):Int)=cur at *;have g1:=aH (f:=aM) hv;have hcur:(L.set k0 cur)[k0]?=some cur:=List.getElem?_set_self (show k0<L.length by omega);have g2:=aH (f:=aM) hcur;have b7:(0:Int)≤((k0:Nat):Int)∧((k0:Nat):Int)<(((L.set k0 cur).length:Nat):Int):=by rw[List.length_set];omega
     have b8:=inB (show k<T.length by omega);simp only[go_sem,e1,e2,e6,e7,e23,e24,e55,e56,e57,List.length_map,g1,b8];refine kK [(0,true),(4,true),(5,true),(1,false),(2,false),(3,false),(6,true),(7,false),(8,false)] (by kernel_rfl) ?_;simp only[go_sem,e1,e2,e6,e7,e23,e24,e55,e56,e57,R6,R7,List.length_map,b7,g2];refine⟨by omega,?_⟩;refine⟨by omega,?_⟩;refine dU so3 R6 ⟨(by rw[List.length_map,List.length_set];omega:k0<((L.set k0 cur).map aM).length),rfl,Nat.le_refl 1⟩ ?_;simp only[go_sem,e1,e2,e6,e7,e23,e24,e55,e56,e57,bG (show k≤4611686018427387904 by omega)];refine⟨⟨k+1,hlt2,rfl,?_,?_⟩,by simp only[aI];omega⟩
     · rw[hst]
       refine congrArg (fun l=>some (⟨3,1,l⟩:Row)) ?_;refine(hset (L.set k0 cur) _ (show k0<(L.set k0 cur).length by omega)).trans ?_;rw[List.set_set]
     · rw[aD _ _ _ _ n67.symm];exact R7
   have hge:=geB hk (by simpa using hge);subst hge;rw[List.take_of_length_le (by omega),←hnsM]at R6;simp only[go_sem,e1,e2,e6,e7,e23,e24,e55,e56,e57,bG (show k0≤4611686018427387904 by omega)];refine⟨⟨k0+1,hlt,rfl,?_⟩,by simp only[aI];omega⟩;rw[R6];refine congrArg (fun l=>some (kV l)) ?_;rw[←hL,UZ _ (by rw[List.length_map,List.length_range]) (by omega),List.range_succ,List.map_append,←hSe];rfl
 have hge:=geB hk (by simpa using hge);subst hge;simp only[go_sem,e1,e2,e6,e23,e24];rw[Nat.sub_self,List.replicate_zero,List.append_nil]at R6;exact .tup _ _ (.cons _ _ _ _ (.row _ _ _ R6 (ConvE.refl _)) (.cons _ _ _ _ (.refl _) .nil))
end Go.Proofs.YtdlijlecpopadaaGreatDoor.Rx
end
section
namespace Go.Proofs.YtdlijlecpopadaaGreatDoor.Rx
open Go.Aw Go.Aw.D Go.Proofs Ty Go.Nu Go.So
open Sq (W iP dN iV NetOk)
open Nu (ltB geB)
open Mv (fF eI NC.pc bK)
theorem XU(i:Nat)(hi:i≤62):PC Tryz.prog 40 [int i] (int (2^i:Nat)):=by
 refine PC.body (c:=Tryz.f40.body.getD .skip) (fun _=>false) mixed Tryz.func40 rfl (by kernel_rfl) ?_;unfold Tryz.f40;simp only[Option.getD_some];simp only[go_sem];refine⟨fun ρ H=>∃(k:Nat),k≤i∧ρ 0=int i∧ρ 4=int k∧ρ 3=int (2^k:Nat),fun ρ _=>i-bQ (ρ 4),⟨0,Nat.zero_le _,by simp only[go_sem],(by simp only[go_sem];rfl),by simp only[go_sem];rfl⟩,?_⟩;rintro ρ H ⟨k,hk,e0,e4,e3⟩;simp only[go_sem,e0,e4,e3];refine aA (fun hlt=>?_) (fun hge=>?_)
 · have hlt:=ltB hlt
   have hp:(2:Nat)^(k+1)≤2^62:=Nat.pow_le_pow_right (by decide) (by omega);have hs:(2:Nat)^(k+1)=2*2^k:=by rw[Nat.pow_succ,Nat.mul_comm]
   have w1:IntKind.i64.wrap (2*((2^k:Nat):Int))=((2^(k+1):Nat):Int):=by rw[hs];rw[hs]at hp;rw[aT (by omega)];rfl
   simp only[go_sem,e0,e4,e3,w1,bG (show k≤4611686018427387904 by omega)];exact⟨⟨k+1,hlt,rfl,rfl⟩,by simp only[aI];omega⟩
 · have hge:=geB hk hge
   subst hge;simp only[go_sem,e0,e4,e3];exact .refl _
def jK(s i:Nat):Bool:=s/2^i%2 == 1
theorem Ut(s i:Nat)(hs:s<2^63)(hi:i≤1048576):PC Tryz.prog 41 [int (s:Nat),int (i:Nat)] (boo (jK s i)):=by
 refine PC.body (c:=Tryz.f41.body.getD .skip) (fun _=>false) mixed Tryz.func41 rfl (by kernel_rfl) ?_;unfold Tryz.f41;simp only[Option.getD_some];simp only[go_sem];refine⟨fun ρ H=>∃(k:Nat),k≤i∧ρ 1=int (i:Nat)∧ρ 5=int k∧ρ 0=int (s/2^k:Nat),fun ρ _=>i-bQ (ρ 5),⟨0,Nat.zero_le _,by simp only[go_sem],(by simp only[go_sem];rfl),by simp only[go_sem,Nat.pow_zero,Nat.div_one]⟩,?_⟩;rintro ρ H ⟨k,hk,e1,e5,e0⟩;simp only[go_sem,e1,e5,e0];refine aA (fun hlt=>?_) (fun hge=>?_)
 · have hlt:=ltB hlt
   have hd:(s/2^k:Nat)≤s:=Nat.div_le_self _ _;have w1:IntKind.i64.wrap (Int.tdiv ((s/2^k:Nat):Int) 2)=((s/2^(k+1):Nat):Int):=by
     have e1:Int.tdiv ((s/2^k:Nat):Int) 2=((s/2^k/2:Nat):Int):=rfl;rw[e1,Nat.div_div_eq_div_mul,←Nat.pow_succ];have:s/2^k.succ≤s:=Nat.div_le_self _ _;show IntKind.i64.wrap ((s/2^k.succ:Nat):Int)=((s/2^k.succ:Nat):Int);generalize s/2^k.succ=z at *;exact aT (by omega)
   simp only[go_sem,e1,e5,e0,w1,bG (show k≤4611686018427387904 by omega)];exact⟨by decide,⟨k+1,hlt,rfl,rfl⟩,by simp only[aI];omega⟩
 · have hge:=geB hk hge
   subst hge;simp only[go_sem,e1,e5,e0];refine⟨by decide,eI ?_⟩;unfold jK;have e1:Int.tmod ((s/2^k:Nat):Int) 2=((s/2^k%2:Nat):Int):=rfl;rw[e1,Bool.eq_iff_iff];simp only[beq_iff_eq];omega
def oQ(near:List Int)(i:Nat):Bool:=decide (near.getD i 0<0)||decide (near.getD i 0≥((2^near.length:Nat):Int))|| !jK (near.getD i 0).toNat i
def lV(x:Instance)(near:List Int):Bool:= !((near.length:Int) != (x.orders.length:Int))&&(List.range near.length).all fun i=> !oQ near i
theorem Sz(x:Instance)(near:List Int)(hx:x.orders.length≤62)(hnl:near.length≤1048576):PC Tryz.prog 14 [.agg (aQ x),.sl (near.map aM)] (boo (lV x near)):=by
 have eL:lV x near=(!((near.length:Int) != (x.orders.length:Int))&&(List.range near.length).all fun i=> !oQ near i):=rfl;generalize lV x near=R at eL;refine PC.body (c:=Tryz.f14.body.getD .skip) (fun _=>false) mixed Tryz.func14 rfl (by kernel_rfl) ?_;unfold Tryz.f14;simp only[Option.getD_some];simp only[go_sem];refine aA (fun hb=>?_) (fun hb=>?_)
 · rw[hb]at eL
   subst eL;simp only[go_sem];exact .refl _
 rw[hb,Bool.not_false,Bool.true_and]at eL;have hl:near.length=x.orders.length:=by simp at hb;omega
 simp only[go_sem];refine⟨fun ρ H=>∃(k:Nat),k≤near.length∧ρ 1=.sl (near.map aM)∧ρ 5=int k∧(∀i,i<k→oQ near i=false),fun ρ _=>near.length-bQ (ρ 5),⟨0,Nat.zero_le _,by simp only[go_sem],(by simp only[go_sem];rfl),by intro i hi;omega⟩,?_⟩;rintro ρ H ⟨k,hk,e1,e5,hz⟩;simp only[go_sem,e1,e5];refine aA (fun hlt=>?_) (fun hge=>?_)
 · have hlt:=ltB (by simpa using hlt)
   obtain⟨v,hv⟩:=bC hlt;have b1:=inB hlt;have hgv:near.getD k 0=v:=by rw[List.getD,hv];rfl
   have hlb:oQ near k=(decide (v<0)||decide (v≥((2^near.length:Nat):Int))|| !jK v.toNat k):=by unfold oQ;rw[hgv]
   have hp2:2^near.length≤2^62:=Nat.pow_le_pow_right (by decide) (by omega);simp only[go_sem,e1,e5];refine kK [(0,true),(1,true),(2,true),(3,true),(4,true),(5,true),(6,true),(7,true),(8,true),(9,true),(10,true),(11,true),(12,true),(13,true),(14,true),(15,true),(16,true),(17,true),(18,true),(19,true),(20,true),(21,true),(22,true),(23,true)] (by kernel_rfl) ?_;simp only[go_sem,e1,e5,aH hv,b1,List.length_map];refine⟨_,fun _=>PC.q (XU near.length (by omega)) rfl,?_⟩;simp only[go_sem,e1,e5,aH hv,b1,List.length_map];refine⟨boo (jK v.toNat k),fun hg=>?_,?_⟩
   · rw[Bool.or_eq_false_iff]at hg
     have g1:=of_decide_eq_false hg.1;have g2:=of_decide_eq_false hg.2;obtain⟨n,rfl⟩:∃n:Nat,v=(n:Nat):=⟨v.toNat,by omega⟩;rw[Int.toNat_natCast];exact PC.q (Ut n k (by omega) (by omega)) rfl
   simp only[go_sem,e1,e5];refine aA (fun hb=>?_) (fun hb=>?_)
   · have : ((List.range near.length).all fun i => !oQ near i) = false := by
       rw[Bool.eq_false_iff];intro h;have:=List.all_eq_true.1 h k (List.mem_range.2 hlt);rw[hlb,hb]at this;cases this
     rw[this]at eL;subst eL;simp only[go_sem];exact .refl _
   · simp only[go_sem,e1,e5,bG (show k≤4611686018427387904 by omega)]
     refine⟨⟨k+1,hlt,rfl,fun i hi=>?_⟩,by simp only[aI];omega⟩;by_cases e:i=k
     · subst e;rw[hlb];exact hb
     · exact hz i (by omega)
 have hge:=geB hk (by simpa using hge);subst hge;rw[List.all_eq_true.2 (fun i hi=>by rw[hz i (List.mem_range.1 hi)];rfl)]at eL;subst eL;simp only[go_sem];exact .refl _
def OJ(near:List Int)(m o:Nat)(s i:Nat):Nat:=if(i == o||(jK m i&&jK (near.getD o 0).toNat i))=true then s+2^i else s
def yE(near:List Int)(m o k:Nat):Nat:=(List.range k).foldl (OJ near m o) 0
theorem Bv(near:List Int)(m o k:Nat):yE near m o (k+1)=OJ near m o (yE near m o k) k:=by
 unfold yE;rw[List.range_succ,List.foldl_append];rfl
theorem B7(near:List Int)(m o:Nat):∀k,yE near m o k<2^k
 | 0=>by show 0<1;decide
 | k+1=>by
   have:=B7 near m o k;rw[Bv,Nat.pow_succ];unfold OJ;split <;> omega
end Go.Proofs.YtdlijlecpopadaaGreatDoor.Rx
end
