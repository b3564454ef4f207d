import Derived.Test.YtohmomanmikphaaGreatDoorPa14
set_option linter.unusedSimpArgs false
set_option linter.unusedVariables false
set_option maxRecDepth 100000
section
namespace Go.Proofs.YtohmomanmikphaaGreatDoor.Sq
open Go.Proofs.Tryz(prog)
open Go.Aw Go.Aw.D Go.Proofs Ty
open Mv (bJ bR aM)
def oT(set:Int)(k:Nat):List Int:=((List.range k).filter fun i:Nat=>dE set (i:Int)).map fun i:Nat=>(i:Int)
def gZ(set:Int):List Int:=oT set 63
theorem oJ(set:Int)(k:Nat):oT set (k+1)=oT set k++(if dE set (k:Int)=true then[(k:Int)]else[]):=by
 unfold oT;rw[Xbg,List.filter_append,Xar];by_cases h:dE set (k:Int)=true
 . simp[h]
 . simp[h]
theorem wH(set:Int)(k:Nat):(oT set k).length<=k:=by
 unfold oT;rw[Xaa];exact Xal (Xcc _ _) (by simp)
theorem qE(set:Int):PC prog 117 [int set] (.sl ((gZ set).map bW)):=by
 refine pcb (fun t=>t == 3) Tryz.func117 ?_;unfold Tryz.f117;simp only[gdS];simp only[go_sem];refine aL fun j X=>?_
 simp only[go_sem];refine⟨fun ρ H=>∃k:Nat,k<=63/\ρ 0=int set/\ρ 5=int k/\∃j,ρ 3=.os j/\H j=some (nA (oT set k)),fun ρ _=>63-aV (ρ 5),⟨0,Xab _,rfl,rfl,j,rfl,aA _ _ _⟩,?_⟩;clear X;rintro ρ H ⟨k,Y,h0,J,j,I,R⟩;simp only[go_sem,h0,J,I];refine aB (fun E=>?_) (fun F=>?_)
 . have E:k<63:=by simp at E;omega
   simp only[go_sem,h0,J,I];refine PC.use (xO set k) ?_;simp only[go_sem,h0,J,I];refine aB (fun O=>?_) (fun O=>?_)
   . simp only[go_sem,h0,J,I]
     refine aZ R ⟨rfl,rfl⟩ ⟨rfl,trivial⟩ (by have:=wH set k;simp;omega) (fun V U=>?_);simp only[go_sem,h0,J,I,aT (show k<=4611686018427387904 by omega)];refine⟨⟨k+1,E,rfl,V,rfl,?_⟩,by simp only[aE];omega⟩;rw[oJ,if_pos O];exact gW (l':=[(k:Int)]) rfl
   . simp only[go_sem,h0,J,I,aT (show k<=4611686018427387904 by omega)]
     refine⟨⟨k+1,E,rfl,j,rfl,?_⟩,by simp only[aE];omega⟩;rw[oJ,if_neg (by rw[O];simp),Xai];exact R
 . have F:k=63:=by simp at F;omega
   subst F;simp only[go_sem,I];exact .row _ _ _ R (ConvE.refl _)
def UX(a b:Int):Int:=W (a+b)
def QA(a b:Int):Int:=W (a-b)
theorem apE(a b:Int):PC prog 372 [int a,int b] (int (UX a b)):=by
 refine pcd Tryz.func372 ?_;unfold Tryz.f372;simp only[gdS];simp only[go_sem];exact .refl _
theorem Fy(a b:Int):PC prog 373 [int a,int b] (int (QA a b)):=by
 refine pcd Tryz.func373 ?_;unfold Tryz.f373;simp only[gdS];simp only[go_sem];exact .refl _
theorem ZW{α:Type}{l:List α}{k n:Nat}{x z:α}(F:l.length=n)(h:l[k]?=some x):(l.take k++List.replicate (n-k) z).set k x=l.take (k+1)++List.replicate (n-(k+1)) z:=by
 have E:=(List.getElem?_eq_some_iff.1 h).1;have e:n-k=(n-(k+1))+1:=by omega
 rw[bQ h,e,List.replicate_succ,List.set_append_right _ _ (by simp;omega)];have:k-(l.take k).length=0:=by simp;omega
 rw[this,List.set_cons_zero];simp
theorem JM{g:Nat}{op:Int->Int->Int}(a b:List Int)(hl:a.length<=1048576)(V:a.length=b.length)(Z:aG prog g=true)(hg:∀p q,PC prog g [int p,int q] (int (op p q))):
   NC prog 371 [.sl (a.map bW),.sl (b.map bW),.v (.func (.func g) #[] #[])] (nA (List.zipWith op a b)) (fun j=>.tup [.os j,int 0]):=by
 have Y:(List.zipWith op a b).length=a.length:=by rw[List.length_zipWith,<-V,Nat.min_self]
 refine ncb (fun _=>false) Tryz.func371 ?_;unfold Tryz.f371;simp only[gdS];simp only[go_sem];refine aB (fun hb=>by rw[V]at hb;simp at hb) (fun _=>?_);simp only[go_sem];refine⟨⟨by omega,by omega⟩,aL fun j hj=>?_⟩;simp only[go_sem];refine⟨fun ρ H=>∃k:Nat,k<=a.length/\ρ 0=.sl (a.map bW)/\ρ 1=.sl (b.map bW)/\ρ 2=.v (.func (.func g) #[] #[])/\ρ 8=.os j/\ρ 19=int a.length/\ρ 20=int k/\H j=some (nA ((List.zipWith op a b).take k++List.replicate (a.length-k) 0)),fun ρ _=>a.length-aV (ρ 20),⟨0,Xab _,rfl,rfl,rfl,rfl,by simp only[go_sem,Xaa],rfl,?_⟩,?_⟩
 . rw[aA]
   simp[nA,List.map_replicate,bW]
 clear hj;rintro ρ H ⟨k,hk,h0,h1,X,U,I,F,R⟩;simp only[go_sem,h0,h1,X,U,I,F];refine aB (fun E=>?_) (fun O=>?_)
 . have E:=aQ E
   obtain⟨p,hp⟩:=aN E;obtain⟨q,hq⟩:=aN (show k<b.length by omega);have b1:=inB E;have b2:=inB (show k<b.length by omega);simp only[go_sem,h0,h1,X,U,I,F];refine xM [(0,true),(1,true),(2,true),(3,true),(4,true),(5,true),(6,true),(7,true),(8,false),(9,false),(10,false),(11,false),(12,false),(13,false)] (by kernel_rfl) ?_;simp only[go_sem,h0,h1,X,U,I,F,aC hp,aC hq,b1,b2,Z];refine PC.use (hg p q) ?_;have J:((List.zipWith op a b).take k++List.replicate (a.length-k) 0:List Int).length=a.length:=by simp[Y];omega
   simp only[go_sem,h0,h1,X,U,I,F,R];refine⟨⟨b1.1,by rw[J];exact b1.2⟩,dM so3 R (by rw[Xaa,J];exact⟨E,rfl,Xah 1⟩) ?_⟩;have hz:(List.zipWith op a b)[k]?=some (op p q):=by rw[List.getElem?_zipWith,hp,hq]
   have aa:k<((List.zipWith op a b).take k++List.replicate (a.length-k) 0:List Int).length:=by omega
   obtain⟨y,hy⟩:=aN aa;have hs:=ZW (n:=a.length) (z:=(0:Int)) Y hz;simp only[go_sem,h0,h1,X,U,I,F,aC hy,aT (show k<=4611686018427387904 by omega)];refine⟨⟨k+1,E,rfl,?_⟩,by simp only[aE];omega⟩;rw[<-hs];show _=some (⟨3,1,_⟩:Row);rw[List.map_set];rfl
 . have O:=aR hk O
   subst O;simp only[go_sem,U];refine⟨j,rfl,?_⟩;rw[R,Xap (by omega)];simp
def wN(a b:List Int):List Int:=List.zipWith UX a b
def BS(a b:List Int):List Int:=List.zipWith QA a b
theorem amA(a b:List Int)(F:a.length<=1048576)(E:a.length=b.length):NC prog 352 [.sl (a.map bW),.sl (b.map bW)] (nA (wN a b)) (fun j=>.tup [.os j,int 0]):=by
 refine ncb (fun _=>false) Tryz.func352 ?_;unfold Tryz.f352;simp only[gdS];simp only[go_sem];refine NC.use (JM a b F E (by simp only[go_sem]) apE) fun j I=>?_
 simp only[go_sem];exact⟨j,rfl,aA _ _ _⟩
theorem avA(a b:List Int)(F:a.length<=1048576)(E:a.length=b.length):NC prog 353 [.sl (a.map bW),.sl (b.map bW)] (nA (BS a b)) (fun j=>.tup [.os j,int 0]):=by
 refine ncb (fun _=>false) Tryz.func353 ?_;unfold Tryz.f353;simp only[gdS];simp only[go_sem];refine NC.use (JM a b F E (by simp only[go_sem]) Fy) fun j I=>?_
 simp only[go_sem];exact⟨j,rfl,aA _ _ _⟩
theorem NC.pc2{f:FuncId}{args:List AV}{r:Row}{y:AV}(h:NC prog f args r (fun j=>.tup [.os j,y])):PC prog f args (.tup [.sl r.es,y]):=
 RC.conv (RC.mono h fun x H' ⟨k,F,E⟩=>by rw[F];exact .tup _ _ (.cons _ _ _ _ (.row _ _ _ E (ConvE.refl _)) (ConvL.refl _)))
theorem aeU(a c:List Int)(hl:a.length<=1048576):PC prog 317 [.sl (a.map bW),.sl (c.map bW)] (boo (iA a c)):=by
 refine pcd Tryz.func317 ?_;unfold Tryz.f317;simp only[gdS];simp only[go_sem];refine aB (fun V=>?_) (fun V=>?_)
 . simp only[go_sem]
   refine bR ?_;unfold iA;have:((a.length:Int) == (c.length:Int))=false:=by simpa[bne]using V
   rw[this];rfl
 have X:a.length=c.length:=by simp[bne]at V;omega
 simp only[go_sem];refine⟨fun ρ _=>∃k:Nat,k<=a.length/\ρ 1=.sl (c.map bW)/\ρ 12=.sl (a.map bW)/\ρ 13=int a.length/\ρ 14=int k/\∀i∈(List.range a.length).take k,decide (a.getD i 0>c.getD i 0)=false,fun ρ _=>a.length-aV (ρ 14),⟨0,Xab _,rfl,rfl,by simp only[go_sem,Xaa],rfl,by simp⟩,?_⟩;rintro ρ H ⟨k,hk,h1,J,F,O,Y⟩;simp only[go_sem,h1,J,F,O];refine aB (fun E=>?_) (fun U=>?_)
 . have E:=aQ E
   obtain⟨p,hp⟩:=aN E;obtain⟨q,Z⟩:=aN (show k<c.length by omega);have b1:=inB E;have b2:=inB (show k<c.length by omega);have e1:a.getD k 0=p:=by simp[List.getD,hp]
   have e2:c.getD k 0=q:=by simp[List.getD,Z]
   simp only[go_sem,h1,J,F,O,aC hp,aC Z,b1,b2];refine aB (fun I=>?_) (fun I=>?_)
   . simp only[go_sem]
     refine bR ?_;unfold iA
     symm
     rw[Xcm];right;exact uQ (gL E) (by rw[e1,e2,I];rfl)
   . simp only[go_sem,h1,J,F,O,aT (show k<=4611686018427387904 by omega)]
     exact⟨⟨k+1,E,rfl,aM (p:=fun i=>decide (a.getD i 0>c.getD i 0)=false) (gL E) (by rw[e1,e2];exact I) Y⟩,by simp only[aE];omega⟩
 . have U:=aR hk U
   subst U;simp only[go_sem];refine bR ?_;unfold iA
   symm
   rw[Xak];refine⟨by simp[X],Xaj.2 fun i hi=>?_⟩;rw[Y i (by rw[Xap (by simp)];exact hi)];rfl
theorem LY(x:Instance):PC prog 351 [.sl (x.types.map bC)] (int (fI x)):=by
 refine pcd Tryz.func351 ?_;unfold Tryz.f351;simp only[gdS];simp only[go_sem];refine aB (fun E=>?_) (fun E=>?_)
 . simp only[go_sem]
   have:x.types=[]:=Xco (by simp at E;simpa using E);exact bJ (by unfold fI;rw[this];rfl)
 . have h0 : 0 < x.types.length := by
     rcases Xcr x.types.length with h|h
     . rw[h]at E;simp at E
     . exact h
   obtain⟨t,F⟩:=aN h0;have I:(0:Int)<=0/\(0:Int)<(x.types.length:Int):=⟨Xbi _,by omega⟩;simp only[go_sem,aC (k:=0) F,I];exact bJ (by unfold fI;rw[F])
def uW(c s:Int):Bool:=(decide (c>=0)&&decide (s>=0))&&(vU .andNot .i64 s c == 0)
theorem apB(t:VType)(s:Int):PC prog 313 [.agg (bC t),int s] (boo (uW t.skills s)):=by
 refine pcd Tryz.func313 ?_;unfold Tryz.f313;simp only[gdS];simp only[go_sem];exact .refl _
def pT(x:Instance)(s:List Int)(i:Int):List Int:=match x.orders[i.toNat]? with
 | some o=>if decide (o.pick.place<0)=true then wN s o.load else s
 | none=>s
def MS(x:Instance)(set dims:Int):List Int:=(gZ set).foldl (pT x) (List.replicate dims.toNat 0)
theorem kF{α E:Type}{f:E->α->E}{l:List α}{k:Nat}{x:α}{b:E}(h:l[k]?=some x):(l.take (k+1)).foldl f b=f ((l.take k).foldl f b) x:=by rw[bQ h,Xbh];rfl
theorem BX{x:Instance}{d:Nat}(E:∀o∈x.orders,o.load.length=d)(l:List Int):(l.foldl (pT x) (List.replicate d 0)).length=d:=by
 suffices ∀(l:List Int) (s:List Int),s.length=d->(l.foldl (pT x) s).length=d from this l _ (by simp)
 intro l;induction l with
 | nil=>intro s h;exact h
 | cons i r ih=>
   intro s h;rw[List.foldl_cons];refine ih _ ?_;unfold pT;split
   . rename_i o F
     split
     . unfold wN
       rw[List.length_zipWith,h,E o (Xac F),Nat.min_self]
     . exact h
   . exact h
theorem aiG(x:Instance)(set dims:Int)(h0:0<=dims)(h1:dims<=1048576)(hd:∀o∈x.orders,o.load.length=dims.toNat)(hm:∀i∈gZ set,0<=i/\i<(x.orders.length:Int)):
   PC prog 350 [.agg (aD x),int set,int dims] (.sl ((MS x set dims).map bW)):=by
 have ac:(gZ set).length<=63:=wH set 63;refine pcb (fun t=>t == 28) Tryz.func350 ?_;unfold Tryz.f350;simp only[gdS];simp only[go_sem];refine⟨⟨⟨h0,Xbi _⟩,by omega⟩,aL fun j hj=>?_⟩;simp only[go_sem];refine PC.use (qE set) ?_;simp only[go_sem];refine⟨fun ρ H=>∃k:Nat,k<=(gZ set).length/\ρ 3=.rp (aD x) 0/\ρ 13=.sl ((gZ set).map bW)/\ρ 14=int (gZ set).length/\ρ 15=int k/\∃j,ρ 7=.os j/\H j=some (nA (((gZ set).take k).foldl (pT x) (List.replicate dims.toNat 0))),fun ρ _=>(gZ set).length-aV (ρ 15),⟨0,Xab _,rfl,rfl,by simp only[go_sem,Xaa],rfl,j,rfl,?_⟩,?_⟩
 . rw[aA];simp[nA,List.map_replicate,bW]
 clear hj;rintro ρ H ⟨k,hk,V,E,F,J,j,O,R⟩;simp only[go_sem,V,E,F,J,O];refine aB (fun I=>?_) (fun U=>?_)
 . have I:=aQ I
   obtain⟨i,hi⟩:=aN I;have b1:=inB I;have Z:=hm i (Xac hi);obtain⟨o,X⟩:=aN (show i.toNat<x.orders.length by omega);have es:((gZ set).take (k+1)).foldl (pT x) (List.replicate dims.toNat 0)=if decide (o.pick.place<0)=true then wN (((gZ set).take k).foldl (pT x) (List.replicate dims.toNat 0)) o.load else((gZ set).take k).foldl (pT x) (List.replicate dims.toNat 0):=by
     rw[kF hi,pT,X]
   have aa:=BX hd ((gZ set).take k);generalize hS:((gZ set).take k).foldl (pT x) (List.replicate dims.toNat 0)=s at *;simp only[go_sem,V,E,F,J,O,aC hi,b1,aC X,Z];refine aB (fun Y=>?_) (fun Y=>?_)
   . simp only[go_sem,V,E,F,J,O,aC X,Z]
     refine Bc (by simp only[go_sem,O]) R fun Hr ab hr=>?_
     simp only[go_sem,V,E,F,J,O,aC X,Z];refine NC.use (amA s o.load (by omega) (by rw[aa,hd o (Xac X)])) fun j2 ad=>?_
     simp only[go_sem,V,E,F,J,O,aT (show k<=4611686018427387904 by omega)];exact⟨⟨k+1,I,rfl,j2,rfl,by rw[es,if_pos Y];exact aA _ _ _⟩,by simp only[aE];omega⟩
   . simp only[go_sem,V,E,F,J,O,aT (show k<=4611686018427387904 by omega)]
     exact⟨⟨k+1,I,rfl,j,rfl,by rw[es,if_neg (by rw[Y];simp)];exact R⟩,by simp only[aE];omega⟩
 . have U:=aR hk U
   subst U;rw[Xag]at R;simp only[go_sem,O];exact .row _ _ _ R (ConvE.refl _)
def Q9(x:Instance)(s:List Int)(v:Visit):List Int:=match x.orders[v.order.toNat]? with
 | some o=>if v.drop=true then BS s o.load else wN s o.load
 | none=>s
def Ci(x:Instance)(l:List Visit)(k:Nat):List Int:=(l.take k).foldl (Q9 x) (MS x (cK l).1 (fI x))
def vP(x:Instance)(l:List Visit)(k:Nat):List (List Int):=(List.range k).map (Ci x l)
theorem Ja{x:Instance}{l:List Visit}{k:Nat}{v:Visit}(h:l[k]?=some v):Ci x l (k+1)=Q9 x (Ci x l k) v:=kF h
structure LoadB(x:Instance):Prop where
 dims:0<=fI x/\fI x<=1048576
 load:∀o∈x.orders,o.load.length=(fI x).toNat
 few:x.orders.length<=63
theorem Zf{x:Instance}(E:LoadB x){s:List Int}{v:Visit}(h:s.length=(fI x).toNat):(Q9 x s v).length=(fI x).toNat:=by
 unfold Q9;split
 . rename_i o F
   have:=E.load o (Xac F);split
   . unfold BS;rw[List.length_zipWith,h,this,Nat.min_self]
   . unfold wN;rw[List.length_zipWith,h,this,Nat.min_self]
 . exact h
theorem CG{x:Instance}(E:LoadB x)(l:List Visit)(k:Nat):(Ci x l k).length=(fI x).toNat:=by
 suffices ∀(l:List Visit) (s:List Int),s.length=(fI x).toNat->(l.foldl (Q9 x) s).length=(fI x).toNat from this _ _ (BX E.load _)
 intro l;induction l with
 | nil=>intro s h;exact h
 | cons v r ih=>intro s h;rw[List.foldl_cons];exact ih _ (Zf E h)
theorem Ya{s:Nat}{i:Int}(h:i∈gZ (s:Int)):0<=i/\i<=62/\s.testBit i.toNat=true:=by
 unfold gZ oT at h;obtain⟨k,F,rfl⟩:=Xbd.1 h;obtain⟨h1,E⟩:=List.mem_filter.1 F;have I:=Xam.1 h1;refine⟨by omega,by omega,?_⟩
 rwa [kS (by omega) (by omega)]at E
theorem Zd{x:Instance}{l:List Visit}(h:pU x l=0):∀v∈l,0<=v.order/\v.order<(x.orders.length:Int):=by
 intro v F;by_cases E:((l.length:Int) == 0||l.any fun v=>cC v.order x.orders.length)=true
 . unfold pU at h;rw[if_pos E]at h;cases h
 . have E : cC v.order x.orders.length = false := by
     rw[Xcd,Xaf]at E;have:=Xay.1 E.2 v F;simpa using this
   simp only[cC,Xaf,decide_eq_false_iff_not]at E;omega
theorem A2{x:Instance}(O:LoadB x){l:List Visit}(h:∀v∈l,0<=v.order/\v.order<(x.orders.length:Int)):cK l=(((uJ l:Nat):Int),0)/\∀i∈gZ (cK l).1,0<=i/\i<(x.orders.length:Int):=by
 have E:∀v∈l,xW v=false:=fun v F=>by
   have:=h v F;have:=O.few;simp only[xW,Xaf,decide_eq_false_iff_not];omega
 have e:cK l=(((uJ l:Nat):Int),0):=by
   unfold cK;rw[if_neg (by rw[pF E];simp),Bj E]
 refine⟨e,fun i hi=>?_⟩;rw[e]at hi;obtain⟨h0,h1,I⟩:=Ya hi;rw[FU]at I;obtain⟨v,F,J⟩:=Xan.1 I;have:=h v F;have:v.order.toNat=i.toNat:=by simpa using J
 omega
def nD(x:Instance)(l:List Visit):List (List Int)×Int:=if(pU x l != 0)=true then([],pU x l)else(vP x l (l.length+1),0)
theorem abY(x:Instance)(r:Route)(hx:LoadB x)(hl:r.visits.length<=1048576)(ha:x.apart.length<=1048576)(hb:x.before.length<=1048576):
   PC prog 314 [.agg (aD x),.agg (bT r)] (.tup [.sl ((nD x r.visits).1.map hU),int (nD x r.visits).2]):=by
 refine pcb (fun t=>t == 35) Tryz.func314 ?_;unfold Tryz.f314;simp only[gdS];simp only[go_sem];refine PC.use (GC x r hl ha hb) ?_;simp only[go_sem];refine aB (fun hc=>?_) (fun hc=>?_)
 . simp only[go_sem]
   have:nD x r.visits=([],pU x r.visits):=by unfold nD;rw[if_pos hc]
   rw[this];exact .refl _
 have e0:nD x r.visits=(vP x r.visits (r.visits.length+1),0):=by unfold nD;rw[if_neg (by rw[hc];simp)]
 have ai:pU x r.visits=0:=by simpa[bne]using hc
 have ah:=Zd ai;obtain⟨eo,hm⟩:=A2 hx ah;simp only[go_sem];refine PC.use (GL r hl) ?_;simp only[go_sem];refine aB (fun ae=>by rw[eo]at ae;simp at ae) (fun _=>?_);simp only[go_sem];refine xM [(0,true),(1,true),(2,false),(3,false),(4,false),(5,false),(6,false)] (by kernel_rfl) ?_;simp only[go_sem];refine PC.use (LY x) ?_;simp only[go_sem];refine PC.use (aiG x _ _ hx.dims.1 hx.dims.2 hx.load hm) ?_;simp only[go_sem];refine aL fun j hj=>?_
 simp only[go_sem];refine⟨fun ρ H=>∃k:Nat,k<=r.visits.length/\ρ 2=.rp (aD x) 0/\ρ 37=.sl (r.visits.map aJ)/\ρ 38=int r.visits.length/\ρ 39=int k/\ρ 9=.sl ((Ci x r.visits k).map bW)/\∃j,ρ 10=.os j/\H j=some (JS (vP x r.visits (k+1))),fun ρ _=>r.visits.length-aV (ρ 39),⟨0,Xab _,rfl,rfl,by simp only[go_sem,Xaa],rfl,rfl,j,rfl,aA _ _ _⟩,?_⟩;clear hj;rintro ρ H ⟨k,hk,X,F,E,I,h9,j,J,R⟩;simp only[go_sem,X,F,E,I,h9,J];refine aB (fun V=>?_) (fun ac=>?_)
 . have V:=aQ V
   obtain⟨v,hv⟩:=aN V;have b1:=inB V;have af:=ah v (Xac hv);obtain⟨o,ho⟩:=aN (show v.order.toNat<x.orders.length by omega);have al:=hx.load o (Xac ho);have ak:=CG hx r.visits k;have hd:=hx.dims;have hn:=Ja (x:=x) hv;unfold Q9 at hn;rw[ho]at hn;simp only at hn;simp only[go_sem,X,F,E,I,h9,J,aC hv,b1];refine aL fun aa Z=>?_
   have O:j≠aa:=aP R Z;simp only[go_sem,X,F,E,I,h9,J,R];refine aH (aA _ _ _) (by simp[cX]) ?_;generalize U:aI (aI _ aa _) aa _=HGi12;replace R:=kpR U O O R;have ab:HGi12 aa=some (⟨119,2,[aJ v]⟩):=by rw[<-U,aA];try rfl
   clear U Z;simp only[go_sem,X,F,E,I,h9,J,ab,R];have ad:vP x r.visits (k+2)=vP x r.visits (k+1)++[Ci x r.visits (k+1)]:=by unfold vP;rw[Xbg,Xar];rfl
   have ag:(vP x r.visits (k+1)).length=k+1:=by simp[vP]
   refine aB (fun Y=>?_) (fun Y=>?_)
   . simp only[go_sem,X,F,E,I,h9,J,ab,aC ho,af]
     refine PC.use (NC.pc2 (avA (Ci x r.visits k) o.load (by omega) (by omega))) ?_;simp only[go_sem,X,F,E,I,h9,J];refine aB (fun hb=>by simp at hb) (fun _=>?_);simp only[go_sem,X,F,E,I,h9,J];refine aZ R ⟨rfl,rfl⟩ ⟨rfl,trivial⟩ (by simp only[Xaa,ag,Xad,List.length_nil];omega) (fun j' aj=>?_);simp only[go_sem,X,F,E,I,aT (show k<=4611686018427387904 by omega)];refine⟨⟨k+1,V,rfl,by rw[hn,if_pos Y],j',rfl,?_⟩,by simp only[aE];omega⟩;rw[aA,ad,hn,if_pos Y];show _=some (⟨86,1,_⟩:Row);rw[Xar];rfl
   . simp only[go_sem,X,F,E,I,h9,J,ab,aC ho,af]
     refine PC.use (NC.pc2 (amA (Ci x r.visits k) o.load (by omega) (by omega))) ?_;simp only[go_sem,X,F,E,I,h9,J];refine aB (fun hb=>by simp at hb) (fun _=>?_);simp only[go_sem,X,F,E,I,h9,J];refine aZ R ⟨rfl,rfl⟩ ⟨rfl,trivial⟩ (by simp only[Xaa,ag,Xad,List.length_nil];omega) (fun j' aj=>?_);simp only[go_sem,X,F,E,I,aT (show k<=4611686018427387904 by omega)];refine⟨⟨k+1,V,rfl,by rw[hn,if_neg (by rw[Y];simp)],j',rfl,?_⟩,by simp only[aE];omega⟩;rw[aA,ad,hn,if_neg (by rw[Y];simp)];show _=some (⟨86,1,_⟩:Row);rw[Xar];rfl
 . have ac:=aR hk ac
   subst ac;simp only[go_sem,J];rw[e0];exact .tup _ _ (.cons _ _ _ _ (.row _ _ _ R (ConvE.refl _)) (ConvL.refl _))
theorem ajF(x:Instance)(r:Route)(a:List Int)(J:a.length<=1048576)(I:cC r.type x.types.length=false):
   PC prog 316 [.sl (a.map bW),.rp (aD x) 0,.rp (bT r) 0] (boo (!iA a (ES x r.type))):=by
 have E:0<=r.type/\r.type<(x.types.length:Int):=by
   simp only[cC,Xaf,decide_eq_false_iff_not]at I;omega
 obtain⟨t,F⟩:=aN (show r.type.toNat<x.types.length by omega);have O:ES x r.type=t.cap:=by unfold ES;rw[F]
 refine pcd Tryz.func316 ?_;unfold Tryz.f316;simp only[gdS];simp only[go_sem];simp only[go_sem,aC F,E];refine PC.use (aeU a t.cap J) ?_;simp only[go_sem];rw[O];exact .refl _
def wL(x:Instance)(r:Route):Int:=
 if cC r.type x.types.length=true then 2 else if((nD x r.visits).2 != 0)=true then(nD x r.visits).2
 else if((nD x r.visits).1.any fun l=> !iA l (ES x r.type))=true then 17 else 0
theorem Rf{x:Instance}(F:LoadB x){l:List Visit}:(nD x l).1.length<=l.length+1/\∀a∈(nD x l).1,a.length=(fI x).toNat:=by
 unfold nD;split
 . simp
 . refine⟨by simp[vP],fun a E=>?_⟩
   obtain⟨k,_,rfl⟩:=Xbd.1 E;exact CG F l k
theorem akZ(x:Instance)(r:Route)(I:LoadB x)(hl:r.visits.length<=1048575)(V:x.apart.length<=1048576)(X:x.before.length<=1048576):
   PC prog 274 [.agg (aD x),.agg (bT r)] (int (wL x r)):=by
 refine pcd Tryz.func274 ?_;unfold Tryz.f274;simp only[gdS];simp only[go_sem];refine aB (fun h1=>?_) (fun h1=>?_)
 . simp only[go_sem]
   exact bJ (by unfold wL;rw[if_pos (show cC r.type x.types.length=true from h1)])
 have h1:cC r.type x.types.length=false:=h1;have O:¬cC r.type x.types.length=true:=by rw[h1];simp
 simp only[go_sem];refine PC.use (abY x r I (by omega) V X) ?_;simp only[go_sem];refine aB (fun E=>?_) (fun E=>?_)
 . simp only[go_sem]
   exact bJ (by unfold wL;rw[if_neg O,if_pos E])
 have U:¬((nD x r.visits).2 != 0)=true:=by rw[E];simp
 obtain⟨ln,Y⟩:=Rf I (l:=r.visits);have Z:=I.dims;simp only[go_sem];refine PC.use (Fk (p:=fun a=> !iA a (ES x r.type)) (nD x r.visits).1 (by omega) (by simp only[go_sem]) fun a F=>ajF x r a (by rw[Y a F];omega) h1) ?_;simp only[go_sem];refine aB (fun J=>?_) (fun J=>?_)
 . simp only[go_sem]
   exact bJ (by unfold wL;rw[if_neg O,if_neg U,if_pos J])
 . simp only[go_sem]
   exact bJ (by unfold wL;rw[if_neg O,if_neg U,if_neg (by rw[J];simp)])
theorem amI{H:aK}{a b:ByteArray}(h:a=b):Conv H (.v (.string a)) (.v (.string b)):=h▸.refl _
theorem afY(n:Nat)(O:n<20):PC prog 337 [int n] (str (kB n)):=by
 refine pcd Tryz.func337 ?_;unfold Tryz.f337;simp only[gdS];simp only[go_sem];refine aB (fun E=>?_) (fun E=>?_)
 . simp only[go_sem,aT (show n<=4611686018427387904 by omega)]
   have F:n=0\/n=1\/n=2\/n=3\/n=4\/n=5\/n=6\/n=7\/n=8\/n=9:=by simp at E;omega
   rcases F with rfl|rfl|rfl|rfl|rfl|rfl|rfl|rfl|rfl|rfl <;> exact⟨by decide,amI (by rw[xB (by omega)];rfl)⟩
 . have J:10<=n:=by simp at E;omega
   have w1:IntKind.i64.wrap ((n:Int)*2)=((n*2:Nat):Int):=by rw[bH (by omega)];omega
   have I:IntKind.i64.wrap (((n*2:Nat):Int)+2)=((n*2+2:Nat):Int):=by rw[bH (by omega)];omega
   simp only[go_sem,w1,I];have F:n=10\/n=11\/n=12\/n=13\/n=14\/n=15\/n=16\/n=17\/n=18\/n=19:=by omega
   rcases F with rfl|rfl|rfl|rfl|rfl|rfl|rfl|rfl|rfl|rfl <;> exact⟨by decide,amI (by rw[Bk (by omega),xB (by omega)];rfl)⟩
theorem Nk(n:Nat)(F:n<20):PC prog 296 [int n,int 10] (str (kB n)):=by
 refine pcd Tryz.func296 ?_;unfold Tryz.f296;simp only[gdS];simp only[go_sem];refine aB (fun _=>?_) (fun E=>by simp at E);simp only[go_sem];refine aB (fun E=>?_) (fun E=>by simp at E;omega);simp only[go_sem];refine PC.use (afY n F) ?_;simp only[go_sem];exact .refl _
theorem aeG(n:Nat)(E:n<20):PC prog 261 [int n] (str (kB n)):=by
 refine pcd Tryz.func261 ?_;unfold Tryz.f261;simp only[gdS];simp only[go_sem];refine PC.use (Nk n E) ?_;simp only[go_sem];exact .refl _
theorem TA(n:Nat)(E:n<20):PC prog 224 [int n] (str (kB n)):=by
 refine pcd Tryz.func224 ?_;unfold Tryz.f224;simp only[gdS];simp only[go_sem];refine PC.use (aeG n E) ?_;simp only[go_sem];exact .refl _
theorem kV{n:Int}(h: -9223372036854775808<=n/\n<=9223372036854775807):W n=n:=bH h
theorem Pz(n a b:Int):PC prog 359 [int n,int a,int b] (boo (decide (n>=a)&&decide (n<=b))):=by
 refine pcd Tryz.func359 ?_;unfold Tryz.f359;simp only[gdS];simp only[go_sem];exact .refl _
structure TravB(l:List Point):Prop where
 len:1<=l.length/\l.length<=16
 pt:∀p∈l,0<=p.t/\p.t<=4096/\p.t<=p.a/\p.a<=p.t+4096
 mono:∀i,i+1<l.length->(eA l i).t<(eA l (i+1)).t/\(eA l i).a<=(eA l (i+1)).a
theorem cY{α:Type}{b:Bool}{f:α}(h:opt b f=[]):b=false:=by
 cases b with
 | false=>rfl
 | true=>simp[opt]at h
theorem Lv{l:List Point}(h:iJ l=[]):TravB l:=by
 unfold iJ at h;rw[Xat]at h;have h1:=cY h.1;unfold B3 at h1;simp only[Xaf,decide_eq_false_iff_not]at h1;have F:∀i,i<l.length->iD l i=[]:=fun i hi=>Xbv.1 h.2 i (Xam.2 hi)
 have I:∀p∈l,0<=p.t/\p.t<=4096/\p.t<=p.a/\p.a<=p.t+4096:=fun p J=>by
   obtain⟨i,hi,rfl⟩:=List.getElem_of_mem J;have:=F i hi;unfold iD at this;rw[Xat]at this;have E:=cY this.1;rw[dH (List.getElem?_eq_getElem hi)]at E;unfold rE at E;simp only[Xaf,decide_eq_false_iff_not]at E;have w:=bH (n:=l[i].t+4096) (by omega);omega
 refine⟨by omega,I,fun i hi=>?_⟩;have:=F (i+1) hi;unfold iD at this;rw[Xat]at this;have E:=cY this.2;unfold LS at E;have e:i+1-1=i:=rfl;rw[e]at E;simp at E;exact E
theorem LN{l:List Point}(h:TravB l):∀(i j:Nat),i<j->j<l.length->(eA l i).t<(eA l j).t
 | i,0,hij,_=>by omega
 | i,j+1,hij,hj=>by
   have h1:=(h.mono j hj).1;by_cases e:i=j
   . subst e;exact h1
   . have:=LN h i j (by omega) (by omega)
     omega
theorem YE(l:List Point)(h:TravB l):PC prog 377 [.sl (l.map bY)] (.sl []):=by
 have hl:=h.len;refine pcd Tryz.func377 ?_;unfold Tryz.f377;simp only[gdS];simp only[go_sem];refine aB (fun V=>by exfalso;simp only[Xbq,Xba,decide_eq_true_eq]at V;omega) (fun _=>?_);simp only[go_sem];refine⟨fun ρ _=>∃k:Nat,k<=l.length/\ρ 0=.sl (l.map bY)/\ρ 19=.sl (l.map bY)/\ρ 20=int l.length/\ρ 21=int k/\ρ 3=.sl [],fun ρ _=>l.length-aV (ρ 21),⟨0,Xab _,rfl,rfl,rfl,rfl,rfl⟩,?_⟩;rintro ρ H ⟨k,hk,h0,F,E,I,J⟩;simp only[go_sem,h0,F,E,I,J];refine aB (fun O=>?_) (fun ae=>?_)
 . have O:=aQ O
   obtain⟨p,hp⟩:=aN O;have b1:=inB O;have af:=h.pt p (Xac hp);simp only[go_sem,h0,F,E,I,J,aC hp,b1];refine aL fun Z aa=>?_
   simp only[go_sem,h0,F,E,I,J];refine aH (aA _ _ _) (by simp[eQ]) ?_;generalize U:aI (aI _ Z _) Z _=HGi5;have X:HGi5 Z=some (⟨104,2,[bY p]⟩):=by rw[<-U,aA];rfl
   clear U aa;simp only[go_sem,h0,F,E,I,J,X];refine PC.use (TA k (by omega)) ?_;simp only[go_sem,h0,F,E,I,J,X];refine PC.use (Pz _ _ _) ?_;simp only[go_sem,h0,F,E,I,J,X];have w:=bH (n:=p.t+4096) (by omega);refine aB (fun V=>by exfalso;rw[w]at V;simp at V;omega) (fun _=>?_);simp only[go_sem,h0,F,E,I,J,X];refine gB [Z] [(0,false),(1,false),(2,false),(3,true),(4,true),(5,true),(6,false),(7,false),(8,false),(9,false),(10,false),(11,false),(12,false),(13,true),(14,true),(15,true),(16,false),(17,false),(18,false),(19,false),(20,false),(21,false),(22,false),(23,false)] (by simp[X]) (by kernel_rfl) fun Hp Hr ab hr _ ad=>?_
   have P5:=(ab Z (by simp)).trans X;obtain⟨q,hq⟩:=aN (show k-1<l.length by omega);have Y:decide ((k:Int)>0)=true->(0<=IntKind.i64.wrap ((k:Int)-1)/\IntKind.i64.wrap ((k:Int)-1)<(l.length:Int)):=fun hg=>by
     simp at hg;rw[oX (show k<=4611686018427387904 by omega)];omega
   simp only[go_sem,h0,F,E,I,J,P5,adR (show k<=4611686018427387904 by omega),aC hq];refine⟨Y,fun hg=>Y hg.1,iO fun _ Hm _ _=>?_⟩;simp only[go_sem,h0,F,E,I,J];have hm:0<k->q.t<p.t/\q.a<=p.a:=fun ac=>by
     have:=h.mono (k-1) (by omega);rw[show k-1+1=k by omega,dH hp,dH hq]at this;exact this
   refine aB (fun V=>?_) (fun _=>?_)
   . exfalso
     simp only[Xbq,Xak,decide_eq_true_eq]at V;have:=hm (by omega);omega
   simp only[go_sem,h0,F,E,I,J,aT (show k<=4611686018427387904 by omega)];exact⟨⟨k+1,O,rfl⟩,by simp only[aE];omega⟩
 . simp only[go_sem,J]
   exact .refl _
theorem Ll(l:List Point)(h:TravB l):PC prog 360 [.sl (l.map bY)] (boo true):=by
 refine pcd Tryz.func360 ?_;unfold Tryz.f360;simp only[gdS];simp only[go_sem];refine PC.use (YE l h) ?_;simp only[go_sem];exact .refl _
theorem JW(p:Point)(t:Int):PC prog 379 [.agg (bY p),int t] (int (W (p.t-t))):=by
 refine pcd Tryz.func379 ?_;unfold Tryz.f379;simp only[gdS];simp only[go_sem];exact .refl _
def bs(l:List Point)(t:Int):Nat:=(l.takeWhile fun p=>decide (p.t<t)).length
def An(l:List Point)(t:Int):Bool:=decide ((bs l t:Int)<(l.length:Int))&&((eA l (bs l t)).t-t == 0)
theorem acG{α:Type}{p:α->Bool}:∀(l:List α) (i:Nat),i<=l.length->(∀c x,c<i->l[c]?=some x->p x=true)->(∀x,l[i]?=some x->p x=false)->(l.takeWhile p).length=i
 | [],i,hi,_,_=>by simp at hi;simp[hi]
 | a::r,0,_,_,h2=>by
   have:=h2 a rfl;simp[List.takeWhile,this]
 | a::r,i+1,hi,h1,h2=>by
   have F:=h1 0 a (by omega) rfl;rw[Xbp,if_pos F,Xad,acG r i (by simpa using hi) (fun c x I E=>h1 (c+1) x (by omega) (by simpa using E)) (fun x E=>h2 x (by simpa using E))]
theorem aAy{l:List Point}{t:Int}{i:Nat}(hi:i<=l.length)(h1:∀c,c<i->(eA l c).t<t)(F:i<l.length->t<=(eA l i).t):bs l t=i:=by
 refine acG l i hi (fun c x I E=>?_) (fun x E=>?_)
 . have:=h1 c I
   rw[dH E]at this;simpa using this
 . have:=F (List.getElem?_eq_some_iff.1 E).1
   rw[dH E]at this;simp;omega
theorem Wx(l:List Point)(t:Int)(h:TravB l)(ht:0<=t/\t<=1073741824):PC prog 378 [.sl (l.map bY),int t,.v (.func (.func 379) #[] #[])] (.tup [int (bs l t),boo (An l t)]):=by
 have hl:=h.len;refine pcd Tryz.func378 ?_;unfold Tryz.f378;simp only[gdS];simp only[go_sem];have ab:aG prog 379=true:=by kernel_rfl
 refine⟨fun ρ _=>∃i j:Nat,i<=j/\j<=l.length/\ρ 0=.sl (l.map bY)/\ρ 1=int t/\ρ 2=.v (.func (.func 379) #[] #[])/\ρ 8=int l.length/\ρ 9=int i/\ρ 10=int j/\(∀c,c<i->(eA l c).t<t)/\(j<l.length->t<=(eA l j).t),fun ρ _=>aV (ρ 10)-aV (ρ 9),⟨0,l.length,Xab _,Xah _,rfl,rfl,rfl,rfl,rfl,rfl,fun c hc=>by omega,fun hc=>by omega⟩,?_⟩;rintro ρ H ⟨i,j,ag,hj,h0,h1,V,X,Y,I,hz,hy⟩;simp only[go_sem,h0,h1,V,X,Y,I];refine aB (fun F=>?_) (fun aa=>?_)
 . have F:i<j:=by simp at F;omega
   have w1:IntKind.i64.wrap ((i:Int)+(j:Int))=((i+j:Nat):Int):=by rw[bH (by omega)];omega
   have w2:IntKind.u64.wrap ((i+j:Nat):Int)=((i+j:Nat):Int):=DJ (by omega);have w3:shV .shr .u64 ((i+j:Nat):Int) 1=(((i+j)/2:Nat):Int):=by
     show((i+j:Nat):Int).fdiv (2^min (1:Int).toNat 64)=_;rw[Int.fdiv_eq_ediv_of_nonneg _ (by decide)];rfl
   have w4:IntKind.i64.wrap (((i+j)/2:Nat):Int)=(((i+j)/2:Nat):Int):=bH (by omega);have hm:(i+j)/2<l.length:=by omega
   generalize ah:(i+j)/2=m at w3 w4 hm;have ai:i<=m/\m<j:=by omega
   obtain⟨p,Z⟩:=aN hm;have b1:=inB hm;have ae:=h.pt p (Xac Z);have e:W (p.t-t)=p.t-t:=kV (by omega);simp only[go_sem,h0,h1,V,X,Y,I,w1,w2,w3,w4,aC Z,b1,ab];refine⟨by decide,PC.use (JW p t) ?_⟩;simp only[go_sem,h0,h1,V,X,Y,I,e];refine gA (fun E _=>∃i' U:Nat,i'<=U/\U<=l.length/\U-i'<j-i/\E 0=.sl (l.map bY)/\E 1=int t/\E 2=.v (.func (.func 379) #[] #[])/\E 8=int l.length/\E 9=int i'/\E 10=int U/\(∀c,c<i'->(eA l c).t<t)/\(U<l.length->t<=(eA l U).t)) ?_ fun K hK _ _=>aB (fun hb=>?_) (fun hb=>?_)
   . rintro E H' ⟨i',U,a1,a2,a3,c0,c1,c2,c8,c9,ac,cz,cy⟩
     exact⟨⟨i',U,a1,a2,c0,c1,c2,c8,c9,ac,cz,cy⟩,by rw[c9,ac];simp only[aE];omega⟩
   . have hb:p.t-t<0:=by simpa using hb
     simp only[go_sem,h0,h1,V,X,Y,I,aT (show m<=4611686018427387904 by omega)];refine hK _ _ ⟨m+1,j,by omega,hj,by omega,by simp only[go_sem,h0],by simp only[go_sem,h1],by simp only[go_sem,V],by simp only[go_sem,X],by simp only[go_sem],by simp only[go_sem,I],fun c hc=>?_,hy⟩;have e2:=dH Z;by_cases e3:c=m
     . subst e3;rw[e2];omega
     . have:=LN h c m (by omega) hm
       rw[e2]at this;omega
   . have hb:¬p.t-t<0:=by simpa using hb
     simp only[go_sem,h0,h1,V,X,Y,I];refine hK _ _ ⟨i,m,by omega,by omega,by omega,by simp only[go_sem,h0],by simp only[go_sem,h1],by simp only[go_sem,V],by simp only[go_sem,X],by simp only[go_sem,Y],by simp only[go_sem],hz,fun _=>?_⟩;rw[dH Z];omega
 . have aa:i=j:=by simp at aa;omega
   subst aa;have ad:bs l t=i:=aAy hj hz hy;simp only[go_sem,h0,h1,V,X,Y,I,ab];have J:decide ((i:Int)<(l.length:Int))=true->(l.map bY).getD i []=bY (eA l i):=fun O=>by
     have F:i<l.length:=by simp at O;omega
     obtain⟨p,Z⟩:=aN F;rw[aC Z,dH Z]
   have af:decide ((i:Int)<(l.length:Int))=true->0<=(i:Int)/\(i:Int)<(l.length:Int):=fun O=>by simp at O;omega
   refine⟨fun O=>⟨af O,by rw[J O];rfl⟩,fun O=>by rw[J O];exact Xah _,int (W ((eA l i).t-t)),fun O=>by rw[J O,Dd];exact(JW _ t).q rfl,?_⟩;simp only[go_sem];have e:An l t=(decide ((i:Int)<(l.length:Int))&&(W ((eA l i).t-t) == 0)):=by
     unfold An;rw[ad];by_cases F:i<l.length
     . have ae:=h.pt _ (Xac (aN F).choose_spec)
       rw[<-dH (aN F).choose_spec]at ae;rw[kV (by omega)]
     . have:decide ((i:Int)<(l.length:Int))=false:=by simp;omega
       rw[this];rfl
   rw[ad,e];exact .refl _
def acV(p q:Point)(t:Int):Int:=W (p.a+IntKind.i64.wrap (Int.tdiv (W (W (W (W (t-p.t)*W (q.a-p.a))+W (q.t-p.t))-1)) (W (q.t-p.t))))
def IY(l:List Point)(t:Int):Int:=
 if An l t=true then(eA l (bs l t)).a else if((bs l t:Int) == 0)=true then yP (eA l 0) t
 else if((bs l t:Int) == (l.length:Int))=true then yP (eA l (bs l t-1)) t else acV (eA l (bs l t-1)) (eA l (bs l t)) t
theorem alY(l:List Point)(t:Int):bs l t<=l.length:=by
 have:=congrArg List.length (List.takeWhile_append_dropWhile (p:=fun p:Point=>decide (p.t<t)) (l:=l));rw[Xae]at this;unfold bs;omega
theorem Wg(l:List Point)(t:Int)(h:TravB l)(ht:0<=t/\t<=1073741824):PC prog 361 [.sl (l.map bY),int t] (int (IY l t)):=by
 have hl:=h.len;have hb:=alY l t;refine pcd Tryz.func361 ?_;unfold Tryz.f361;simp only[gdS];simp only[go_sem];refine PC.use (Wx l t h ht) ?_;simp only[go_sem];obtain⟨i,hi⟩:∃i,bs l t=i:=⟨_,rfl⟩;have aa:IY l t=if An l t=true then(eA l i).a else if((i:Int) == 0)=true then yP (eA l 0) t else if((i:Int) == (l.length:Int))=true then yP (eA l (i-1)) t else acV (eA l (i-1)) (eA l i) t:=by unfold IY;rw[hi]
 rw[hi]at hb |-;rw[aa];refine aB (fun h1=>?_) (fun h1=>?_)
 . have ab:i<l.length:=by unfold An at h1;rw[hi]at h1;simp at h1;omega
   obtain⟨p,J⟩:=aN ab;have b1:=inB ab;simp only[go_sem,aC J,b1];rw[if_pos h1,dH J];exact .refl _
 simp only[go_sem];refine aB (fun Y=>?_) (fun Y=>?_)
 . obtain⟨p,J⟩:=aN (show 0<l.length by omega)
   simp only[go_sem];refine cN (by rfl) (by kernel_rfl) ?_;simp only[go_sem,aC J];rw[if_neg (by rw[h1];simp),if_pos Y,dH J];have b0:(0:Int)<=0/\(0:Int)<(l.length:Int):=by omega
   exact⟨b0,b0,.refl _⟩
 simp only[go_sem];refine aB (fun h3=>?_) (fun h3=>?_)
 . have ad:i≠0:=by simpa using Y
   obtain⟨p,J⟩:=aN (show i-1<l.length by omega);simp only[go_sem];refine cN (by rfl) (by kernel_rfl) ?_;have w:IntKind.i64.wrap ((i:Int)-1)=((i-1:Nat):Int):=by rw[bH (by omega)];omega
   have b1:=inB (show i-1<l.length by omega);simp only[go_sem,w,aC J,b1];rw[if_neg (by rw[h1];simp),if_neg (by rw[Y];simp),if_pos h3,dH J];exact .refl _
 have ad:i≠0:=by simpa using Y
 have ae:i≠l.length:=by simp at h3;omega
 obtain⟨p,J⟩:=aN (show i-1<l.length by omega);obtain⟨q,hq⟩:=aN (show i<l.length by omega);have w:IntKind.i64.wrap ((i:Int)-1)=((i-1:Nat):Int):=by rw[bH (by omega)];omega
 have b1:=inB (show i-1<l.length by omega);have b2:=inB (show i<l.length by omega);have U:=(h.mono (i-1) (by omega)).1;rw[show i-1+1=i by omega,dH J,dH hq]at U;have af:=h.pt p (Xac J);have ag:=h.pt q (Xac hq);rw[if_neg (by rw[h1];simp),if_neg (by rw[Y];simp),if_neg (by rw[h3];simp),dH J,dH hq];simp only[go_sem];refine B7 (fun O H'=>O 1=int t/\∃F I,O 7=.op F 0 0/\O 8=.op I 0 0/\H' F=some (⟨104,2,[bY p]⟩:Row)/\H' I=some (⟨104,2,[bY q]⟩:Row)/\F≠I) ?_ fun K hK=>?_
 . rintro ρ H ⟨h1,F,I,X,Z,R7,R8,E⟩
   simp only[go_sem,h1,X,Z,R7,R8];refine gB [F,I] [(0,true),(1,true),(2,true),(3,true),(4,true),(5,true),(6,true),(7,true),(8,true),(9,true),(10,true),(11,true),(12,true),(13,true),(14,true),(15,false),(16,false),(17,false),(18,false)] (by simp[R7,R8]) (by kernel_rfl) fun Hp V J hr _ ah=>?_
   have P7:=(J F (by simp)).trans R7;have P8:=(J I (by simp)).trans R8;simp only[go_sem,h1,X,Z,P7,P8];refine⟨Vz (by omega),iO fun _ Hm _ _=>?_⟩;simp only[go_sem];exact .refl _
 . refine LD [] (.q 0 (.q 1 (.q 2 (.q 3 (.q 4 (.q 5 (.q 6 (.q 7 (.q 8 (.a2 9 (.a1 10 (.a1 11 (.a1 12 .nil))) 10 (.a1 9 (.a1 11 (.a1 12 .nil))))))))))))) (by simp) (by kernel_rfl) fun Hp V _ ai _ _=>?_
   simp only[go_sem,w,aC J,aC hq,b1,b2];have rP:∀{a b:Nat} {G:aK} {z:List AV} {y:List AV},a≠b->G a=some (⟨104,2,[z]⟩:Row)->aI G b (some (⟨104,2,[y]⟩:Row)) a=some (⟨104,2,[z]⟩:Row):=fun ac hG=>by rw[aF _ _ _ _ ac];exact hG
   refine wX ?_ ?_
   . simp only[go_sem]
     refine aL fun F X=>?_
     simp only[go_sem];refine aL fun I Z=>?_
     have E:=aP (aA _ _ _) Z;have S7:=eZ (r':=(⟨104,2,[[int 0,int 0]]⟩:Row)) (aA V F (some (⟨104,2,[[int 0,int 0]]⟩:Row))) Z;have S8:=aA (aI V F (some (⟨104,2,[[int 0,int 0]]⟩:Row))) I (some (⟨104,2,[[int 0,int 0]]⟩:Row));generalize aI (aI V F _) I _=G at S7 S8 |-;simp only[go_sem];refine aH S7 (by simp[eQ]) ?_;simp only[go_sem];refine aH (nR S8 E.symm) (by simp[eQ]) ?_;simp only[go_sem];refine iO fun _ Hm _ U=>hK _ _ ⟨by simp only[go_sem],F,I,by simp only[go_sem],by simp only[go_sem],?_,?_,E⟩
     . rw[U F (by simp),aF _ _ _ _ E,aA]
     . rw[U I (by simp),aA]
   . simp only[go_sem]
     refine aL fun I Z=>?_
     simp only[go_sem];refine aL fun F X=>?_
     have E:=(aP (aA _ _ _) X).symm;have S8:=eZ (r':=(⟨104,2,[[int 0,int 0]]⟩:Row)) (aA V I (some (⟨104,2,[[int 0,int 0]]⟩:Row))) X;have S7:=aA (aI V I (some (⟨104,2,[[int 0,int 0]]⟩:Row))) F (some (⟨104,2,[[int 0,int 0]]⟩:Row));generalize aI (aI V I _) F _=G at S7 S8 |-;simp only[go_sem];refine aH S7 (by simp[eQ]) ?_;simp only[go_sem];refine aH (nR S8 E.symm) (by simp[eQ]) ?_;simp only[go_sem];refine iO fun _ Hm _ U=>hK _ _ ⟨by simp only[go_sem],F,I,by simp only[go_sem],by simp only[go_sem],?_,?_,E⟩
     . rw[U F (by simp),aF _ _ _ _ E,aA]
     . rw[U I (by simp),aA]
theorem UI{α:Type}{p:α->Bool}:∀l:List α,(∀c x,c<(l.takeWhile p).length->l[c]?=some x->p x=true)/\(∀x,l[(l.takeWhile p).length]?=some x->p x=false)
 | []=>⟨fun c x h _=>by simp at h,fun x h=>by simp at h⟩
 | a::r=>by
   obtain⟨h1,J⟩:=UI (p:=p) r;by_cases F:p a=true
   . rw[Xbp,if_pos F]
     refine⟨fun c x I E=>?_,fun x E=>J x (by simpa using E)⟩;cases c with
     | zero=>simp at E;subst E;exact F
     | succ c=>exact h1 c x (by simpa using I) (by simpa using E)
   . rw[Xbp,if_neg F]
     refine⟨fun c x I _=>by simp at I,fun x E=>?_⟩;simp at E;subst E;simpa using F
theorem UQ{p:Point}{t:Int}(E:0<=p.t/\p.t<=4096/\p.t<=p.a/\p.a<=p.t+4096)(e:p.t=t):yP p t=p.a:=by
 unfold yP;subst e;rw[kV (n:=p.t+p.a) (by omega),kV (by omega)];omega
theorem akJ{p q:Point}{t:Int}(F:0<=p.t/\p.t<=4096/\p.t<=p.a/\p.a<=p.t+4096)(I:0<=q.t/\q.t<=4096/\q.t<=q.a/\q.a<=q.t+4096)(E:p.t<q.t)(e:p.t=t):Gf p q t=p.a:=by
 unfold Gf;subst e;rw[Int.sub_self,show W 0=0 from rfl,Int.zero_mul,show W 0=0 from rfl,Int.zero_add,kV (n:=q.t) (by omega),kV (n:=q.t-p.t) (by omega),kV (n:=q.t-p.t-1) (by omega),
   Xbx (by omega),Int.ediv_eq_zero_of_lt (by omega) (by omega)]
 rw[show IntKind.i64.wrap 0=0 from rfl,Int.add_zero,kV (by omega)]
theorem aoY{p q:Point}{t:Int}(X:0<=p.t/\p.t<=4096/\p.t<=p.a/\p.a<=p.t+4096)(U:0<=q.t/\q.t<=4096/\q.t<=q.a/\q.a<=q.t+4096)(O:p.a<=q.a)(h1:p.t<=t)(V:t<q.t):Gf p q t=acV p q t:=by
 unfold Gf acV;have J:0<=t-p.t/\t-p.t<=4096:=by omega
 have E:0<=q.a-p.a/\q.a-p.a<=8192:=by omega
 have F:0<=(t-p.t)*(q.a-p.a):=Int.mul_nonneg J.1 E.1;have I:(t-p.t)*(q.a-p.a)<=4096*8192:=Int.mul_le_mul J.2 E.2 E.1 (by omega);rw[kV (n:=t-p.t) (by omega),kV (n:=q.a-p.a) (by omega),kV (n:=(t-p.t)*(q.a-p.a)) (by omega),kV (n:=q.t-p.t) (by omega)];generalize (t-p.t)*(q.a-p.a)=m at F I;rw[kV (n:=m+q.t) (by omega),kV (n:=m+q.t-p.t) (by omega),kV (n:=m+(q.t-p.t)) (by omega),show m+q.t-p.t=m+(q.t-p.t)by omega]
def Si(l:List Point)(t:Int):Int:=match (List.range (l.length-1)).find? (lT l t)with
 | some k=>Gf (eA l k) (eA l (k+1)) t
 | none=>if decide (t>(eA l 0).t)=true then yP (eA l (l.length-1)) t else yP (eA l 0) t
theorem J1{l:List Point}{t:Int}{k:Nat}(h:(List.range (l.length-1)).find? (lT l t)=some k):Si l t=Gf (eA l k) (eA l (k+1)) t:=by unfold Si;rw[h]
theorem PY{l:List Point}{t:Int}(h:(List.range (l.length-1)).find? (lT l t)=none)(E:t>(eA l 0).t):Si l t=yP (eA l (l.length-1)) t:=by unfold Si;rw[h];exact if_pos (by simpa using E)
theorem NV{l:List Point}{t:Int}(h:(List.range (l.length-1)).find? (lT l t)=none)(E:¬t>(eA l 0).t):Si l t=yP (eA l 0) t:=by unfold Si;rw[h];exact if_neg (by simpa using E)
theorem aoX{l:List Point}{t:Int}{i:Nat}(hi:bs l t=i)(h:i<l.length/\(eA l i).t=t):IY l t=(eA l i).a:=by
 unfold IY An;rw[hi];exact if_pos (by simp;omega)
theorem apG{l:List Point}{t:Int}{i:Nat}(hi:bs l t=i)(h:¬(i<l.length/\(eA l i).t=t)):IY l t=if((i:Int) == 0)=true then yP (eA l 0) t
 else if((i:Int) == (l.length:Int))=true then yP (eA l (i-1)) t else acV (eA l (i-1)) (eA l i) t:=by
 unfold IY An;rw[hi];exact if_neg (by simp;intro E;omega)
theorem adL{l:List Point}{t:Int}(h:TravB l)(hr:iJ l=[])(ht:0<=t/\t<=1073741824):fV l t=IY l t:=by
 have hl:=h.len;have hb:=alY l t;obtain⟨ae,ag⟩:=UI (p:=fun p:Point=>decide (p.t<t)) l;have I:∀c,c<bs l t->(eA l c).t<t:=fun c X=>by
   obtain⟨x,hx⟩:=aN (show c<l.length by omega);have:=ae c x X hx;rw[dH hx];simpa using this
 have V:bs l t<l.length->t<=(eA l (bs l t)).t:=fun af=>by
   obtain⟨x,hx⟩:=aN af;have:=ag x hx;rw[dH hx];simpa using this
 have Y:∀c,c<l.length->0<=(eA l c).t/\(eA l c).t<=4096/\(eA l c).t<=(eA l c).a/\(eA l c).a<=(eA l c).t+4096:=fun c X=>by
   obtain⟨x,hx⟩:=aN X;rw[dH hx];exact h.pt x (Xac hx)
 unfold fV;have ab:rR l t=false:=by unfold rR;rw[hr];simp;omega
 rw[if_neg (by rw[ab];simp)];show Si l t=IY l t;obtain⟨i,hi⟩:∃i,bs l t=i:=⟨_,rfl⟩;rw[hi]at hb I V;have F:(∀c,c+1<l.length->lT l t c=false)->(List.range (l.length-1)).find? (lT l t)=none:=fun hn=>AZ fun c X=>hn c (by have:=Xam.1 X;omega)
 have O:∀k,k+1<l.length->(∀c,c<k->lT l t c=false)->lT l t k=true->(List.range (l.length-1)).find? (lT l t)=some k:=fun k hk hn hy=>C9 (k:=k) (fun y ac=>by
   rw[List.take_range]at ac;exact hn y (by have:=Xam.1 ac;omega)) (gL (by omega)) hy
 have E:∀c,c+1<l.length->(eA l (c+1)).t<=t->lT l t c=false:=fun c _ X=>by unfold lT;simp;omega
 by_cases aa:i<l.length/\(eA l i).t=t
 . rw[aoX hi aa]
   obtain⟨J,he⟩:=aa;have Z:∀c,c+1<l.length->c+1<=i->lT l t c=false:=fun c X ai=>E c X (by
     by_cases e:c+1=i
     . rw[e];omega
     . have:=I (c+1) (by omega);omega)
   by_cases U:i+1<l.length
   . have hm:=h.mono i U
     rw[J1 (O i U (fun c X=>Z c (by omega) (by omega)) (by unfold lT;simp;omega))];exact akJ (Y i J) (Y (i+1) U) hm.1 he
   . have hn:=F fun c X=>Z c X (by omega)
     have ah:i=l.length-1:=by omega
     by_cases h0:i=0
     . rw[h0]at he J |-
       rw[NV hn (by omega)];exact UQ (Y 0 J) he
     . have:=I 0 (by omega)
       rw[PY hn this,<-ah];exact UQ (Y i J) he
 . rw[apG hi aa]
   by_cases h0:i=0
   . subst h0
     have hh:=V (by omega);have ad:(eA l 0).t≠t:=fun e=>aa ⟨by omega,e⟩
     rw[NV (F fun c X=>by
       have:(eA l 0).t<=(eA l c).t:=by
         by_cases e:c=0
         . rw[e];omega
         . have:=LN h 0 c (by omega) (by omega);omega
       unfold lT;simp;omega) (by omega),if_pos (by simp)]
   . rw[if_neg (by simp;omega)]
     by_cases hn:i=l.length
     . have:=I 0 (by omega)
       rw[PY (F fun c X=>E c X (by have:=I (c+1) (by omega);omega)) this,if_pos (by simp;omega),hn]
     . have J:i<l.length:=by omega
       have hh:=V J;have ad:(eA l i).t≠t:=fun e=>aa ⟨J,e⟩
       have aj:=I (i-1) (by omega);have e1:i-1+1=i:=by omega
       rw[J1 (O (i-1) (by omega) (fun c X=>E c (by omega) (by have:=I (c+1) (by omega);omega)) (by unfold lT;rw[e1];simp;omega)),if_neg (by simp;omega)];rw[e1];have hm:=h.mono (i-1) (by omega);rw[e1]at hm;exact aoY (Y (i-1) (by omega)) (Y i J) hm.2 (by omega) (by omega)
theorem V3(l:List Point)(t:Int)(I:iJ l=[]):PC prog 327 [.sl (l.map bY),int t] (int (fV l t)):=by
 have h:=Lv I;refine pcd Tryz.func327 ?_;unfold Tryz.f327;simp only[gdS];simp only[go_sem];refine PC.use (Pz _ _ _) ?_;simp only[go_sem];refine⟨_,fun _=>(Ll l h).q rfl,?_⟩;simp only[go_sem];have E:rR l t=(!(decide (t>=0)&&decide (t<=1073741824))|| !true):=by
   unfold rR;rw[I,Xas];simp
 rw[<-E];refine aB (fun F=>?_) (fun F=>?_)
 . simp only[go_sem]
   exact bJ (by unfold fV;rw[if_pos F])
 have J:0<=t/\t<=1073741824:=by unfold rR at F;simp at F;omega
 simp only[go_sem];refine PC.use (Wg l t h J) ?_;simp only[go_sem];exact bJ (adL h I J).symm
theorem PT(n:Network)(i:Int):PC prog 281 [.agg (aY n),int i] (boo (Fs n i)):=by
 refine pcd Tryz.func281 ?_;unfold Tryz.f281;simp only[gdS];simp only[go_sem];exact .refl _
def Qd(a:Arc):List AV:=[int a.src,int a.dst,int a.profile]
theorem ajG(a:Arc):PC prog 326 [.agg (fK a)] (.agg (Qd a)):=by
 refine pcb (fun t=>t == 2) Tryz.func326 ?_;unfold Tryz.f326;simp only[gdS];simp only[go_sem];refine aL fun j E=>?_
 simp only[go_sem];refine aH (aA _ _ _) (by simp) ?_;simp only[go_sem];exact .refl _
structure NetOk(n:Network):Prop where
 arcs:n.arcs.length<=1048576
 travel:∀a∈n.arcs,iJ a.travel=[]
 slow:∀a∈n.arcs,a.slow.length<=1048576
theorem Qv(a:Arc)(t:Int)(ha:iJ a.travel=[])(aa:a.slow.length<=1048576):PC prog 283 [.agg (fK a),int t] (int (rH a t)):=by
 refine pcd Tryz.func283 ?_;unfold Tryz.f283;simp only[gdS];simp only[go_sem];refine PC.use (V3 a.travel t ha) ?_;simp only[go_sem];refine⟨fun ρ _=>∃k:Nat,k<=a.slow.length/\ρ 1=int t/\ρ 13=.sl (a.slow.map bY)/\ρ 14=int a.slow.length/\ρ 5=int ((a.slow.take k).foldl (nN t) (fV a.travel t))/\ρ 15=int k,fun ρ _=>a.slow.length-aV (ρ 15),⟨0,Xab _,rfl,rfl,rfl,rfl,rfl⟩,?_⟩;rintro ρ H ⟨k,hk,h1,E,F,U,I⟩;simp only[go_sem,h1,E,F,U,I];refine aB (fun O=>?_) (fun X=>?_)
 . have O:=aQ O
   obtain⟨p,hp⟩:=aN O;have b1:=inB O;have hs:(a.slow.take (k+1)).foldl (nN t) (fV a.travel t)=nN t ((a.slow.take k).foldl (nN t) (fV a.travel t)) p:=by rw[bQ hp,Xbh];rfl
   simp only[go_sem,h1,E,F,U,I,aC hp,b1];refine aL fun i7 Y=>?_
   simp only[go_sem,h1,E,F,U,I];refine aH (aA _ _ _) (by simp[eQ]) ?_;generalize V:aI (aI _ i7 _) i7 _=HGi7;have R7:HGi7 i7=some (⟨104,2,[bY p]⟩):=by rw[<-V,aA];rfl
   clear V Y;simp only[go_sem,h1,E,F,U,I,R7];refine gA (fun J _=>J 1=int t/\J 13=.sl (a.slow.map bY)/\J 14=int a.slow.length/\J 5=int ((a.slow.take (k+1)).foldl (nN t) (fV a.travel t))/\J 15=int k) ?_ fun K hK _ _=>aB (fun Z=>?_) (fun Z=>?_)
   . clear h1 E F U I
     rintro ρ H ⟨h1,E,F,U,I⟩;simp only[go_sem,h1,E,F,U,I,aT (show k<=4611686018427387904 by omega)];exact⟨⟨k+1,O,rfl,rfl⟩,by simp only[aE];omega⟩
   . simp only[go_sem,h1,E,F,U,I,R7]
     refine hK _ _ ⟨by simp only[go_sem,h1],by simp only[go_sem,E],by simp only[go_sem,F],?_,by simp only[go_sem,I]⟩;simp only[go_sem];rw[hs,nN,if_pos Z];rfl
   . simp only[go_sem]
     refine hK _ _ ⟨by simp only[go_sem,h1],by simp only[go_sem,E],by simp only[go_sem,F],?_,by simp only[go_sem,I]⟩;simp only[go_sem,U];rw[hs,nN,if_neg (by rw[Z];simp)]
 . have X:=aR hk X
   subst X;simp only[go_sem,U];rw[Xag];exact .refl _
theorem akT(n:Network)(p f t:Int)(hl:n.arcs.length<=1048576):PC prog 282 [.agg (aY n),int p,int f,int t] (.tup [.agg (fK ((oE n p f t).getD Bg)),boo (oE n p f t).isSome]):=by
 refine pcd Tryz.func282 ?_;unfold Tryz.f282;simp only[gdS];simp only[go_sem];refine aL fun j8 al=>?_
 generalize ag:aI _ j8 _=HGj8;have R8:HGj8 j8=some (⟨107,6,[fK Bg]⟩):=by rw[<-ag,aA];rfl
 clear ag al;simp only[go_sem,R8];refine aL fun J ad=>?_
 have I:j8≠J:=aP R8 ad;simp only[go_sem,R8];refine aH (aA _ _ _) (by simp[eQ]) ?_;generalize ab:aI (aI _ J _) J _=HGj10;replace R8:=kpR ab I I R8;have O:HGj10 J=some (⟨340,3,[[int f,int t,int p]]⟩):=by rw[<-ab,aA];rfl
 clear ab ad;simp only[go_sem,O,R8];refine⟨fun ρ H=>∃k:Nat,k<=n.arcs.length/\ρ 8=.op j8 0 0/\ρ 10=.op J 0 0/\ρ 18=.sl (n.arcs.map fK)/\ρ 19=int n.arcs.length/\ρ 20=int k/\H j8=some (⟨107,6,[fK Bg]⟩:Row)/\H J=some (⟨340,3,[[int f,int t,int p]]⟩:Row)/\∀a∈n.arcs.take k,GR p f t a=false,fun ρ _=>n.arcs.length-aV (ρ 20),⟨0,Xab _,rfl,rfl,rfl,rfl,rfl,R8,O,by simp⟩,?_⟩;clear R8 O;rintro ρ H ⟨k,hk,h8,aa,Z,Y,X,R8,O,hz⟩;simp only[go_sem,h8,aa,Z,Y,X];refine aB (fun ae=>?_) (fun aj=>?_)
 . have ae:=aQ ae
   obtain⟨a,ai⟩:=aN ae;have b1:=inB ae;simp only[go_sem,h8,aa,Z,Y,X,aC ai,b1];refine aL fun U ac=>?_
   have F:j8≠U:=aP R8 ac;have E:J≠U:=aP O ac;simp only[go_sem,h8,aa,Z,Y,X,R8,O];refine aH (aA _ _ _) (by simp[eF]) ?_;generalize V:aI (aI _ U _) U _=HGi12;replace R8:=kpR V F F R8;replace O:=kpR V E E O;have af:HGi12 U=some (⟨107,6,[fK a]⟩):=by rw[<-V,aA];rfl
   clear V ac;simp only[go_sem,h8,aa,Z,Y,X,af,R8,O];refine gB [U] [(0,true),(1,true),(2,false),(3,false)] (by simp[af]) (by kernel_rfl) fun Hp Hr hp hr _ aq=>?_
   have am:=(hp U (by simp)).trans af;have ah:=(hr J (by simp[E])).trans O;simp only[go_sem,h8,aa,Z,Y,X,am,ah];refine⟨_,(ajG a).q rfl,?_⟩;simp only[go_sem,h8,aa,Z,Y,X,am,ah,Qd];refine iO fun _ Hm ap an=>?_
   have M8:Hm j8=some (⟨107,6,[fK Bg]⟩:Row):=by
     have n1:j8∉[U]:=by simp[F]
     rw[an j8 n1];exact(hr j8 n1).trans R8
   have ao:=(ap U (by simp)).trans af;have ak:Hm J=_:=(an J (by simp[E])).trans ah;simp only[go_sem,h8,aa,Z,Y,X,M8,ak,ao];have ea:(a.src == f&&(a.dst == t&&(a.profile == p&&true)))=GR p f t a:=by unfold GR;rw[Xbo,Bool.and_assoc]
   rw[ea];refine aB (fun hb=>?_) (fun hb=>?_)
   . simp only[go_sem,h8,ao]
     refine aH M8 (by simp[eF]) ?_;simp only[go_sem,h8,eF];have:oE n p f t=some a:=C9 hz ai hb;rw[this];exact .refl _
   . simp only[go_sem,h8,aa,Z,Y,X,aT (show k<=4611686018427387904 by omega)]
     exact⟨⟨k+1,ae,rfl,M8,ak,aM (p:=fun a=>GR p f t a=false) ai hb hz⟩,by simp only[aE];omega⟩
 . have aj:=aR hk aj
   subst aj;rw[Xag]at hz;simp only[go_sem,h8];refine aH R8 (by simp) ?_;simp only[go_sem,h8];have:oE n p f t=none:=AZ hz;rw[this];exact .refl _
theorem adB(n:Network)(p f t time:Int)(V:NetOk n):PC prog 244 [.agg (aY n),int p,int f,int t,int time] (.tup [int (eU n p f t time).1,int (eU n p f t time).2.1,int (eU n p f t time).2.2]):=by
 refine pcd Tryz.func244 ?_;unfold Tryz.f244;simp only[gdS];simp only[go_sem];refine PC.use (PT n f) ?_;simp only[go_sem];refine⟨_,fun _=>(PT n t).q rfl,?_⟩;simp only[go_sem];refine aB (fun h1=>?_) (fun h1=>?_)
 . simp only[go_sem]
   have:eU n p f t time=(0,0,11):=by unfold eU;rw[if_pos h1]
   rw[this];exact .refl _
 simp only[go_sem];refine aB (fun X=>?_) (fun X=>?_)
 . simp only[go_sem]
   have:eU n p f t time=(time,0,0):=by unfold eU;rw[if_neg (by rw[h1];simp),if_pos X]
   rw[this];exact .refl _
 have Z:eU n p f t time=match oE n p f t with|some a=>(rH a time,a.miles,0)|none=>(0,0,12):=by unfold eU;rw[if_neg (by rw[h1];simp),if_neg (by rw[X];simp)];rfl
 rw[Z];simp only[go_sem];refine PC.use (akT n p f t V.arcs) ?_;simp only[go_sem];refine aL fun J I=>?_
 simp only[go_sem];refine aH (aA _ _ _) (by simp[eF]) ?_;generalize E:aI (aI _ J _) J _=HGj13;have F:HGj13 J=some (⟨107,6,[fK ((oE n p f t).getD Bg)]⟩):=by rw[<-E,aA];rfl
 clear E I;simp only[go_sem,F];cases Y:oE n p f t with
 | none=>
   refine aB (fun _=>?_) (fun U=>by simp at U);simp only[go_sem];exact .refl _
 | some a=>
   have O:=List.mem_of_find?_eq_some Y;refine aB (fun U=>by simp at U) (fun _=>?_);rw[Y]at F;simp only[go_sem,Option.getD_some,eF];refine cN (by rfl) (by kernel_rfl) ?_;simp only[go_sem,Option.getD_some,F,eF];refine⟨_,(Qv a time (V.travel a O) (V.slow a O)).q rfl,?_⟩;simp only[go_sem,Option.getD_some,F,eF];exact .refl _
theorem UN(s:Stop)(a:Int):PC prog 284 [.agg (dV s),int a] (.tup [int (if fP a s.start>s.close then 0 else fP a s.start),int (if fP a s.start>s.close then 14 else 0)]):=by
 refine pcd Tryz.func284 ?_;unfold Tryz.f284;simp only[gdS];simp only[go_sem];refine aB (fun E=>?_) (fun E=>?_)
 . have E:fP a s.start>s.close:=by simpa using E
   simp only[go_sem];rw[if_pos E,if_pos E];exact .refl _
 . have E:¬fP a s.start>s.close:=by simpa using E
   simp only[go_sem];rw[if_neg E,if_neg E];exact .refl _
end Go.Proofs.YtohmomanmikphaaGreatDoor.Sq
end
