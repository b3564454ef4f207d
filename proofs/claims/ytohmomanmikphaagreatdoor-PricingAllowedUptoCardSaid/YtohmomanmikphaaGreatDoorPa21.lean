import Derived.Test.YtohmomanmikphaaGreatDoorPa20
set_option linter.unusedSimpArgs false
set_option linter.unusedVariables false
set_option maxRecDepth 100000
namespace Go.Proofs.YtohmomanmikphaaGreatDoor
open Go.Aw Go.Aw.D Go.Proofs Ty
namespace Sq
open Mv (aM)
open Mv (bJ bR aM)
theorem eH{n a b:Int}:inR n a b=true↔a<=n/\n<=b:=by
 unfold inR;simp only[Xak,decide_eq_true_eq]
theorem iV{b:Bool}(h:(!b)=false):b=true:=by simpa using h
structure TypeB(t:VType)(d:Int):Prop where
 cap:wQ t.cap d=true
 skills:0<=t.skills/\t.skills<=1073741823
 start:0<=t.start/\t.start<=t.close
 close:t.close<=4096
 drive:1<=t.drive/\t.drive<=4096
 rest:0<=t.rest/\t.rest<=4096
 count:0<=t.count/\t.count<=10
theorem GA{n:Network}{l:List VType}{k:Nat}{t:VType}(h:lM n l k t=[]):TypeB t (jI l):=by
 unfold lM at h;simp only[Xbr,Xat]at h;obtain⟨⟨⟨⟨⟨⟨⟨⟨_,_⟩,Z⟩,_⟩,J⟩,V⟩,Y⟩,h8⟩,h9⟩:=h;have O:=eH.1 (iV (cY Z));have I:=iV (cY J);have U:=eH.1 (iV (cY V));have F:=Xaf.1 (cY Y);have E:=Xaf.1 (cY h8);have q7:=eH.1 (iV F.1);have X:¬t.close>4096:=by simpa using F.2
 exact⟨I,U,q7,by omega,eH.1 (iV E.1),eH.1 (iV E.2),O⟩
structure OrdB(o:Order)(d:Int):Prop where
 load:fQ o.load d=true
 pick: -1<=o.pick.place
 drop: -1<=o.drop.place
 both:(o.pick.place == -1&&o.drop.place == -1)=false
 wpick:fH o.pick=0
 wdrop:fH o.drop=0
 skills:0<=o.skills/\o.skills<=1073741823
 penalty: -1<=o.penalty/\o.penalty<=1000000
theorem LH{P:Nat}{d T:Int}{l:List Order}{k:Nat}{o:Order}(h:iZ P d T l k o=[]):OrdB o d:=by
 unfold iZ at h;simp only[Xbr,Xat]at h;obtain⟨⟨⟨⟨⟨⟨⟨_,_⟩,U⟩,Y⟩,O⟩,J⟩,V⟩,X⟩:=h;have E:=Xaf.1 (cY Y);have I:=Xaf.1 (cY J);have F:=cY X;simp only[Xaf]at F;refine⟨iV (cY U),(eH.1 (iV E.1)).1,(eH.1 (iV E.2)).1,cY O,by simpa using I.1,by simpa using I.2,eH.1 (iV (cY V)),eH.1 (iV F.1.1.1.1.1.1)⟩
structure ArcOk(a:Arc):Prop where
 travel:iJ a.travel=[]
 slow:a.slow.length<=16
 pt:∀p∈a.slow,(0<=p.t/\p.t<=4096)/\0<=p.a/\p.a<=4096
theorem FL{n:Network}{k:Nat}{a:Arc}(J:n.arcs[k]?=some a)(h:Dy n k=[]):ArcOk a:=by
 unfold Dy at h;rw[oR J]at h;simp only[Xbr,Xat,Xbt]at h;obtain⟨⟨⟨_,U⟩,I⟩,F⟩:=h;have V:¬(a.slow.length:Int)>16:=by simpa using cY I
 refine⟨U,by omega,fun p O=>?_⟩;obtain⟨i,hi,rfl⟩:=List.getElem_of_mem O;have:=Xbv.1 F i (Xam.2 hi);have E:=cY this;unfold nV at E;rw[dH (List.getElem?_eq_getElem hi)]at E;simp only[Xaf]at E;exact⟨eH.1 (iV E.1.1),eH.1 (iV E.1.2)⟩
structure PairB(N:Int)(q:Pair):Prop where
 a:0<=q.a/\q.a<N
 b:0<=q.b/\q.b<N
 ne:q.a≠q.b
theorem As{N:Int}{l:List Pair}{w:ByteArray}{s:Bool}(h:rT N l w s=[]):l.length<=16/\∀q∈l,PairB N q:=by
 unfold rT at h;rw[Xat]at h;have J:¬(l.length:Int)>16:=by simpa using cY h.1
 refine⟨by omega,fun q F=>?_⟩;obtain⟨i,hi,rfl⟩:=List.getElem_of_mem F;have:=Xbv.1 h.2 i (Xam.2 hi);unfold gK at this;have I:pAt l i=l[i]:=by simp[pAt,List.getD,hi]
 rw[I]at this;split at this
 . simp at this
 . rename_i E
   unfold Go.Proofs.YtohmomanmikphaaGreatDoor.lU at E;simp only[Xaf,decide_eq_false_iff_not]at E;exact⟨by omega,by omega,by simpa using E.2⟩
structure Acc(x:Instance):Prop where
 arcs:x.net.arcs.length<=1024
 arc:∀a∈x.net.arcs,ArcOk a
 types:1<=x.types.length/\x.types.length<=6
 type:∀t∈x.types,TypeB t (jI x.types)
 orders:x.orders.length<=10
 order:∀o∈x.orders,OrdB o (jI x.types)
 apart:x.apart.length<=16
 apartB:∀q∈x.apart,PairB x.orders.length q
 before:x.before.length<=16
 beforeB:∀q∈x.before,PairB x.orders.length q
theorem Lb{x:Instance}(h:qQ x=[]):Acc x:=by
 unfold qQ at h;simp only[Xat,Xbt]at h;obtain⟨⟨⟨E,I⟩,J⟩,F⟩:=h;unfold He at E;simp only[Xat]at E;unfold tR at I;rw[Xat]at I;unfold pR at J;rw[Xat]at J;unfold B5 at F;rw[Xat]at F;obtain⟨r1,Z⟩:=As F.1;obtain⟨X,V⟩:=As F.2;have e1:¬(x.net.arcs.length:Int)>1024:=by simpa using cY E.1.2
 have e2:=eH.1 (iV (cY I.1));have e3:¬(x.orders.length:Int)>10:=by simpa using cY J.1
 refine⟨by omega,fun a Y=>?_,by omega,fun t O=>?_,by omega,fun o U=>?_,r1,Z,X,V⟩
 . obtain⟨i,hi,rfl⟩:=List.getElem_of_mem Y
   exact FL (List.getElem?_eq_getElem hi) (Xbv.1 E.2 i (Xam.2 hi))
 . obtain⟨i,hi,rfl⟩:=List.getElem_of_mem O
   have:=Xbv.1 I.2 i (Xam.2 hi);unfold iM at this;rw[Xbt,HR (List.getElem?_eq_getElem hi)]at this;exact GA this
 . obtain⟨i,hi,rfl⟩:=List.getElem_of_mem U
   have:=Xbv.1 J.2 i (Xam.2 hi);unfold fY at this;rw[Xbt,CZ (List.getElem?_eq_getElem hi)]at this;exact LH this
theorem Vt(x:Instance):fI x=jI x.types:=by
 unfold fI jI;cases x.types <;> rfl
theorem Tu{l:List Int}{d:Int}(h:fQ l d=true):(l.length:Int)=d/\∀n∈l,0<=n/\n<=1000:=by
 unfold fQ at h;split at h
 . rename_i F
   refine⟨F,fun n E=>?_⟩;have:=Xaj.1 h n E;simp only[Xbb,Xaf,decide_eq_false_iff_not]at this;omega
 . cases h
theorem adK{l:List Int}{d:Int}(h:wQ l d=true):(l.length:Int)=d/\1<=d/\d<=3:=by
 unfold wQ at h;split at h
 . cases h
 . rename_i E
   simp only[Xcd,Xaf]at E;have h1:=eH.1 (iV E.1);have F:(l.length:Int)=d:=by simpa[bne]using E.2
   omega
section
variable{x:Instance}(h:Acc x)
include h
theorem Acc.dims:1<=fI x/\fI x<=3:=by
 rw[Vt];have h1:=h.types;obtain⟨t,E⟩:=aN (show 0<x.types.length by omega);have:=adK (h.type t (Xac E)).cap;omega
theorem Acc.loadB:LoadB x:=⟨by have:=h.dims;omega,fun o E=>by
 have:=(Tu (h.order o E).load).1;rw[<-Vt]at this;omega,by have:=h.orders;omega⟩
end
theorem Db{l:List Point}{i:Nat}(h:i<l.length):eA l i∈l:=by
 rw[dH (List.getElem?_eq_getElem h)];exact List.getElem_mem h
theorem NE{p:Point}{t:Int}(F:0<=p.t/\p.t<=4096/\p.t<=p.a/\p.a<=p.t+4096)(E:0<=t/\t<=12288):0<=yP p t/\yP p t<=100000000:=by
 unfold yP;rw[kV (n:=t+p.a) (by omega),kV (by omega)];omega
theorem aaI{p q:Point}{t:Int}(Y:0<=p.t/\p.t<=4096/\p.t<=p.a/\p.a<=p.t+4096)(U:0<=q.t/\q.t<=4096/\q.t<=q.a/\q.a<=q.t+4096)(O:p.a<=q.a)(h1:p.t<=t)(V:t<q.t):0<=Gf p q t/\Gf p q t<=100000000:=by
 unfold Gf;have J:0<=t-p.t/\t-p.t<=4096:=by omega
 have E:0<=q.a-p.a/\q.a-p.a<=8192:=by omega
 have F:0<=(t-p.t)*(q.a-p.a):=Int.mul_nonneg J.1 E.1;have I:(t-p.t)*(q.a-p.a)<=4096*8192:=Int.mul_le_mul J.2 E.2 E.1 (by omega);rw[kV (n:=t-p.t) (by omega),kV (n:=q.a-p.a) (by omega),kV (n:=(t-p.t)*(q.a-p.a)) (by omega),kV (n:=q.t-p.t) (by omega)];generalize (t-p.t)*(q.a-p.a)=m at F I;rw[kV (n:=m+q.t) (by omega),kV (n:=m+q.t-p.t) (by omega),kV (n:=m+q.t-p.t-1) (by omega),Xbx (by omega)];have X:0<=(m+q.t-p.t-1)/(q.t-p.t):=Int.ediv_nonneg (by omega) (by omega);have Z:(m+q.t-p.t-1)/(q.t-p.t)<=m+q.t-p.t-1:=Int.ediv_le_self _ (by omega);have e:IntKind.i64.wrap ((m+q.t-p.t-1)/(q.t-p.t))=(m+q.t-p.t-1)/(q.t-p.t):=kV (by omega);rw[e,kV (by omega)];omega
theorem agZ{l:List Point}{t:Int}(h:iJ l=[])(J:0<=t/\t<=12288):0<=fV l t/\fV l t<=100000000:=by
 have E:=Lv h;have O:=E.len;unfold fV;split
 . omega
 . split
   . rename_i k I
     have F:=List.find?_some I;have U:=Xam.1 (List.mem_of_find?_eq_some I);simp only[lT,Xak,decide_eq_true_eq]at F;have:=E.mono k (by omega);exact aaI (E.pt _ (Db (by omega))) (E.pt _ (Db (by omega))) this.2 F.1 F.2
   . split
     . exact NE (E.pt _ (Db (by omega))) J
     . exact NE (E.pt _ (Db (by omega))) J
theorem Od{t:Int}:∀(l:List Point) (s B:Int),(∀p∈l,0<=p.a/\p.a<=4096)->0<=s/\s<=B->B+4096*l.length<=1000000000000->0<=l.foldl (nN t) s/\l.foldl (nN t) s<=B+4096*l.length
 | [],s,B,_,hs,_=>by simpa using hs
 | p::l,s,B,hp,hs,hB=>by
   have h1:=hp p (by simp);simp only[Xad,List.foldl_cons]at hB |-;have e:0<=nN t s p/\nN t s p<=B+4096:=by
     unfold nN;split
     . rw[kV (by omega)];omega
     . omega
   have:=Od (t:=t) l (nN t s p) (B+4096) (fun q E=>hp q (by simp[E])) e (by omega);omega
theorem SW{a:Arc}{t:Int}(h:ArcOk a)(E:0<=t/\t<=12288):0<=rH a t/\rH a t<=1000000000:=by
 have h1:=agZ h.travel E;have I:=h.slow;have:=Od (t:=t) a.slow _ 100000000 (fun p F=>(h.pt p F).2) h1 (by omega);unfold rH;omega
theorem Tc{s:Stop}(h:fH s=0)(I:0<=s.place):StopB s/\s.start<=s.close:=by
 unfold fH at h;split at h
 . rename_i E
   simp only[Go.Proofs.YtohmomanmikphaaGreatDoor.jU,Xak,Xba]at E;omega
 . split at h
   . cases h
   . rename_i F
     simp only[Mf,Xcd,Xaf,decide_eq_false_iff_not]at F;exact⟨⟨by omega,by omega,by omega,by omega⟩,by omega⟩
section
variable{x:Instance}(h:Acc x)
include h
theorem Acc.go{t:VType}(O:t∈x.types):GoB x t:=by
 have E:=h.type t O;have X:=E.start;have U:=E.close;have V:=E.drive;refine⟨fun p q d F J=>?_,E.rest,U,V.2⟩;unfold eU at J |-;split
 . exact Xbi _
 . split
   . exact F.1
   . cases I:oE x.net t.profile p q with
     | none=>exact Xbi _
     | some a=>exact(SW (h.arc a (List.mem_of_find?_eq_some I)) F).1
theorem Acc.stop{v:Visit}(E:(bA x v).2=true):StopB (bA x v).1/\(bA x v).1.start<=(bA x v).1.close:=by
 unfold bA at E |-;split
 . rename_i F;rw[if_pos F]at E;cases E
 . rename_i F
   rw[if_neg F]at E;cases I:x.orders[v.order.toNat]? with
   | none=>rw[I]at E;cases E
   | some o=>
     rw[I]at E;have O:0<=(mW o v).place:=by simpa using E
     have J:=h.order o (Xac I);refine Tc ?_ O;show fH (mW o v)=0;unfold mW;cases v.drop
     . exact J.wpick
     . exact J.wdrop
theorem Acc.route{r:Route}{t:VType}(E:bX x r=true)(J:x.types[r.type.toNat]?=some t):RouteB x t r/\∀v∈r.visits,(bA x v).1.start<=(bA x v).1.close:=by
 unfold bX at E;simp only[Xak,Xbb,Xaf,decide_eq_false_iff_not]at E;have O:∀v∈r.visits,(bA x v).2=true:=Xaj.1 E.2;have I:=h.type t (Xac J);have U:=I.start;have V:=I.close;refine⟨⟨h.go (Xac J),fun v F=>(h.stop (O v F)).1,⟨?_,by show -(12288*((0:Nat):Int))<=0/\(0:Int)<=4096;omega⟩,by omega⟩,fun v F=>(h.stop (O v F)).2⟩;unfold fT;show 0<=fP t.start r.start/\fP t.start r.start<=8192;unfold fP;split <;> omega
end
theorem ahO(x:Instance)(t:VType)(r:Route)(k:Nat)(F:k<=r.visits.length):qR t (fB x r.visits) k=gP x t r k:=by
 cases k with
 | zero=>rfl
 | succ j=>
   obtain⟨v,E⟩:=aN (show j<r.visits.length by omega);simp[qR,gP,fB,List.getD,E]
theorem abL(x:Instance)(t:VType)(r:Route)(k:Nat)(E:k<=r.visits.length)(l:Lab)(b:Bool):lW x t (fB x r.visits) k l b=fN x t r k l b:=by
 unfold lW fN;rw[ahO x t r k E];unfold fB;rw[List.getElem?_map];cases r.visits[k]? <;> rfl
theorem Up(x:Instance)(t:VType)(r:Route):∀(bs:List Bool) (k:Nat) (l:Lab),bs.length+k<=r.visits.length+1->Ay x t (fB x r.visits) bs k l=jN x t r bs k l
 | [],k,l,_=>rfl
 | b::bs,k,l,h=>by
   simp only[Xad]at h;unfold Ay jN;rw[abL x t r k (by omega)];cases fN x t r k l b with
   | error e=>rfl
   | ok l'=>exact Up x t r bs (k+1) l' (by omega)
theorem apT(x:Instance)(t:VType)(r:Route)(k:Nat)(F:k<=r.visits.length)(E:List Lab):GI x t r (fB x r.visits) E k=Ax x t r E k:=by
 unfold GI Ax;rw[List.foldl_flatMap]
 congr 1
 funext out l;unfold oM
 congr 1
 exact List.map_congr_left fun b _=>abL x t r k F l b
theorem aeL(x:Instance)(t:VType)(r:Route):∀k:Nat,k<=r.visits.length+1->dpP x t r (fB x r.visits) k=dpL x t r k
 | 0,_=>rfl
 | k+1,h=>by
   show GI x t r _ _ k=Ax x t r _ k;rw[apT x t r k (by omega),aeL x t r k (by omega)]
theorem Acc.best{x:Instance}(h:Acc x)(r:Route):(jH x r).2=(kO x r).2:=by
 unfold jH;split
 . rename_i E
   unfold kO;rw[if_pos (by simpa using E)]
 . rename_i E
   have F:bX x r=true/\(r.rests.length:Int)<=(r.visits.length:Int)+1:=by simpa using E
   obtain⟨U,J⟩:=F;have I:∃t,x.types[r.type.toNat]?=some t:=by
     have:=U;unfold bX at this;simp only[Xak,Xbb,Xaf,cC,decide_eq_false_iff_not]at this;exact aN (by omega)
   obtain⟨t,O⟩:=I;rw[O];show(CR x t r).2=_;obtain⟨V,X⟩:=h.route U O;have J:r.rests.length<=r.visits.length+1:=by omega
   rw[ahX V U O J X];unfold CR;rw[aeL x t r _ (Xah _)];cases dpL x t r (r.visits.length+1)with
   | nil=>
     show D4 (Ay x t _ _ 0 _)=_;rw[Up x t r _ 0 _ (by rw[mJ J];omega)]
   | cons l ls=>rfl
theorem tC{α:Type}(p:α->Bool)(l:List α):((∀y∈l,p y=false)/\nQ p l 0= -1)\/∃(k:Nat) (x:α),l[k]?=some x/\p x=true/\(∀y∈l.take k,p y=false)/\nQ p l 0=k:=by
 by_cases h:l.any p=true
 . right
   have F:l.findIdx p<l.length:=List.findIdx_lt_length_of_exists (by simpa using h);refine⟨l.findIdx p,l[l.findIdx p],List.getElem?_eq_getElem F,List.findIdx_getElem,?_,?_⟩
   . intro y E
     obtain⟨i,hi,rfl⟩:=List.getElem_of_mem E;rw[Xao]at hi;rw[List.getElem_take];exact List.not_of_lt_findIdx (by omega)
   . have := kW (p := p) (l := l) (k := l.findIdx p) (x := l[l.findIdx p]) (by
       intro y E;obtain⟨i,hi,rfl⟩:=List.getElem_of_mem E;rw[Xao]at hi;rw[List.getElem_take];exact List.not_of_lt_findIdx (by omega)) (List.getElem?_eq_getElem F) List.findIdx_getElem 0
     rw[this];omega
 . left
   have h:∀y∈l,p y=false:=fun y E=>by
     have:=Xay.1 (Xcp.2 h) y E;simpa using this
   exact⟨h,jP h 0⟩
theorem wV{v u:Visit}:mV v u=true↔u=v:=by
 unfold mV;constructor
 . intro h
   simp only[Xbo,Xak,Xba]at h;cases u;cases v;simp only[Visit.mk.injEq];exact⟨h.1,h.2⟩
 . rintro rfl;simp
theorem XD{l:List Visit}{i:Nat}(hi:i<l.length):pO l i=AX l i:=by
 obtain⟨v,O⟩:=aN hi;unfold pO AX;rw[show l.getD i ⟨0,false⟩=v by simp[List.getD,O]];unfold bD;rw[pB _ 0 (Xbi _)];by_cases h:(l.take i).any (mV v)=true
 . rw[h]
   rcases tC (mV v) l with⟨h1,_⟩|⟨k,y,Y,J,U,V⟩
   . obtain⟨u,I,E⟩:=Xan.1 h
     rw[h1 u (List.mem_of_mem_take I)]at E;cases E
   . rw[V]
     have:k<i:=by
       refine Decidable.byContradiction fun Z=>?_
       obtain⟨u,I,E⟩:=Xan.1 h;have F:u∈l.take k:=by
         obtain⟨j,X,rfl⟩:=List.getElem_of_mem I;rw[Xao]at X;rw[List.getElem_take];exact List.mem_take_iff_getElem.2 ⟨j,by omega,rfl⟩
       rw[U u F]at E;cases E
     symm
     simp only[bne_iff_ne,ne_eq];omega
 . have h : ∀ y ∈ l.take i, mV v y = false := fun y J => by
     have:=Xay.1 (Xcp.2 h) y J;simpa using this
   rw[kW h O (wV.2 rfl) 0,pF h];simp
theorem qT{α:Type}{p q:α->Bool}{l:List α}(h:∀a∈l,p a=q a):l.any p=l.any q:=by
 rw[Xas,Xan,Xan];exact⟨fun⟨a,h1,E⟩=>⟨a,h1,(h a h1)▸E⟩,fun⟨a,h1,E⟩=>⟨a,h1,(h a h1).symm▸E⟩⟩
theorem KP{α:Type}{p q:α->Bool}{l:List α}(h:∀a∈l,p a=q a):l.all p=l.all q:=by
 rw[Xas,Xaj,Xaj];exact⟨fun F a E=>(h a E)▸F a E,fun F a E=>(h a E).symm▸F a E⟩
theorem EH{o:Order}{i:Int}(h1: -1<=o.pick.place)(E: -1<=o.drop.place):gC o i=cG o i:=by
 unfold gC cG;have e:∀n:Int,-1<=n->(decide (n>=0)=true↔(n != -1)=true):=by
   intro n F;simp only[decide_eq_true_eq,bne_iff_ne,ne_eq];omega
 simp only[e _ h1,e _ E]
theorem aoM{l:List Visit}{u v:Visit}(h:u≠v)(U:bD l u>=0):bD l u≠bD l v:=by
 unfold bD at *;intro e;rcases tC (mV u) l with⟨_,h1⟩|⟨k,y,O,I,_,h1⟩
 . omega
 . rcases tC (mV v) l with⟨_,J⟩|⟨m,z,E,F,_,J⟩
   . omega
   . have:k=m:=by omega
     subst this;rw[O]at E;injection E with E;subst E;exact h ((wV.1 I).symm.trans (wV.1 F))
theorem Y6(l:List Visit)(v:Visit): -1<=bD l v:=by
 unfold bD;rcases tC (mV v) l with⟨_,h1⟩|⟨k,y,hk,hy,_,h1⟩ <;> omega
theorem ZV(l:List Visit)(o:Order)(i:Int):pC l (cG o i) (-1)= !(!gJ l (cG o i)||(((cG o i).length:Int) == 2&&decide (bD l ((cG o i).getD 0 ⟨0,false⟩)>bD l ((cG o i).getD 1 ⟨0,false⟩)))):=by
 have e:∀v,decide (bD l v> -1)= !decide (bD l v<0):=fun v=>by
   rw[Xas];simp only[decide_eq_true_eq,Xbb,decide_eq_false_iff_not];omega
 unfold cG;split
 . split
   . have E:=aoM (l:=l) (u:=⟨i,false⟩) (v:=⟨i,true⟩) (by simp)
     have F:=Y6 l ⟨i,true⟩;simp only[List.cons_append,Xbr,pC,e,gJ,List.all_cons,List.all_nil,Xad,List.length_nil,List.getD_cons_zero,List.getD_cons_succ,Xbo];rw[Xas];simp;omega
   . simp[pC,gJ,e]
 . split
   . simp[pC,gJ,e]
   . simp[pC,gJ]
theorem WV{x:Instance}(h:Acc x){l:List Visit}{v:Visit}(J:0<=v.order/\v.order<(x.orders.length:Int)):uU x.orders l v= !lU l (Bu x v.order) v:=by
 obtain⟨o,F⟩:=aN (show v.order.toNat<x.orders.length by omega);have E:=h.order o (Xac F);have I:cC v.order x.orders.length=false:=by simp only[cC,Xaf,decide_eq_false_iff_not];omega
 unfold uU fC Bu;rw[if_neg (by rw[I];simp),F];show(inV (gC o v.order) v&&pC l (gC o v.order) (-1))= !lU l (cG o v.order) v;rw[EH E.pick E.drop,ZV];unfold inV lU;rw[show decide (bD (cG o v.order) v>=0)= !decide (bD (cG o v.order) v<0)by
   rw[Xas];simp only[decide_eq_true_eq,Xbb,decide_eq_false_iff_not];omega]
 generalize decide (bD (cG o v.order) v<0)=a;generalize gJ l (cG o v.order)=b;generalize (((cG o v.order).length:Int) == 2&&decide (bD l ((cG o v.order).getD 0 ⟨0,false⟩)>bD l ((cG o v.order).getD 1 ⟨0,false⟩)))=c;cases a <;> cases b <;> cases c <;> rfl
theorem Je{l:List Visit}{a b:Int}:EB l a b=true↔∃j k:Nat,k<j/\j<l.length/\dB l j=a/\dB l k=b:=by
 unfold EB uN;simp only[Xan,Xam,Xak,Xba];constructor
 . rintro⟨j,F,k,E,h⟩;exact⟨j,k,E,F,h.1,h.2⟩
 . rintro⟨j,k,E,F,h⟩;exact⟨j,F,k,E,h⟩
theorem Gw{l:List Visit}{a b:Int}(J:a≠b):E7 l a b=(!iF l b||(iF l a&& !EB l a b)):=by
 unfold E7;rcases tC (fun v:Visit=>v.order == b) l with⟨h0,h1⟩|⟨k,y,O,U,Y,h1⟩
 . rw[h1,show iF l b=false from pF h0];rfl
 . rw[h1]
   have X:iF l b=true:=Xan.2 ⟨y,Xac O,U⟩;rw[X,show decide ((k:Int)<0)=false by simp];simp only[Xbm,Xby,Xaq]
   congr 2
   rw[Xas,Je];unfold iF;rw[Xan];have I:y.order=b:=by simpa using U
   constructor
   . rintro⟨u,hu,E⟩
     obtain⟨i,hi,rfl⟩:=List.getElem_of_mem hu;rw[List.getElem_drop]at E;rw[Xbw]at hi;have E:(l[k+i]'(by omega)).order=a:=by simpa using E
     have aa:i≠0:=by
       rintro rfl;have:l[k+0]'(by omega)=y:=by
         have:=List.getElem?_eq_getElem (l:=l) (i:=k) (by omega);rw[O]at this;injection this with this;exact this.symm
       rw[this,I]at E;exact J E.symm
     exact⟨k+i,k,by omega,by omega,(fZ (List.getElem?_eq_getElem (by omega))).trans E,(fZ O).trans I⟩
   . rintro⟨j,m,hm,hj,V,F⟩
     have Z:k<=m:=by
       refine Decidable.byContradiction fun hc=>?_
       have:=Y (l[m]'(by omega)) (List.mem_take_iff_getElem.2 ⟨m,by omega,rfl⟩);rw[fZ (List.getElem?_eq_getElem (show m<l.length by omega))]at F;simp[F]at this
     refine⟨l[j],?_,by rw[fZ (List.getElem?_eq_getElem hj)]at V;simpa using V⟩;exact List.mem_drop_iff_getElem.2 ⟨j-k,by omega,by congr 1;omega⟩
theorem Acc.seq{x:Instance}(h:Acc x)(l:List Visit):pU x l=eI x l:=by
 unfold pU eI;by_cases V:(l.any fun v=>cC v.order x.orders.length)=true
 . rw[if_pos (by rw[V];simp),if_pos V]
 have J:(l.any fun v=>cC v.order x.orders.length)=false:=by simpa using V
 have F:∀v∈l,0<=v.order/\v.order<(x.orders.length:Int):=fun v U=>by
   have:=Xay.1 J v U;have:cC v.order x.orders.length=false:=by simpa using this
   simp only[cC,Xaf,decide_eq_false_iff_not]at this;omega
 have hl:=h.orders;have E:∀v∈l,xW v=false:=fun v U=>by
   have:=F v U;simp only[xW,Xaf,decide_eq_false_iff_not];omega
 rw[if_neg V,(A2 h.loadB F).1];show(if _ then _ else _)=_;rw[J];have e0:(((l.length:Int) == 0)||false)=(((0:Int) != 0)||((l.length:Int) == 0)):=by simp
 rw[e0];by_cases h0:(((0:Int) != 0)||((l.length:Int) == 0))=true
 . rw[if_pos h0,if_pos h0]
 rw[if_neg h0,if_neg h0];have e2:(List.range l.length).any (pO l)=(List.range l.length).any (AX l):=qT fun i hi=>XD (Xam.1 hi)
 have Z:l.all (uU x.orders l)=wK x l:=KP fun v U=>WV h (F v U)
 have e4:(x.apart.any fun q=>iF l q.a&&iF l q.b)= !Bl x (uJ l:Nat):=by
   unfold Bl;rw[List.not_all_eq_any_not];refine qT fun q X=>?_
   have I:=h.apartB q X;have h1:=sE E (i:=q.a) I.a.1 (by have:=I.a;omega);have O:=sE E (i:=q.b) I.b.1 (by have:=I.b;omega);rw[(A2 h.loadB F).1]at h1 O;rw[h1,O];simp
 have Y:(x.before.any fun q=> !E7 l q.a q.b)= !tS x (uJ l:Nat) l:=by
   unfold tS;rw[List.not_all_eq_any_not];refine qT fun q X=>?_
   have I:=h.beforeB q X;have h1:=sE E (i:=q.a) I.a.1 (by have:=I.a;omega);have O:=sE E (i:=q.b) I.b.1 (by have:=I.b;omega);rw[(A2 h.loadB F).1]at h1 O;unfold zQ;rw[Gw I.ne,h1,O]
 rw[e2,Z,e4,Y]
theorem awS{s c:Nat}(J:s<2^63)(X:c<2^63):vU .andNot .i64 (s:Int) (c:Int)=0↔∀i,i<63->¬(s.testBit i=true/\c.testBit i=false):=by
 have h1:((s:Int)%((2^64:Nat):Int)).toNat=s:=by omega
 have O:((c:Int)%((2^64:Nat):Int)).toNat=c:=by omega
 have U:(BitVec.ofInt 64 (s:Int) &&& ~~~(BitVec.ofInt 64 (c:Int))).toNat<2^63:=by
   rw[BitVec.toNat_and,BitVec.toNat_ofInt,h1];exact Nat.lt_of_le_of_lt Nat.and_le_left J
 have e:vU .andNot .i64 (s:Int) (c:Int)=(((BitVec.ofInt 64 (s:Int) &&& ~~~(BitVec.ofInt 64 (c:Int))).toNat:Nat):Int):=by
   exact bH (n:=(((BitVec.ofInt 64 (s:Int) &&& ~~~(BitVec.ofInt 64 (c:Int))).toNat:Nat):Int)) (by omega)
 have E:∀i,i<64->(BitVec.ofInt 64 (s:Int) &&& ~~~(BitVec.ofInt 64 (c:Int))).toNat.testBit i=(s.testBit i&& !c.testBit i):=fun i hi=>by
   rw[BitVec.testBit_toNat,BitVec.getLsbD_and,BitVec.getLsbD_not];have a1:(BitVec.ofInt 64 (s:Int)).getLsbD i=s.testBit i:=by rw[<-BitVec.testBit_toNat,BitVec.toNat_ofInt,h1]
   have a2:(BitVec.ofInt 64 (c:Int)).getLsbD i=c.testBit i:=by rw[<-BitVec.testBit_toNat,BitVec.toNat_ofInt,O]
   rw[a1,a2,decide_eq_true hi];simp
 rw[e];constructor
 . intro h0 i hi F
   have h0:(BitVec.ofInt 64 (s:Int) &&& ~~~(BitVec.ofInt 64 (c:Int))).toNat=0:=by omega
   have:=E i (by omega);rw[h0,F.1,F.2]at this;simp at this
 . intro I
   have:(BitVec.ofInt 64 (s:Int) &&& ~~~(BitVec.ofInt 64 (c:Int))).toNat=0:=by
     refine Nat.eq_of_testBit_eq fun i=>?_
     rw[Nat.zero_testBit];by_cases hi:i<63
     . rw[E i (by omega)]
       have:=I i hi;cases Y:s.testBit i <;> cases V:c.testBit i <;> simp_all
     . refine Nat.testBit_lt_two_pow (Xcb U (Xav (by decide) (by omega)))
   omega
theorem LM{s i:Nat}(F:s<2^63):((IntKind.i64.wrap (Int.tdiv (s:Int) ((2^i:Nat):Int))).tmod 2 == 1)=s.testBit i:=by
 have e:Int.tdiv (s:Int) ((2^i:Nat):Int)=((s/2^i:Nat):Int):=by
   rw[Xbx (by omega)];norm_cast
 have E:s/2^i<=s:=Xcn _ _;rw[e,Xcs];generalize s/2^i=q at E;rw[show IntKind.i64.wrap (q:Int)=(q:Int)from bH (by omega),Xch (by omega)];rw[Xas];simp only[Xba,decide_eq_true_eq];omega
theorem Jc{s i:Nat}(F:s<2^63):((IntKind.i64.wrap (Int.tdiv (s:Int) ((2^i:Nat):Int))).tmod 2 == 0)= !s.testBit i:=by
 rw[<-LM F];have e:Int.tdiv (s:Int) ((2^i:Nat):Int)=((s/2^i:Nat):Int):=by
   rw[Xbx (by omega)];norm_cast
 have E:s/2^i<=s:=Xcn _ _;rw[e];generalize s/2^i=q at E;rw[show IntKind.i64.wrap (q:Int)=(q:Int)from bH (by omega),Xch (by omega)];rw[Xas];simp only[Xba,Xbb,beq_eq_false_iff_ne,ne_eq];omega
theorem Xh{c s:Int}(O:0<=c/\c<=1073741823)(I:0<=s/\s<=1073741823):uW c s=qW c s:=by
 obtain⟨c,rfl⟩:=Int.eq_ofNat_of_zero_le O.1;obtain⟨s,rfl⟩:=Int.eq_ofNat_of_zero_le I.1;have F:c<2^63:=by omega
 have E:s<2^63:=by omega
 unfold uW qW;rw[show decide ((c:Int)>=0)=true by simp,show decide ((s:Int)>=0)=true by simp,show decide ((c:Int)<0)=false by simp,show decide ((s:Int)<0)=false by simp];simp only[Xbl,Bool.or_self,Bool.not_false];rw[Xas,Xba,awS E F,Xaj];constructor
 . intro h i hi
   have:=h i (Xam.1 hi);unfold yV;rw[LM E,Jc F];cases h1:s.testBit i <;> cases J:c.testBit i <;> simp_all
 . intro h i hi
   have:=h i (Xam.2 hi);unfold yV at this;rw[LM E,Jc F]at this;cases h1:s.testBit i <;> cases J:c.testBit i <;> simp_all
theorem UH(a b:Int):W (W a+b)=W (a+b):=by
 show IntKind.i64.wrap (IntKind.i64.wrap a+b)=IntKind.i64.wrap (a+b);have e:∀n:Int,IntKind.i64.wrap n=if n%18446744073709551616>=9223372036854775808 then n%18446744073709551616-18446744073709551616 else n%18446744073709551616:=fun n=>by
   show(if(true&&decide (n%18446744073709551616>=9223372036854775808))=true then n%18446744073709551616-18446744073709551616 else n%18446744073709551616)=_;simp
 simp only[e]
 repeat' split
 all_goals omega
theorem azY(a b:Int):W (W a-b)=W (a-b):=by
 have:=UH a (-b)
 rwa [<-Int.sub_eq_add_neg,<-Int.sub_eq_add_neg]at this
def rX:Nat->(Nat->Int)->Int
 | 0,_=>0
 | n+1,f=>rX n f+f n
theorem Ap{f g:Nat->Int}:∀{n:Nat},(∀i,i<n->f i=g i)->rX n f=rX n g
 | 0,_=>rfl
 | n+1,h=>by unfold rX;rw[Ap fun i hi=>h i (by omega),h n (by omega)]
theorem Jx{f g:Nat->Int}{i0:Nat}:∀{n:Nat},i0<n->(∀i,i<n->i≠i0->f i=g i)->rX n g=rX n f+(g i0-f i0)
 | n+1,hi,h=>by
   unfold rX;by_cases e:i0=n
   . subst e
     rw[Ap (f:=f) (g:=g) fun i hi=>h i (by omega) (by omega)];omega
   . have:=Jx (f:=f) (g:=g) (n:=n) (by omega) fun i hi=>h i (by omega)
     rw[this,h n (by omega) (by omega)];omega
theorem Kb{f:Nat->Int}{n:Nat}(h:∀i,n<=i->f i=0):∀m,rX (n+m) f=rX n f
 | 0=>rfl
 | m+1=>by
   show rX (n+m) f+f (n+m)=_;rw[Kb h m,h _ (by omega)];omega
def Hd(x:Instance)(j i:Nat):Int:=match x.orders[i]? with|some o=>o.load.getD j 0|none=>0
def stB(l:List Visit)(i:Int)(b:Bool)(k:Nat):Bool:=(l.take k).foldl (fun s v=>if(v.order != i)=true then s else !v.drop) b
theorem AN{l:List Visit}{i:Int}{b:Bool}{k:Nat}{v:Visit}(h:l[k]?=some v):stB l i b (k+1)=if(v.order != i)=true then stB l i b k else !v.drop:=by
 unfold stB;rw[bQ h,Xbh];rfl
theorem N2(l:List Visit)(i:Int)(b:Bool):∀k,k<=l.length->((∀u∈l.take k,u.order≠i)/\stB l i b k=b)\/∃m u,m<k/\l[m]?=some u/\u.order=i/\stB l i b k= !u.drop
 | 0,_=>.inl ⟨by simp,rfl⟩
 | k+1,hk=>by
   obtain⟨v,I⟩:=aN (show k<l.length by omega);rw[AN I];by_cases h:v.order=i
   . right
     rw[if_neg (by simp[h])];exact⟨k,v,by omega,I,h,rfl⟩
   . rw[if_pos (by simp[h])]
     rcases N2 l i b k (by omega)with⟨h1,F⟩|⟨m,u,h1,F,J,O⟩
     . left
       refine⟨fun u E=>?_,F⟩;rw[bQ I]at E;rcases Xau.1 E with E|E
       . exact h1 u E
       . simp at E;subst E;exact h
     . right;exact⟨m,u,by omega,F,J,O⟩
theorem VH(l:List Visit)(i:Int)(n:Nat)(b:Bool):∀m,m<=l.length->Cd l i n b m=(stB l i b (min n m),iF (l.take m) i)
 | 0,_=>by rw[Nat.min_zero];rfl
 | m+1,hm=>by
   obtain⟨v,E⟩:=aN (show m<l.length by omega);rw[Kn E,VH l i n b m (by omega)];have e:iF (l.take (m+1)) i=(iF (l.take m) i||v.order == i):=by unfold iF;rw[bQ E,List.any_append];simp
   rw[e];unfold onS;by_cases h:v.order=i
   . rw[if_neg (by simp[h])]
     by_cases F:m<n
     . rw[if_pos (by simp;omega),show min n (m+1)=m+1 by omega,AN E,if_neg (by simp[h])]
       simp[h]
     . rw[if_neg (by simp;omega),show min n (m+1)=min n m by omega]
       simp[h]
   . rw[if_pos (by simp[h])]
     have:(v.order == i)=false:=by simpa using h
     rw[this,Bool.or_false];by_cases F:m<n
     . rw[show min n (m+1)=m+1 by omega,AN E,if_pos (by simp[h]),show min n m=m by omega]
     . rw[show min n (m+1)=min n m by omega]
theorem anW(l:List Visit)(k i:Nat)(o:Order)(E:k<=l.length):onB l k i o=(stB l i (decide (o.pick.place<0)) k&&iF l i):=by
 unfold onB;have:anO l i k (decide (o.pick.place<0))=Cd l i k (decide (o.pick.place<0)) l.length:=rfl;rw[this,VH l i k _ _ (Xah _),Xag,show min k l.length=k by omega]
def onK(x:Instance)(l:List Visit)(k i:Nat):Bool:=match x.orders[i]? with|some o=>stB l i (decide (o.pick.place<0)) k&&iF l i|none=>false
def tI(x:Instance)(l:List Visit)(k j i:Nat):Int:=if onK x l k i=true then Hd x j i else 0
theorem TR(ll:List (List Int))(a:List Int)(j:Nat):uF (ll++[a]) j=W (uF ll j+a.getD j 0):=by unfold uF;rw[Xbh];rfl
theorem J0(x:Instance)(l:List Visit)(k j:Nat)(F:k<=l.length):∀n,n<=x.orders.length->uF (jE x.orders l k n) j=W (rX n (tI x l k j))
 | 0,_=>rfl
 | n+1,hn=>by
   obtain⟨o,E⟩:=aN (show n<x.orders.length by omega);have ih:=J0 x l k j F n (by omega);rw[yO E];show _=W (rX n (tI x l k j)+tI x l k j n);have e:onK x l k n=onB l k n o:=by unfold onK;rw[E,anW l k n o F]
   unfold tI;rw[e];by_cases h:onB l k n o=true
   . rw[if_pos h,if_pos h,TR,ih,UH]
     unfold Hd;rw[E];rfl
   . rw[if_neg h,if_neg h,Xai,ih,Int.add_zero];rfl
theorem FX{f:Int->Int->Int}{a b:List Int}{j:Nat}(E:j<a.length)(F:j<b.length):(List.zipWith f a b).getD j 0=f (a.getD j 0) (b.getD j 0):=by
 simp[List.getD,List.getElem?_zipWith,List.getElem?_eq_getElem E,List.getElem?_eq_getElem F]
def pkN(x:Instance)(i:Nat):Bool:=match x.orders[i]? with|some o=>decide (o.pick.place<0)|none=>false
theorem J4{x:Instance}{d:Nat}(J:∀o∈x.orders,o.load.length=d){s:Int}{j:Nat}(O:j<d):∀m,
   ((oT s m).foldl (pT x) (List.replicate d 0)).getD j 0=W (rX m fun i=>if(dE s i&&pkN x i)=true then Hd x j i else 0)
 | 0=>by simp[oT,rX,List.getD,O];rfl
 | m+1=>by
   have ih:=J4 J (s:=s) O m;have F:=BX J (oT s m);rw[oJ,Xbh];generalize V:(oT s m).foldl (pT x) (List.replicate d 0)=A at ih F |-;show _=W (rX m _+if(dE s (m:Int)&&pkN x m)=true then Hd x j m else 0);cases U:dE s (m:Int)with
   | false=>
     rw[Bool.false_and,if_neg (by simp),if_neg (by simp),Int.add_zero];exact ih
   | true=>
     rw[if_pos rfl];simp only[List.foldl_cons,List.foldl_nil];unfold pT;rw[Xaq];cases I:x.orders[m]? with
     | none=>
       have E:pkN x m=false:=by unfold pkN;rw[I]
       rw[E,Bool.and_false,if_neg (by simp),Int.add_zero];exact ih
     | some o=>
       have E:pkN x m=decide (o.pick.place<0):=by unfold pkN;rw[I]
       rw[E,Xbl];show(if decide (o.pick.place<0)=true then wN A o.load else A).getD j 0=_;by_cases E:decide (o.pick.place<0)=true
       . rw[if_pos E,if_pos E]
         unfold wN;rw[FX (by omega) (by rw[J o (Xac I)];exact O),ih];unfold UX Hd;rw[UH,I]
       . rw[if_neg E,if_neg E,Int.add_zero];exact ih
theorem Yu{l:List Visit}{k:Nat}{v:Visit}(h:l[k]?=some v):iF l v.order=true:=Xan.2 ⟨v,Xac h,by simp⟩
theorem EN{x:Instance}{l:List Visit}(h:eI x l=0):(List.range l.length).any (AX l)=false/\wK x l=true:=by
 unfold eI at h
 repeat' split at h
 all_goals first|(exfalso;omega)|skip
 rename_i h1 J O F E I U
 exact⟨by simpa using F,by simpa using E⟩
theorem Mc{x:Instance}{l:List Visit}(h:eI x l=0){k:Nat}{v:Visit}(E:l[k]?=some v):bD l v=k:=by
 have F:k<l.length:=(List.getElem?_eq_some_iff.1 E).1;have:=Xay.1 (EN h).1 k (Xam.2 F);unfold AX at this;rw[show l.getD k ⟨0,false⟩=v by simp[List.getD,E]]at this;simpa using this
theorem Acc.board{x:Instance}(h:Acc x){l:List Visit}(X:eI x l=0){k:Nat}{v:Visit}{o:Order}(V:l[k]?=some v)(ho:x.orders[v.order.toNat]?=some o):stB l v.order (decide (o.pick.place<0)) k=v.drop:=by
 have hk:k<l.length:=(List.getElem?_eq_some_iff.1 V).1;have hO:=h.order o (Xac ho);have Z:=Xaj.1 (EN X).2 v (Xac V);have aa:Bu x v.order=cG o v.order:=by unfold Bu;rw[ho]
 rw[aa]at Z;simp only[lU,Xbb,Xaf,decide_eq_false_iff_not]at Z;obtain⟨⟨ab,Y⟩,I⟩:=Z;have F:v∈cG o v.order:=by
   unfold bD at ab;rcases tC (mV v) (cG o v.order)with⟨_,e⟩|⟨m,y,E,U,_,e⟩
   . omega
   . have:=Xac E
     rwa [wV.1 U]at this
 have J:∀w∈cG o v.order,0<=bD l w:=fun w hw=>by
   have:=Xaj.1 (show gJ l (cG o v.order)=true by simpa using Y) w hw;have:=Y6 l w;have h0:¬bD l w<0:=by simpa using ‹(!decide (bD l w<0))=true›
   omega
 rcases N2 l v.order (decide (o.pick.place<0)) k (by omega)with⟨hn,he⟩|⟨m,u,E,hu,af,he⟩
 . rw[he]
   cases O:v.drop with
   | false=>
     have:o.pick.place≠ -1:=by
       intro e;unfold cG at F;rw[e]at F;rcases Xau.1 F with E|E
       . simp at E
       . split at E
         . have:v=⟨v.order,true⟩:=by simpa using E
           rw[this]at O;cases O
         . cases E
     have:=hO.pick;simp;omega
   | true=>
     refine decide_eq_true (Decidable.byContradiction fun ac=>?_);have h1:(o.pick.place != -1)=true:=by simp;omega
     have h2:(o.drop.place != -1)=true:=by
       unfold cG at F;rcases Xau.1 F with E|E
       . rw[if_pos h1]at E
         have:v=⟨v.order,false⟩:=by simpa using E
         rw[this]at O;cases O
       . split at E
         . assumption
         . cases E
     have e:cG o v.order=[⟨v.order,false⟩,⟨v.order,true⟩]:=by unfold cG;rw[if_pos h1,if_pos h2];rfl
     have ev:(⟨v.order,true⟩:Visit)=v:=by cases v;simp_all
     rw[e]at I J;have hi:=J ⟨v.order,false⟩ (by simp);have I:¬bD l ⟨v.order,false⟩>bD l ⟨v.order,true⟩:=by simpa using I
     rw[ev,Mc X V]at I;unfold bD at hi I;rcases tC (mV ⟨v.order,false⟩) l with⟨_,e⟩|⟨m,y,E,U,_,e⟩
     . omega
     . have U:=wV.1 U
       subst U;have ae:m≠k:=by
         rintro rfl;rw[V]at E;injection E with E;rw[E]at O;cases O
       exact hn ⟨v.order,false⟩ (List.mem_take_iff_getElem.2 ⟨m,by have:=(List.getElem?_eq_some_iff.1 E).1;omega,(List.getElem?_eq_some_iff.1 E).2⟩) rfl
 . rw[he]
   have:u≠v:=by
     rintro rfl;have h1:=Mc X hu;have h2:=Mc X V;omega
   cases O:v.drop <;> cases ad:u.drop <;> first|rfl|(exfalso;apply this;cases u;cases v;simp_all)
theorem Uj{x:Instance}(h:Acc x){l:List Visit}(U:eI x l=0){j:Nat}(Z:j<(fI x).toNat):∀k,k<=l.length->(Ci x l k).getD j 0=W (rX x.orders.length (tI x l k j))
 | 0,_=>by
   have J:=Cf U;have I:∀v∈l,xW v=false:=fun v E=>by
     have:=J v E;have:=h.orders;simp only[xW,Xaf,decide_eq_false_iff_not];omega
   have hs:=J4 h.loadB.load (s:=(cK l).1) Z 63;have e0:Ci x l 0=(oT (cK l).1 63).foldl (pT x) (List.replicate (fI x).toNat 0):=rfl;rw[e0,hs];have hN:=h.orders;rw[show 63=x.orders.length+(63-x.orders.length)by omega,Kb (n:=x.orders.length) (fun i hi=>by
     have:pkN x i=false:=by unfold pkN;rw[List.getElem?_eq_none hi]
     show(if(dE _ _&&pkN x i)=true then _ else _)=_;rw[this,Bool.and_false,if_neg (by simp)])]
   congr 1
   refine Ap fun i hi=>?_
   obtain⟨o,F⟩:=aN hi;unfold tI onK pkN;rw[F,HL I (by omega) (by omega)];show(if(iF l i&&decide (o.pick.place<0))=true then _ else _)=if(decide (o.pick.place<0)&&iF l i)=true then _ else _
   rw[Bool.and_comm]
 | k+1,hk=>by
   obtain⟨v,E⟩:=aN (show k<l.length by omega);have J:=Cf U v (Xac E);obtain⟨o,F⟩:=aN (show v.order.toNat<x.orders.length by omega);have ih:=Uj h U Z k (by omega);have aa:=CG h.loadB l k;have ab:=h.loadB.load o (Xac F);have hb:=h.board U E F;have Y:=Yu E;have X:((v.order.toNat:Nat):Int)=v.order:=by omega
   have t0:tI x l k j v.order.toNat=if v.drop=true then o.load.getD j 0 else 0:=by
     unfold tI onK Hd;rw[F,X,Y];show(if(stB l v.order (decide (o.pick.place<0)) k&&true)=true then o.load.getD j 0 else 0)=_;rw[hb,Xbo]
   have t1:tI x l (k+1) j v.order.toNat=if v.drop=true then 0 else o.load.getD j 0:=by
     unfold tI onK Hd;rw[F,X,Y];show(if(stB l v.order (decide (o.pick.place<0)) (k+1)&&true)=true then o.load.getD j 0 else 0)=_;rw[show stB l v.order (decide (o.pick.place<0)) (k+1)= !v.drop by rw[AN E,if_neg (by simp)],Xbo];cases v.drop <;> rfl
   have ht:∀i,i<x.orders.length->i≠v.order.toNat->tI x l k j i=tI x l (k+1) j i:=fun i hi ac=>by
     obtain⟨O,V⟩:=aN hi;unfold tI onK;rw[V];show(if(stB l i (decide (O.pick.place<0)) k&&iF l i)=true then _ else _)=if(stB l i (decide (O.pick.place<0)) (k+1)&&iF l i)=true then _ else _
     rw[show stB l i (decide (O.pick.place<0)) (k+1)=stB l i (decide (O.pick.place<0)) k by rw[AN E,if_pos (by simp;omega)]]
   rw[Jx (f:=tI x l k j) (g:=tI x l (k+1) j) (i0:=v.order.toNat) (by omega) ht,Ja E,t0,t1];unfold Q9;rw[F];show(if v.drop=true then BS (Ci x l k) o.load else wN (Ci x l k) o.load).getD j 0=_;cases hd:v.drop with
   | true=>
     rw[if_pos rfl,if_pos rfl,if_pos rfl];unfold BS;rw[FX (by omega) (by omega),ih];unfold QA;rw[azY];congr 1;omega
   | false=>
     rw[if_neg (by simp),if_neg (by simp),if_neg (by simp)];unfold wN;rw[FX (by omega) (by omega),ih];unfold UX;rw[UH];congr 1;omega
theorem ahZ{x:Instance}(h:Acc x)(l:List Visit)(n:Int):oH (jE x.orders l n x.orders.length) (fI x)=true:=by
 have I:=h.dims;unfold oH;rw[show decide (fI x<0)=false by simp;omega,show decide (fI x>3)=false by simp;omega];simp only[Bool.or_self,Bool.not_false,Xbl];rw[Xaj];intro a F;unfold jE at F;obtain⟨i,_,hi⟩:=List.mem_flatMap.1 F;cases E:x.orders[i]? with
 | none=>rw[E]at hi;cases hi
 | some o=>
   rw[E]at hi;have:=h.loadB.load o (Xac E);dsimp only at hi;split at hi
   . have:a=o.load:=by simpa using hi
     subst this;simp;omega
   . cases hi
theorem acC{a b:List Int}(h1:a.length=b.length)(h:∀j,j<a.length->a.getD j 0=b.getD j 0):a=b:=by
 refine List.ext_getElem h1 fun j E F=>?_
 have:=h j E;simpa[List.getD,List.getElem?_eq_getElem E,List.getElem?_eq_getElem F]using this
theorem J2{x:Instance}(h:Acc x){l:List Visit}(J:eI x l=0){k:Nat}(F:k<=l.length):mA x l k=(Ci x l k,0):=by
 unfold mA Hz;rw[if_pos (ahZ h l k)]
 congr 1
 have I:=CG h.loadB l k;refine acC (by simp[I]) fun j E=>?_
 have E:j<(fI x).toNat:=by simpa using E
 rw[Uj h J E k F,<-J0 x l k j F _ (Xah _)];simp[List.getD,E]
theorem Acc.loads{x:Instance}(h:Acc x)(l:List Visit):nD x l=jG x l:=by
 unfold nD jG;rw[h.seq l];by_cases E:(eI x l != 0)=true
 . rw[if_pos E,if_pos E]
 rw[if_neg E,if_neg E];have E:eI x l=0:=by simpa using E
 have F:xX (K3 x l)=0:=EM fun e F=>by
   unfold K3 at F;obtain⟨n,I,rfl⟩:=Xbd.1 F;rw[J2 h E (by have:=Xam.1 I;omega)];rfl
 rw[if_neg (by rw[F];simp)]
 congr 1
 unfold vP GJ;exact List.map_congr_left fun n I=>by rw[J2 h E (by have:=Xam.1 I;omega)]
theorem Acc.fits{x:Instance}(h:Acc x)(r:Route):wL x r=xJ x r:=by
 unfold wL xJ;rw[h.loads]
end Sq
namespace Sq
open Mv (bJ bR aM)
theorem SR{x:Instance}{t:VType}{r:Route}(E:RouteB x t r){k:Nat}(X:k<=r.visits.length){l m J:Lab}{b:Bool}(bl:LabB l k)(O:LabB m k)(I:mU l m)(h:fN x t r k m b=.ok J):
   ∃l',fN x t r k l b=.ok l'/\mU l' J:=by
 have V:=E.short;by_cases F:k<r.visits.length
 . obtain⟨v,U⟩:=aN F
   have e:∀l,fN x t r k l b=nS x t (gP x t r k) (bA x v).1 k l b:=fun l=>by unfold fN;rw[U]
   rw[e]at h |-;exact F6 (by omega) E.go (E.stop v (Xac U)) bl O I h
 . have e:∀l,fN x t r k l b=pW x t (gP x t r k) k l b:=fun l=>by unfold fN;rw[List.getElem?_eq_none (by omega)]
   rw[e]at h |-;exact HY (by omega) E.go bl O I h
def okO(e:Except Int Lab):Option Lab:=match e with| .ok l=>some l| .error _=>none
def okL(es:List (Except Int Lab)):List Lab:=es.filterMap okO
theorem agF(a b:List (Except Int Lab)):okL (a++b)=okL a++okL b:=List.filterMap_append
theorem KZ{es:List (Except Int Lab)}{l:Lab}:l∈okL es↔.ok l∈es:=by
 unfold okL;rw[List.mem_filterMap];constructor
 . rintro⟨e,E,h⟩
   cases e with
   | error e=>cases h
   | ok l'=>injection h with h;subst h;exact E
 . intro h;exact⟨_,h,rfl⟩
def Mn(fixed:List Bool):Nat->List (List Bool)
 | 0=>[[]]
 | k+1=>(Mn fixed k).flatMap fun c=>(dX fixed k).map fun b=>c++[b]
theorem Ao(fixed:List Bool):∀k,∀c∈Mn fixed k,c.length=k
 | 0,c,h=>by
   have h:c∈[[]]:=h;simp at h;subst h;rfl
 | k+1,c,h=>by
   obtain⟨d,E,h⟩:=List.mem_flatMap.1 h;obtain⟨b,_,rfl⟩:=Xbd.1 h;simp[Ao fixed k d E]
def tN(x:Instance)(t:VType)(r:Route)(k:Nat)(l:Lab):List (Except Int Lab):=(dX r.rests k).map fun b=>fN x t r k l b
def MG(x:Instance)(t:VType)(r:Route)(L:List (List Bool)):List Lab:=okL (L.map fun c=>jN x t r c 0 (fT t r))
theorem KJ(x:Instance)(t:VType)(r:Route)(k:Nat):∀L:List (List Bool),(∀c∈L,c.length=k) ->
   MG x t r (L.flatMap fun c=>(dX r.rests k).map fun b=>c++[b])=(MG x t r L).flatMap fun l=>okL (tN x t r k l)
 | [],_=>rfl
 | c::L,h=>by
   have ih:=KJ x t r k L fun d J=>h d (by simp[J])
   have I:=h c (by simp);unfold MG at ih |-;rw[List.flatMap_cons,Xar,agF,ih,Xbc];have e : okL (((dX r.rests k).map fun b => c ++ [b]).map fun c => jN x t r c 0 (fT t r)) = match jN x t r c 0 (fT t r) with
       | .error _=>[]
       | .ok l=>okL (tN x t r k l):=by
     rw[List.map_map];cases E:jN x t r c 0 (fT t r)with
     | error e=>
       dsimp only;refine List.filterMap_eq_nil_iff.2 fun a F=>?_
       obtain⟨b,_,rfl⟩:=Xbd.1 F;show okO (jN x t r (c++[b]) 0 (fT t r))=none;rw[oN,E];rfl
     | ok l=>
       dsimp only;unfold tN
       congr 1
       refine List.map_congr_left fun b _=>?_
       show jN x t r (c++[b]) 0 (fT t r)=_;rw[oN,E];show fN x t r (0+c.length) l b=_;rw[I,Xck]
   rw[e];cases E:jN x t r c 0 (fT t r)with
   | error e=>rfl
   | ok l=>rfl
inductive Cov:List Lab->List Lab->Prop
 | nil:Cov [] []
 | keep {f d:List Lab} (l:Lab):Cov f d->Cov (f++[l]) (d++[l])
 | skip {f d:List Lab} (l m:Lab):Cov f d->m∈d->mU m l->Cov (f++[l]) d
theorem Cov.sub{f d:List Lab}(h:Cov f d):∀m∈d,m∈f:=by
 induction h with
 | nil=>simp
 | keep l _ ih=>
   intro m E;rcases Xau.1 E with E|E
   . exact Xbn _ (ih m E)
   . exact List.mem_append_right _ E
 | skip l m _ _ _ ih=>intro q F;exact Xbn _ (ih q F)
theorem Cov.add{F D:List Lab}(h:Cov F D)(es:List (Except Int Lab)):Cov (F++okL es) (es.foldl uI D):=by
 induction es generalizing F D with
 | nil=>simpa[okL]using h
 | cons e es ih=>
   cases e with
   | error e=>exact ih h
   | ok l=>
     have J:F++okL (.ok l::es)=(F++[l])++okL es:=by
       rw[show okL (.ok l::es)=l::okL es from rfl,Xaw];rfl
     rw[J,List.foldl_cons];refine ih ?_;show Cov (F++[l]) (if D.any (uE · l)=true then D else D++[l]);by_cases E:D.any (uE · l)=true
     . rw[if_pos E]
       obtain⟨m,O,I⟩:=Xan.1 E;exact .skip l m h O (Gz.1 I)
     . rw[if_neg E];exact .keep l h
theorem Cov.skips{F D:List Lab}(h:Cov F D)(E:List Lab):(∀l∈E,∃m∈D,mU m l)->Cov (F++E) D:=by
 induction E generalizing F with
 | nil=>intro _;simpa using h
 | cons l E ih=>
   intro I;obtain⟨m,U,J⟩:=I l (by simp);rw[show F++l::E=(F++[l])++E by simp];exact ih (.skip l m h U J) fun q O=>I q (by simp[O])
theorem Cov.grow{x:Instance}{t:VType}{r:Route}(V:RouteB x t r){k:Nat}(Z:k<=r.visits.length){f d:List Lab}(h:Cov f d):
   (∀l∈f,LabB l k)->Cov (f.flatMap fun l=>okL (tN x t r k l)) (Ax x t r d k):=by
 induction h with
 | nil=>intro _;exact .nil
 | @keep f d l h ih=>
   intro E;have ih:=ih fun q F=>E q (Xbn _ F)
   rw[Xbu,show[l].flatMap (fun l=>okL (tN x t r k l))=okL (tN x t r k l)by simp];have e:Ax x t r (d++[l]) k=(tN x t r k l).foldl uI (Ax x t r d k):=by
     unfold Ax;rw[Xbu,Xbh,show[l].flatMap (fun l=>(dX r.rests k).map fun b=>fN x t r k l b)=tN x t r k l by simp[tN]]
   rw[e];exact ih.add _
 | @skip f d l m h hm hb ih=>
   intro E;have ih:=ih fun q F=>E q (Xbn _ F)
   rw[Xbu,show[l].flatMap (fun l=>okL (tN x t r k l))=okL (tN x t r k l)by simp];refine ih.skips _ fun q F=>?_
   obtain⟨b,J,I⟩:=Xbd.1 (KZ.1 F);obtain⟨X,h1,Y⟩:=SR V Z (E m (Xbn _ (h.sub m hm))) (E l (by simp)) hb I;obtain⟨q',O,U⟩:=(A3 (d.flatMap fun l=>(dX r.rests k).map fun b=>fN x t r k l b) []).2.2 X (List.mem_flatMap.2 ⟨m,hm,Xbd.2 ⟨b,J,h1⟩⟩);exact⟨q',O,U.trans Y⟩
theorem Us{x:Instance}{t:VType}{r:Route}(E:RouteB x t r):∀k,k<=r.visits.length+1->Cov (MG x t r (Mn r.rests k)) (dpL x t r k)
 | 0,_=>Cov.keep (fT t r) Cov.nil
 | k+1,hk=>by
   have ih:=Us E k (by omega);show Cov (MG x t r ((Mn r.rests k).flatMap fun c=>(dX r.rests k).map fun b=>c++[b])) (Ax x t r (dpL x t r k) k);rw[KJ x t r k _ (Ao r.rests k)];refine ih.grow E (by omega) fun l F=>?_
   obtain⟨c,J,I⟩:=Xbd.1 (KZ.1 F);exact MQ E k c l (Ao r.rests k c J) (by omega) I
def fmS(o:Option Lab)(m:Lab):Option Lab:=match o with|none=>some m|some b=>some (lX b m)
def fm(l:List Lab):Option Lab:=l.foldl fmS none
theorem Ul(l:Lab)(E:List Lab):fm (l::E)=some (E.foldl lX l):=by
 show E.foldl fmS (some l)=_;induction E generalizing l with
 | nil=>rfl
 | cons a r ih=>exact ih (lX l a)
theorem ML(f:List Lab)(l:Lab):fm (f++[l])=fmS (fm f) l:=by unfold fm;rw[Xbh];rfl
theorem aaL(b m:Lab):(lX b m).sheet.end_<=b.sheet.end_/\(lX b m).sheet.end_<=m.sheet.end_:=by
 unfold lX;split <;> simp_all <;> omega
theorem PF:∀(F:List Lab) (b:Lab),(F.foldl lX b).sheet.end_<=b.sheet.end_/\∀m∈F,(F.foldl lX b).sheet.end_<=m.sheet.end_
 | [],b=>⟨Xbi _,by simp⟩
 | a::r,b=>by
   have ih:=PF r (lX b a);have h:=aaL b a;refine⟨Int.le_trans ih.1 h.1,fun m E=>?_⟩;rcases Xbe.1 E with rfl|E
   . exact Int.le_trans ih.1 h.2
   . exact ih.2 m E
theorem aoG{d:List Lab}{m:Lab}(E:m∈d):∃b,fm d=some b/\b.sheet.end_<=m.sheet.end_:=by
 cases d with
 | nil=>cases E
 | cons a r=>
   refine⟨_,Ul a r,?_⟩;have h:=PF r a;rcases Xbe.1 E with rfl|E
   . exact h.1
   . exact h.2 m E
theorem Cov.first{f d:List Lab}(h:Cov f d):(∀l∈f,l.sheet.end_=l.ready)->fm f=fm d:=by
 induction h with
 | nil=>intro _;rfl
 | keep l h ih=>intro E;rw[ML,ML,ih fun q F=>E q (Xbn _ F)]
 | skip l m h hm hb ih=>
   intro E;rw[ML,ih fun q F=>E q (Xbn _ F)];obtain⟨b,h1,I⟩:=aoG hm;rw[h1];have U:=E l (by simp);have J:=E m (Xbn _ (h.sub m hm));have O:=hb.1;show some (lX b l)=some b;unfold lX;rw[if_neg (by simp;omega)]
theorem Du:∀(m:Nat) (p:List Bool),rG p (m+1)=(rG p m).flatMap fun c=>[c++[false],c++[true]]
 | 0,p=>rfl
 | m+1,p=>by
   show rG (p++[false]) (m+1)++rG (p++[true]) (m+1)=(rG (p++[false]) m++rG (p++[true]) m).flatMap _;rw[Du m,Du m,Xbu]
theorem Hh(fixed:List Bool):∀k,k<=fixed.length->Mn fixed k=[fixed.take k]
 | 0,_=>rfl
 | k+1,h=>by
   show(Mn fixed k).flatMap _=_;rw[Hh fixed k (by omega)];unfold dX;rw[if_pos (by omega)];simp only[List.flatMap_cons,List.flatMap_nil,Xai,Xbc,Xbs];rw[bQ (List.getElem?_eq_getElem (by omega))];simp[List.getD,List.getElem?_eq_getElem (show k<fixed.length by omega)]
theorem acB(fixed:List Bool):∀m,Mn fixed (fixed.length+m)=rG fixed m
 | 0=>by rw[Nat.add_zero,Hh fixed _ (Xah _),Xag];rfl
 | m+1=>by
   show(Mn fixed (fixed.length+m)).flatMap _=_;rw[acB fixed m,Du];unfold dX;rw[if_neg (show ¬fixed.length.add m<fixed.length from fun e=>absurd (show fixed.length+m<fixed.length from e) (by omega))];rfl
def VM(o:Option Lab)(b:Sheet×Bool):Prop:=match o with|none=>b=(aS,false)|some m=>b=(m.sheet,true)
theorem PV{x:Instance}{r:Route}{t:VType}(U:bX x r=true)(O:x.types[r.type.toNat]?=some t)(I:∀v∈r.visits,(bA x v).1.start<=(bA x v).1.close):
   ∀(L:List (List Bool)) (o:Option Lab) (b:Sheet×Bool),(∀c∈L,c.length=r.visits.length+1)->VM o b->VM ((MG x t r L).foldl fmS o) (zO x r L b)
 | [],o,b,_,h=>h
 | c::L,o,b,hl,h=>by
   have h0:=Qa (bs:=c) U O (hl c (by simp)) I;have ih:=PV U O I L;show VM _ (zO x r L (gX x r c b));have J:=fun d V=>hl d (List.mem_cons_of_mem c V)
   unfold MG;rw[Xbc];cases F:jN x t r c 0 (fT t r)with
   | error e=>
     rw[F]at h0;have E:=Cp _ _ _ _ F;show VM ((MG x t r L).foldl fmS o) _;have:gX x r c b=b:=by
       unfold gX;rw[if_neg];rw[h0.2];simp[E]
     rw[this];exact ih o b J h
   | ok m=>
     rw[F]at h0;show VM ((MG x t r L).foldl fmS (fmS o m)) _;refine ih _ _ J ?_;unfold gX;rw[h0.1,h0.2];cases o with
     | none=>
       have h:b=(aS,false):=h;rw[h];rfl
     | some q=>
       have h:b=(q.sheet,true):=h;rw[h];show(if((0:Int) == 0&&(!true||decide (m.sheet.end_<q.sheet.end_)))=true then(m.sheet,true)else(q.sheet,true))=((lX q m).sheet,true);unfold lX;simp only[BEq.rfl,Xby,Xbm,Xbl];split <;> rfl
theorem Acc.best2{x:Instance}(h:Acc x)(r:Route):jH x r=kO x r:=by
 by_cases X:(!bX x r||decide ((r.rests.length:Int)>(r.visits.length:Int)+1))=true
 . unfold jH kO
   rw[if_pos X,if_pos (by simpa using X)]
 have aa:bX x r=true/\(r.rests.length:Int)<=(r.visits.length:Int)+1:=by simpa using X
 obtain⟨U,O⟩:=aa;have ac:∃t,x.types[r.type.toNat]?=some t:=by
   have:=rC U;exact aN (by omega)
 obtain⟨t,Z⟩:=ac;obtain⟨hB,hs⟩:=h.route U Z;have O:r.rests.length<=r.visits.length+1:=by omega
 have h2:=h.best r;have h0:=Qa (bs:=cM r) U Z (mJ O) hs;have hz:(eG x r (cM r)).2.2≠0->(eG x r (cM r)).1=aS:=by
   intro ab;cases V:jN x t r (cM r) 0 (fT t r)with
   | error e=>rw[V]at h0;exact h0.1
   | ok l=>rw[V]at h0;exact absurd h0.2 ab
 refine Prod.ext ?_ h2;rw[O0 U O hz];unfold jH;rw[if_neg X,Z];show(CR x t r).1=_;have J:rG r.rests (qN r)=Mn r.rests (r.visits.length+1):=by
   rw[<-acB];unfold qN;congr 1;omega
 have E:=PV U Z hs (rG r.rests (qN r)) none (aS,false) (fun c Y=>by
   rw[J]at Y;exact Ao _ _ c Y) rfl
 have I:=(Us hB (r.visits.length+1) (Xah _)).first fun l hl=>by
   obtain⟨c,Y,F⟩:=Xbd.1 (KZ.1 hl);obtain⟨cs,b,rfl,hm⟩:=Ln (Ao r.rests _ c Y);rw[oN]at F;cases V:jN x t r cs 0 (fT t r)with
   | error e=>rw[V]at F;cases F
   | ok l'=>
     rw[V]at F;have F:fN x t r (0+cs.length) l' b=.ok l:=F;unfold fN at F;rw[List.getElem?_eq_none (by omega)]at F;obtain⟨_,_,_,rfl⟩:=M3 F;rfl
 rw[<-J]at I;have E:VM (fm (dpL x t r (r.visits.length+1))) (zO x r (rG r.rests (qN r)) (aS,false)):=I▸E;unfold CR;rw[aeL x t r _ (Xah _)];generalize ad:dpL x t r (r.visits.length+1)=d at E;cases d with
 | nil=>
   have E:zO x r (rG r.rests (qN r)) (aS,false)=(aS,false):=E;rw[E];show FF (Ay x t (fB x r.visits) (cM r) 0 (fT t r))=aS;rw[Up x t r _ 0 _ (by rw[mJ O];omega)];have hk:F0 r.rests (cM r):=(sI (by rw[mJ O];omega)).2 ⟨_,rfl⟩;obtain⟨e,F⟩:=(Q0 hB).1 ad (cM r) (mJ O) hk;rw[F];rfl
 | cons l ls=>
   rw[Ul]at E;have E:zO x r (rG r.rests (qN r)) (aS,false)=((ls.foldl lX l).sheet,true):=E;rw[E];rfl
theorem Acc.eval{x:Instance}(h:Acc x)(r:Route):jJ x r=oG x r:=by
 unfold jJ oG;by_cases E:cC r.type x.types.length=true
 . rw[if_pos E,if_pos E]
 rw[if_neg E,if_neg E];have I:∃t,x.types[r.type.toNat]?=some t:=by
   simp only[cC,Xcd,Xaf,decide_eq_false_iff_not]at E;exact aN (by omega)
 obtain⟨t,J⟩:=I;rw[J];show _=Kj x r t;unfold Kj;rw[h.seq];by_cases F:(eI x r.visits != 0)=true
 . rw[if_pos F,if_pos F]
 rw[if_neg F,if_neg F];have O:eI x r.visits=0:=by simpa using F
 have V:=h.type t (Xac J);have es:(r.visits.any fun v=> !B1 x r v)=r.visits.any fun v=> !sD x t v:=qT fun v Y=>by
   have X:=Cf O v Y;obtain⟨o,U⟩:=aN (show v.order.toNat<x.orders.length by omega);unfold B1 sD;rw[J,U];exact congrArg _ (Xh V.skills (h.order o (Xac U)).skills)
 unfold Bw;rw[es,h.fits,h.best2];by_cases h1:(r.visits.any fun v=> !sD x t v)=true
 . rw[if_pos h1,if_pos (by simp),if_pos h1]
 rw[if_neg h1,if_neg (by simp),if_neg h1]
structure RouteL(r:Route):Prop where
 visits:r.visits.length<=1048576
 rests:r.rests.length<=1048576
end Sq
end Go.Proofs.YtohmomanmikphaaGreatDoor
