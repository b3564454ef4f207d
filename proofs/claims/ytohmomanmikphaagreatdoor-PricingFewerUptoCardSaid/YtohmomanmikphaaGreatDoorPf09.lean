import Derived.Test.YtohmomanmikphaaGreatDoorPf08
set_option linter.unusedSimpArgs false
set_option linter.unusedVariables false
set_option maxRecDepth 100000
section
namespace Go.Proofs.YtohmomanmikphaaGreatDoor.Nu
open Go.Aw Go.Aw.D Go.Proofs Ty Go.Nu
theorem G4{P:Program}{G:_}{t:TypeId}{a b:ByteArray}{k:AV->Prop}:fP P G .lss t (.v (.string a)) (.v (.string b)) k=k (.v (.bool (Op.bytesLess a.toList b.toList))):=(rfl)
attribute [go_sem ↓] G4
attribute [go_sem] G4
end Go.Proofs.YtohmomanmikphaaGreatDoor.Nu
end
section
namespace Go.Proofs.YtohmomanmikphaaGreatDoor.Nu
open Go.Proofs.Tryz(prog)
open Go.Aw Go.Aw.D Go.Proofs Ty Go.Nu
theorem Yw(l:List Nat)(h:l.length<=4611686018427387904):PC prog 151 [.sl (l.map gS)] (.sl ((kP l).map gS)):=by
 refine pcd Tryz.func151 ?_;unfold Tryz.f151;simp only[gdS];simp only[go_sem];refine⟨fun ρ _=>∃k:Nat,k<=l.length/\ρ 0=.sl (l.map gS)/\ρ 3=int k/\kP (l.take k)=kP l,fun ρ _=>aV (ρ 3),⟨l.length,Xaf _,by simp only[go_sem],by simp only[go_sem,Xaa],by rw[Xag]⟩,?_⟩;rintro ρ H ⟨k,hk,h0,u,I⟩;cases k with
 | zero=>
   have M:kP l=[]:=by rw[<-I];rfl
   have Z:(IntKind.i64.wrap (((0:Nat):Int)-1)).toNat=0:=rfl;rw[M];cases l with
   | nil=>
     simp only[go_sem,h0,u,Z,Xbc,List.getD_nil,show decide (((0:Nat):Int)>0)=false from rfl];refine aB (fun E=>by cases E) (fun _=>?_);simp only[go_sem,h0,u];exact⟨⟨by omega,by omega⟩,.refl _⟩
   | cons x l=>
     simp only[go_sem,h0,u,Z,Xar,List.getD_cons_zero,show decide (((0:Nat):Int)>0)=false from rfl];refine aB (fun E=>by cases E) (fun _=>?_);simp only[go_sem,h0,u];exact⟨⟨by omega,by omega⟩,.refl _⟩
 | succ k=>
 have O:IntKind.i64.wrap (((k+1:Nat):Int)-1)=(k:Int):=by rw[bA (by omega)];omega
 obtain⟨x,T⟩:=aN (show k<l.length by omega);have J:l.take (k+1)=l.take k++[x]:=bQ T;have b2:=inB (show k<l.length by omega);simp only[go_sem,h0,u,O,aE T,b2,show decide (((k+1:Nat):Int)>0)=true from decide_eq_true (by omega)];refine aB (fun E=>?_) (fun E=>?_)
 . have F:x=0:=by simpa using E
   simp only[go_sem,h0,u,O];refine⟨⟨k,by omega,rfl,?_⟩,?_⟩
   . rw[J,sK,if_pos F]at I;exact I
   . simp only[aF];omega
 . have F:x≠0:=by simpa using E
   simp only[go_sem,h0,u];rw[J,sK,if_neg F]at I;rw[<-List.map_take,J,I];exact⟨⟨by omega,by omega⟩,.refl _⟩
abbrev dg(n:Nat):AV:=.sl ((bI 10 n).map gS)
theorem arK{l:List Nat}(E:Lim 10 l)(h:l.length<=4611686018427387904){n:Nat}(u:ofL 10 l=n):PC prog 151 [.sl (l.map gS)] (dg n):=by
 have:=Yw l h
 rwa [ID (by decide) E u]at this
def upN:AV->Nat
 | .v (.int _ n)=>(n+1).toNat
 | _=>0
theorem ZD(k:IntKind)(n:Int):upN (.v (.int k n))=(n+1).toNat:=(rfl)
theorem agL{k:Nat}(h:k<=4611686018427387904):IntKind.i64.wrap ((k:Int)-1-1)=(k:Int)-1-1:=bA (by omega)
def FT(l:List UInt8):Row:=⟨5,1,l.map fun c=>[.v (.int .u8 (c.toNat:Nat))]⟩
theorem VK(l:List UInt8):oI (l.map fun c=>[.v (.int .u8 (c.toNat:Nat))])=some (l.map fun c=>((c.toNat:Nat):Int)):=by
 induction l with
 | nil=>rfl
 | cons c l ih=>simp only[Xar,oI,ih,Option.map_some]
theorem Q4(l:List UInt8):bl (strOfNums (l.map fun c=>((c.toNat:Nat):Int)))=l:=by
 rw[strOfNums,iW,List.map_map]
 conv=>rhs;rw[<-List.map_id l]
 refine List.map_congr_left fun c _=>?_
 simp
theorem Zl(m:Bool)(l:List Nat)(hl:Lim 10 l)(h:l.length<=1048576):PC prog 91 [boo m,.sl (l.map gS)] (str (zed (sg m (ofL 10 l)))):=by
 have aa:=arK hl (by omega) rfl;have M:=dP (b:=10) (by decide) (ofL 10 l);have af:(bI 10 (ofL 10 l)).length<=l.length:=iZ (by decide) (mE (by decide) hl);have ae:=dU (b:=10) (by decide) (ofL 10 l);refine pcb (fun t=>t == 5||t == 32) Tryz.func91 ?_;unfold Tryz.f91;simp only[gdS];simp only[go_sem];refine PC.use aa ?_;generalize ofL 10 l=n at *;simp only[go_sem,Xaa];refine aB (fun F=>?_) (fun F=>?_)
 . have h0 : n = 0 := by
     have:(bI 10 n).length=0:=by rw[beq_iff_eq]at F;omega
     exact(oY (by decide)).1 (Xaq.1 this)
   simp only[go_sem];refine cS ?_;rw[h0,A6];unfold sg;split <;> exact(fD 0).symm
 have h0:n≠0:=fun e=>by rw[e,dW]at F;cases F
 simp only[go_sem];refine aM fun j hj=>?_
 simp only[go_sem];refine bM (fun J H'=>∃j,J 1=dg n/\J 5=.os j/\H' j=some (FT (if m=true then[45]else[]))) ?_ fun K hK=>aB (fun F=>?_) (fun F=>?_)
 rotate_left
 . simp only[go_sem]
   refine bE (aA _ _ _) ⟨rfl,rfl⟩ ⟨rfl,trivial⟩ (by simp) (fun j' O=>?_);simp only[go_sem];exact hK _ _ ⟨j',by simp only[go_sem],by simp only[go_sem],by rw[aA,if_pos F];rfl⟩
 . simp only[go_sem]
   exact hK _ _ ⟨j,by simp only[go_sem],by simp only[go_sem],by rw[aA,if_neg (by rw[F];simp)];rfl⟩
 clear hj j;rintro ρ H ⟨j,h1,u,I⟩;simp only[go_sem,h1,u,Xaa];refine⟨fun ρ H=>∃(k j:Nat),k<=(bI 10 n).length/\ρ 1=dg n/\ρ 5=.os j/\ρ 6=int ((k:Int)-1)/\H j=some (FT ((if m=true then[45]else[])++txt ((bI 10 n).drop k))),fun ρ _=>upN (ρ 6),
   ⟨(bI 10 n).length,j,Xaf _,by simp only[go_sem,h1],by simp only[go_sem,u],by simp only[go_sem,h1,Xaa];rw[bA (by omega)],by rw[Xbw];simpa[txt]using I⟩,?_⟩
 clear h1 u I j;rintro ρ H ⟨k,j,hk,h1,u,h6,I⟩;simp only[go_sem,h1,u,h6];refine aB (fun E=>?_) (fun ab=>?_)
 . have E:0<k:=by have:=of_decide_eq_true E;omega
   obtain⟨x,hx⟩:=aN (l:=bI 10 n) (k:=k-1) (by omega);have ei:((k:Int)-1).toNat=k-1:=by omega
   have ac:x<10:=M x (Xae hx);have ad:(bI 10 n).drop (k-1)=x::(bI 10 n).drop k:=by
     obtain⟨Z,e⟩:=List.getElem?_eq_some_iff.1 hx;rw[List.drop_eq_getElem_cons Z,e,show k-1+1=k by omega]
   have b1:0<=(k:Int)-1/\(k:Int)-1<((bI 10 n).length:Nat):=by omega
   simp only[go_sem,h1,u,h6,ei,aE hx,b1,Xaa];have ew:IntKind.u8.wrap (IntKind.i64.wrap (48+(x:Int)))=(((UInt8.ofNat (48+x)).toNat:Nat):Int):=by
     rw[pG ac,show IntKind.i64.wrap (48+(x:Int))=48+(x:Int)from bA (by omega),show IntKind.u8.wrap (48+(x:Int))=(48+(x:Int))%256 from rfl];omega
   rw[ew];have T:∀(p q:List UInt8),(FT (p++q)).es.length=p.length+q.length:=fun p q=>by simp[FT]
   refine bE I ⟨rfl,rfl⟩ ⟨rfl,trivial⟩ ?_ (fun j' O=>?_)
   . rw[T]
     have h2:(if m=true then[45]else[]:List UInt8).length<=1:=by split <;> simp
     simp only[txt,List.length_reverse,Xaa,List.length_drop,Xad,List.length_nil];omega
   simp only[go_sem,h1,u,h6,agL (show k<=4611686018427387904 by omega)];refine⟨⟨k-1,j',by omega,rfl,?_,?_⟩,?_⟩
   . rw[show(k:Int)-1-1=((k-1:Nat):Int)-1 by omega]
   . rw[aA,ad]
     simp only[FT,txt,Xar,List.reverse_cons,Xam,Xbc,Xai]
   . simp only[ZD];omega
 . have E:k=0:=by have:=of_decide_eq_false ab;omega
   subst E;simp only[go_sem,u];refine Bm (by simp only[go_sem,u]) I fun Hr _ _=>?_
   simp only[go_sem,FT,VK];refine cS (kV ?_);rw[Q4,Tb h0];unfold sg;cases m with
   | true=>rw[if_pos rfl,if_pos rfl,As (by omega),iW];rfl
   | false=>rw[if_neg (by simp),if_neg (by simp),fD,lI];rfl
end Go.Proofs.YtohmomanmikphaaGreatDoor.Nu
end
section
namespace Go.Proofs.YtohmomanmikphaaGreatDoor.Nu
open Go.Aw Go.Aw.D Go.Proofs Ty Go.Nu
end Go.Proofs.YtohmomanmikphaaGreatDoor.Nu
end
section
namespace Go.Proofs.YtohmomanmikphaaGreatDoor.Nu
open Go.Proofs.Tryz(prog)
open Go.Aw Go.Aw.D Go.Proofs Ty Go.Nu
theorem VW(z:Int):z.tmod 10=if z<0 then -((z.natAbs%10:Nat):Int)else((z.natAbs%10:Nat):Int):=by
 rcases Int.lt_or_le z 0 with h|h
 . rw[if_pos h]
   obtain⟨N,rfl⟩:∃N:Nat,z= -(N:Int):=⟨z.natAbs,by omega⟩;rw[Int.neg_tmod,Int.natAbs_neg,Xbh];rfl
 . rw[if_neg (by omega)]
   conv=>lhs;rw[show z=((z.natAbs:Nat):Int)by omega]
   rfl
theorem Ds(z:Int):z.tdiv 10=if z<0 then -((z.natAbs/10:Nat):Int)else((z.natAbs/10:Nat):Int):=by
 rcases Int.lt_or_le z 0 with h|h
 . rw[if_pos h]
   obtain⟨N,rfl⟩:∃N:Nat,z= -(N:Int):=⟨z.natAbs,by omega⟩;rw[Int.neg_tdiv,Int.natAbs_neg,Xbh];rfl
 . rw[if_neg (by omega)]
   conv=>lhs;rw[show z=((z.natAbs:Nat):Int)by omega]
   rfl
def alX:AV->Nat
 | .v (.int _ z)=>z.natAbs
 | _=>0
theorem Mk(k:IntKind)(z:Int):alX (.v (.int k z))=z.natAbs:=(rfl)
theorem agA(n:Int)(h0: -9223372036854775808<=n)(h1:n<=9223372036854775807):PC prog 55 [int n] (str (zed n)):=by
 refine pcb (fun t=>t == 3) Tryz.func55 ?_;unfold Tryz.f55;simp only[gdS];simp only[go_sem];refine aM fun j hj=>?_
 simp only[go_sem];refine⟨fun ρ H=>∃(z:Int) (j:Nat) (o:List Nat),ρ 0=int z/\ρ 3=.os j/\ρ 4=boo (decide (n<0))/\H j=some (cH o)/\Lim 10 o/\o.length+(bI 10 z.natAbs).length=(bI 10 n.natAbs).length/\(z<0->n<0)/\(0<z->0<n)/\ -9223372036854775808<=z/\z<=9223372036854775807/\ofL 10 o+10^o.length*z.natAbs=n.natAbs,fun ρ _=>alX (ρ 0),
   ⟨n,j,[],by simp only[go_sem],by simp only[go_sem],by simp only[go_sem],Dj,by simp[Lim],by simp,id,id,h0,h1,by simp[ofL]⟩,?_⟩
 have ah:(bI 10 n.natAbs).length<=20:=iZ (by decide) (by omega);clear hj j;rintro ρ H ⟨z,j,o,F,E,u,M,ho,af,ab,Z,b0,b1,hv⟩;simp only[go_sem,F,E,u];refine aB (fun J=>?_) (fun J=>?_)
 . have hz:z≠0:=by simpa using J
   have ac:z.natAbs≠0:=by omega
   have em:(z.tmod 10).natAbs=z.natAbs%10:=by rw[VW];split <;> omega
   have ed:(z.tdiv 10).natAbs=z.natAbs/10:=by rw[Ds];split <;> omega
   have ad:z.tdiv 10<0->z<0:=fun h=>by rw[Ds]at h;split at h <;> omega
   have ae:0<z.tdiv 10->0<z:=fun h=>by rw[Ds]at h;split at h <;> omega
   have aa:ofL 10 (o++[z.natAbs%10])+10^(o++[z.natAbs%10]).length*(z.natAbs/10)=n.natAbs:=by
     rw[<-hv,pP,Xab,Xad,List.length_nil,Nat.pow_succ];have e:=Nat.mod_add_div z.natAbs 10;have e2:10^o.length*(z.natAbs%10+10*(z.natAbs/10))=10^o.length*z.natAbs:=by rw[e]
     grind
   have O:z.natAbs%10<10:=Nat.mod_lt _ (by decide);have T:(o++[z.natAbs%10]).length+(bI 10 (z.natAbs/10)).length=(bI 10 n.natAbs).length:=by
     rw[<-af,nN (n:=z.natAbs) (by decide) ac];simp;omega
   have ew:IntKind.i64.wrap (z.tdiv 10)=z.tdiv 10:=bA (by omega);simp only[go_sem,F,E,u];refine⟨by decide,?_⟩;refine bM (fun I H'=>I 0=int z/\I 3=.os j/\I 4=boo (decide (n<0))/\I 5=int (z.natAbs%10:Nat)/\H' j=some (cH o)) ?_ fun K hK=>aB (fun J=>?_) (fun J=>?_)
   rotate_left
   . have J:=of_decide_eq_true J
     have e1:IntKind.i64.wrap (0-z.tmod 10)=((z.natAbs%10:Nat):Int):=by rw[bA (by omega)];omega
     simp only[go_sem,F,E,u,e1];exact hK _ _ ⟨by simp only[go_sem,F],by simp only[go_sem,E],by simp only[go_sem,u],by simp only[go_sem],M⟩
   . have J:=of_decide_eq_false J
     have e1:z.tmod 10=((z.natAbs%10:Nat):Int):=by omega
     simp only[go_sem,F,E,u];exact hK _ _ ⟨by simp only[go_sem,F],by simp only[go_sem,E],by simp only[go_sem,u],by simp only[go_sem];rw[e1],M⟩
   clear F E u M;rintro ρ H ⟨F,E,u,e5,M⟩;simp only[go_sem,F,E,u,e5];refine bE M ⟨rfl,rfl⟩ ⟨rfl,trivial⟩ (by simp only[cH,Xaa,Xad,List.length_nil];omega) (fun j' ag=>?_);simp only[go_sem,F,E,u,e5,ew];refine⟨by decide,⟨z.tdiv 10,j',_,rfl,rfl,sV,ho.snoc O,?_,fun h=>ab (ad h),fun h=>Z (ae h),by omega,by omega,?_⟩,?_⟩
   . rw[ed];exact T
   . rw[ed];exact aa
   . rw[Mk,Mk,ed];omega
 . have hz:z=0:=by simpa using J
   subst hz;simp only[go_sem,E,u];rw[show(0:Int).natAbs=0 from rfl,Nat.mul_zero,Nat.add_zero]at hv;have ht:=Zl (decide (n<0)) o ho (by omega);rw[hv,Io]at ht;refine PC.useF [j] (.cons _ _ _ _ (.refl _) (.cons _ _ _ _ (.row _ _ _ (by simp only[Xat,if_true];exact M) (ConvE.refl _)) .nil)) ht ?_;simp only[go_sem];exact .refl _
theorem abS(n:Int)(h0: -9223372036854775808<=n)(h1:n<=9223372036854775807):PC prog 23 [int n] (str (zed n)):=by
 refine pcd Tryz.func23 ?_;unfold Tryz.f23;simp only[gdS];simp only[go_sem];refine PC.use (agA n h0 h1) ?_;simp only[go_sem];exact .refl _
theorem xH{α:Type}{l:List α}{k:Nat}{x:α}(h:l[k]?=some x):l.drop k=x::l.drop (k+1):=by
 obtain⟨u,e⟩:=List.getElem?_eq_some_iff.1 h;rw[List.drop_eq_getElem_cons u,e]
theorem Vq(ns:List Int)(xs:List ByteArray)(hn:∀n∈ns,-9223372036854775808<=n/\n<=9223372036854775807)(hl:xs.length<=1048576)(hs:∀s∈xs,s.size<=1048576):
   PC prog 97 [.sl (ns.map bN),.sl (xs.map Go.Aw.D.fJ)] (.tup [str (pL ns xs).1,int (pL ns xs).2]):=by
 refine pcd Tryz.func97 ?_;unfold Tryz.f97;simp only[gdS];simp only[go_sem];refine aB (fun ae=>?_) (fun ac=>?_)
 . have ae:ns.length≠xs.length:=neN ae
   simp only[go_sem];rw[show pL ns xs=(emp,2)from if_pos ae];exact .refl _
 have ac:ns.length=xs.length:=eqN ac;have e0:pL ns xs=if xs.any (fun x=> !cG x)=true then(emp,3)else uA (ns.zip xs) (dec 0):=if_neg (by simp[ac])
 rw[e0];simp only[go_sem,Xaa];refine⟨fun ρ H=>∃(k:Nat),k<=xs.length/\ρ 0=.sl (ns.map bN)/\ρ 1=.sl (xs.map Go.Aw.D.fJ)/\ρ 18=.sl (xs.map Go.Aw.D.fJ)/\ρ 19=int xs.length/\ρ 20=int k/\∀s∈xs.take k,cG s=true,fun ρ _=>xs.length-aV (ρ 20),
   ⟨0,Xac _,by simp only[go_sem],by simp only[go_sem],by simp only[go_sem],by simp only[go_sem,Xaa],by simp only[go_sem];rfl,by simp⟩,?_⟩
 rintro ρ H ⟨k,hk,h0,h1,Z,aa,ab,hz⟩;simp only[go_sem,h0,h1,Z,aa,ab];refine aB (fun u=>?_) (fun M=>?_)
 . have u:=ltB u
   obtain⟨s,E⟩:=aN u;have b1:=inB u;simp only[go_sem,h0,h1,Z,aa,ab,aE E,b1];refine PC.use (xB s (hs s (Xae E))) ?_;simp only[go_sem,h0,h1,Z,aa,ab];refine aB (fun T=>?_) (fun T=>?_)
   . simp only[go_sem]
     rw[if_pos (Dk E T)];exact .refl _
   . simp only[go_sem,h0,h1,Z,aa,ab,aP (show k<=4611686018427387904 by omega)]
     exact⟨⟨k+1,u,rfl,kK E (by simpa using T) hz⟩,by simp only[aF];omega⟩
 have M:=geB hk M;subst M;rw[Xag]at hz;have hR:xs.any (fun s=> !cG s)=false:=Au fun s hs=>by rw[hz s hs];rfl
 rw[hR];simp only[go_sem,h0,h1,Xaa];refine⟨fun ρ H=>∃(k:Nat) (t:ByteArray),k<=xs.length/\ρ 0=.sl (ns.map bN)/\ρ 28=.sl (xs.map Go.Aw.D.fJ)/\ρ 29=int xs.length/\ρ 8=str t/\ρ 30=int k/\t.size<=1048576/\uA (ns.zip xs) (dec 0)=uA ((ns.zip xs).drop k) t,fun ρ _=>xs.length-aV (ρ 30),
   ⟨0,dec 0,Xac _,by simp only[go_sem,h0],by simp only[go_sem],by simp only[go_sem,Xaa],by simp only[go_sem];rw[A6],by simp only[go_sem];rfl,by rw[<-A6];decide,rfl⟩,?_⟩
 clear h0 h1 Z aa ab;rintro ρ H ⟨k,t,hk,h0,O,J,h8,I,ht,af⟩;rw[af];have al:(ns.zip xs).length=xs.length:=by rw[List.length_zip];omega
 simp only[go_sem,h0,O,J,h8,I];refine aB (fun u=>?_) (fun M=>?_)
 . have u:=ltB u
   obtain⟨s,E⟩:=aN u;obtain⟨n,ad⟩:=aN (l:=ns) (k:=k) (by omega);have b1:=inB u;have b2:=inB (show k<ns.length by omega);have ai:=hs s (Xae E);have ag:=hn n (Xae ad);have aj:(ns.zip xs)[k]?=some (n,s):=by rw[List.getElem?_zip_eq_some];exact⟨ad,E⟩
   have ah:n.natAbs<dB:=Pc (k:=20) (by omega) (by decide);have ak:=Go.Nu.gH ah;rw[xH aj,uA];simp only[go_sem,h0,O,J,h8,I,aE E,aE ad,b1,b2];refine PC.use (Am n ag.1 ag.2) ?_;simp only[go_sem,h0,O,J,h8,I];refine PC.use (adT (zed n) s (by omega) ai) ?_;simp only[go_sem,h0,O,J,h8,I];refine aB (fun T=>?_) (fun T=>?_)
   . have T:(yV (zed n) s).2≠0:=by simpa using T
     simp only[go_sem];rw[if_pos T];exact .refl _
   have T:(yV (zed n) s).2=0:=by simpa using T
   have hm:=qS (MZ T);rw[if_neg (by simp[T])];generalize (yV (zed n) s).1=m at *;simp only[go_sem,h0,O,J,h8,I];refine PC.use (wN t m ht (by omega)) ?_;simp only[go_sem,h0,O,J,h8,I];refine aB (fun F=>?_) (fun F=>?_)
   . have F:(zJ t m).2≠0:=by simpa using F
     simp only[go_sem];rw[if_pos F];exact .refl _
   have F:(zJ t m).2=0:=by simpa using F
   have ha:=qS (ET F);rw[if_neg (by simp[F])];simp only[go_sem,h0,O,J,h8,I,aP (show k<=4611686018427387904 by omega)];exact⟨⟨k+1,_,u,rfl,rfl,by omega,rfl⟩,by simp only[aF];omega⟩
 . have M:=geB hk M
   subst M;rw[List.drop_of_length_le (by omega)];simp only[go_sem,h8];exact .refl _
end Go.Proofs.YtohmomanmikphaaGreatDoor.Nu
end
section
namespace Go.Proofs.YtohmomanmikphaaGreatDoor.Nu
open Go.Aw Go.Aw.D Go.Proofs Ty Go.Nu
end Go.Proofs.YtohmomanmikphaaGreatDoor.Nu
end
