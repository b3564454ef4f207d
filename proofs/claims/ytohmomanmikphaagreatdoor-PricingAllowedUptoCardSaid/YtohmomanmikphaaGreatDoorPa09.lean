import Derived.Test.YtohmomanmikphaaGreatDoorPa08
set_option linter.unusedSimpArgs false
set_option linter.unusedVariables false
set_option maxRecDepth 100000
namespace Go.Proofs.YtohmomanmikphaaGreatDoor
open Go.Aw Go.Aw.D Go.Proofs Ty
namespace Nu
open Go.Nu
theorem JP{P:Program}{G:_}{t:TypeId}{a b:ByteArray}{k:AV->Prop}:iN P G .lss t (.v (.string a)) (.v (.string b)) k=k (.v (.bool (Op.bytesLess a.toList b.toList))):=(rfl)
attribute [go_sem ↓] JP
attribute [go_sem] JP
end Nu
namespace Nu
open Go.Proofs.Tryz(prog)
open Go.Nu
theorem aiK(l:List Nat)(h:l.length<=4611686018427387904):PC prog 151 [.sl (l.map jK)] (.sl ((mX l).map jK)):=by
 refine pcd Tryz.func151 ?_;unfold Tryz.f151;simp only[gdS];simp only[go_sem];refine⟨fun ρ _=>∃k:Nat,k<=l.length/\ρ 0=.sl (l.map jK)/\ρ 3=int k/\mX (l.take k)=mX l,fun ρ _=>aV (ρ 3),⟨l.length,Xah _,by simp only[go_sem],by simp only[go_sem,Xaa],by rw[Xag]⟩,?_⟩;rintro ρ H ⟨k,hk,h0,I,J⟩;cases k with
 | zero=>
   have O:mX l=[]:=by rw[<-J];rfl
   have Y:(IntKind.i64.wrap (((0:Nat):Int)-1)).toNat=0:=rfl;rw[O];cases l with
   | nil=>
     simp only[go_sem,h0,I,Y,Xbs,List.getD_nil,show decide (((0:Nat):Int)>0)=false from rfl];refine aB (fun E=>by cases E) (fun _=>?_);simp only[go_sem,h0,I];exact⟨⟨by omega,by omega⟩,.refl _⟩
   | cons x l=>
     simp only[go_sem,h0,I,Y,Xbc,List.getD_cons_zero,show decide (((0:Nat):Int)>0)=false from rfl];refine aB (fun E=>by cases E) (fun _=>?_);simp only[go_sem,h0,I];exact⟨⟨by omega,by omega⟩,.refl _⟩
 | succ k=>
 have V:IntKind.i64.wrap (((k+1:Nat):Int)-1)=(k:Int):=by rw[bH (by omega)];omega
 obtain⟨x,X⟩:=aN (show k<l.length by omega);have U:l.take (k+1)=l.take k++[x]:=bQ X;have Z:=inB (show k<l.length by omega);simp only[go_sem,h0,I,V,aC X,Z,show decide (((k+1:Nat):Int)>0)=true from decide_eq_true (by omega)];refine aB (fun E=>?_) (fun E=>?_)
 . have F:x=0:=by simpa using E
   simp only[go_sem,h0,I,V];refine⟨⟨k,by omega,rfl,?_⟩,?_⟩
   . rw[U,xF,if_pos F]at J;exact J
   . simp only[aE];omega
 . have F:x≠0:=by simpa using E
   simp only[go_sem,h0,I];rw[U,xF,if_neg F]at J;rw[<-List.map_take,U,J];exact⟨⟨by omega,by omega⟩,.refl _⟩
abbrev dg(n:Nat):AV:=.sl ((bO 10 n).map jK)
theorem aAF{l:List Nat}(F:Lim 10 l)(h:l.length<=4611686018427387904){n:Nat}(E:ofL 10 l=n):PC prog 151 [.sl (l.map jK)] (dg n):=by
 have:=aiK l h
 rwa [MU (by decide) F E]at this
def upN:AV->Nat
 | .v (.int _ n)=>(n+1).toNat
 | _=>0
theorem afQ(k:IntKind)(n:Int):upN (.v (.int k n))=(n+1).toNat:=(rfl)
theorem avX{k:Nat}(h:k<=4611686018427387904):IntKind.i64.wrap ((k:Int)-1-1)=(k:Int)-1-1:=bH (by omega)
def KQ(l:List UInt8):Row:=⟨5,1,l.map fun c=>[.v (.int .u8 (c.toNat:Nat))]⟩
theorem Zy(l:List UInt8):rQ (l.map fun c=>[.v (.int .u8 (c.toNat:Nat))])=some (l.map fun c=>((c.toNat:Nat):Int)):=by
 induction l with
 | nil=>rfl
 | cons c l ih=>simp only[Xbc,rQ,ih,Option.map_some]
theorem XT(l:List UInt8):bl (strOfNums (l.map fun c=>((c.toNat:Nat):Int)))=l:=by
 rw[strOfNums,kR,List.map_map]
 conv=>rhs;rw[<-List.map_id l]
 refine List.map_congr_left fun c _=>?_
 simp
theorem aiA(m:Bool)(l:List Nat)(hl:Lim 10 l)(h:l.length<=1048576):PC prog 91 [boo m,.sl (l.map jK)] (str (zed (sg m (ofL 10 l)))):=by
 have ad:=aAF hl (by omega) rfl;have U:=eV (b:=10) (by decide) (ofL 10 l);have af:(bO 10 (ofL 10 l)).length<=l.length:=lF (by decide) (oW (by decide) hl);have ae:=fF (b:=10) (by decide) (ofL 10 l);refine pcb (fun t=>t == 5||t == 32) Tryz.func91 ?_;unfold Tryz.f91;simp only[gdS];simp only[go_sem];refine PC.use ad ?_;generalize ofL 10 l=n at *;simp only[go_sem,Xaa];refine aB (fun I=>?_) (fun I=>?_)
 . have h0 : n = 0 := by
     have:(bO 10 n).length=0:=by rw[Xba]at I;omega
     exact(sU (by decide)).1 (Xcj.1 this)
   simp only[go_sem];refine cS ?_;rw[h0,Cy];unfold sg;split <;> exact(gU 0).symm
 have h0:n≠0:=fun e=>by rw[e,fJ]at I;cases I
 simp only[go_sem];refine aL fun j hj=>?_
 simp only[go_sem];refine bK (fun J H'=>∃j,J 1=dg n/\J 5=.os j/\H' j=some (KQ (if m=true then[45]else[]))) ?_ fun K hK=>aB (fun I=>?_) (fun I=>?_)
 rotate_left
 . simp only[go_sem]
   refine aZ (aA _ _ _) ⟨rfl,rfl⟩ ⟨rfl,trivial⟩ (by simp) (fun X aa=>?_);simp only[go_sem];exact hK _ _ ⟨X,by simp only[go_sem],by simp only[go_sem],by rw[aA,if_pos I];rfl⟩
 . simp only[go_sem]
   exact hK _ _ ⟨j,by simp only[go_sem],by simp only[go_sem],by rw[aA,if_neg (by rw[I];simp)];rfl⟩
 clear hj j;rintro ρ H ⟨j,h1,E,O⟩;simp only[go_sem,h1,E,Xaa];refine⟨fun ρ H=>∃(k j:Nat),k<=(bO 10 n).length/\ρ 1=dg n/\ρ 5=.os j/\ρ 6=int ((k:Int)-1)/\H j=some (KQ ((if m=true then[45]else[])++txt ((bO 10 n).drop k))),fun ρ _=>upN (ρ 6),
   ⟨(bO 10 n).length,j,Xah _,by simp only[go_sem,h1],by simp only[go_sem,E],by simp only[go_sem,h1,Xaa];rw[bH (by omega)],by rw[List.drop_length];simpa[txt]using O⟩,?_⟩
 clear h1 E O j;rintro ρ H ⟨k,j,hk,h1,E,h6,O⟩;simp only[go_sem,h1,E,h6];refine aB (fun F=>?_) (fun Z=>?_)
 . have F:0<k:=by have:=of_decide_eq_true F;omega
   obtain⟨x,hx⟩:=aN (l:=bO 10 n) (k:=k-1) (by omega);have ei:((k:Int)-1).toNat=k-1:=by omega
   have ac:x<10:=U x (Xac hx);have V:(bO 10 n).drop (k-1)=x::(bO 10 n).drop k:=by
     obtain⟨Y,e⟩:=List.getElem?_eq_some_iff.1 hx;rw[List.drop_eq_getElem_cons Y,e,show k-1+1=k by omega]
   have b1:0<=(k:Int)-1/\(k:Int)-1<((bO 10 n).length:Nat):=by omega
   simp only[go_sem,h1,E,h6,ei,aC hx,b1,Xaa];have ew:IntKind.u8.wrap (IntKind.i64.wrap (48+(x:Int)))=(((UInt8.ofNat (48+x)).toNat:Nat):Int):=by
     rw[sS ac,show IntKind.i64.wrap (48+(x:Int))=48+(x:Int)from bH (by omega),show IntKind.u8.wrap (48+(x:Int))=(48+(x:Int))%256 from rfl];omega
   rw[ew];have ab:∀(p q:List UInt8),(KQ (p++q)).es.length=p.length+q.length:=fun p q=>by simp[KQ]
   refine aZ O ⟨rfl,rfl⟩ ⟨rfl,trivial⟩ ?_ (fun X aa=>?_)
   . rw[ab]
     have h2:(if m=true then[45]else[]:List UInt8).length<=1:=by split <;> simp
     simp only[txt,List.length_reverse,Xaa,Xbw,Xad,List.length_nil];omega
   simp only[go_sem,h1,E,h6,avX (show k<=4611686018427387904 by omega)];refine⟨⟨k-1,X,by omega,rfl,?_,?_⟩,?_⟩
   . rw[show(k:Int)-1-1=((k-1:Nat):Int)-1 by omega]
   . rw[aA,V]
     simp only[KQ,txt,Xbc,List.reverse_cons,Xar,Xbs,Xaw]
   . simp only[afQ];omega
 . have F:k=0:=by have:=of_decide_eq_false Z;omega
   subst F;simp only[go_sem,E];refine Bc (by simp only[go_sem,E]) O fun Hr _ _=>?_
   simp only[go_sem,KQ,Zy];refine cS (mZ ?_);rw[XT,Xs h0];unfold sg;cases m with
   | true=>rw[if_pos rfl,if_pos rfl,CJ (by omega),kR];rfl
   | false=>rw[if_neg (by simp),if_neg (by simp),gU,oD];rfl
end Nu
namespace Nu
open Go.Nu
end Nu
namespace Nu
open Go.Proofs.Tryz(prog)
open Go.Nu
theorem X8(z:Int):z.tmod 10=if z<0 then -((z.natAbs%10:Nat):Int)else((z.natAbs%10:Nat):Int):=by
 rcases Int.lt_or_le z 0 with h|h
 . rw[if_pos h]
   obtain⟨N,rfl⟩:∃N:Nat,z= -(N:Int):=⟨z.natAbs,by omega⟩;rw[Int.neg_tmod,Int.natAbs_neg,Xbz];rfl
 . rw[if_neg (by omega)]
   conv=>lhs;rw[show z=((z.natAbs:Nat):Int)by omega]
   rfl
theorem Ih(z:Int):z.tdiv 10=if z<0 then -((z.natAbs/10:Nat):Int)else((z.natAbs/10:Nat):Int):=by
 rcases Int.lt_or_le z 0 with h|h
 . rw[if_pos h]
   obtain⟨N,rfl⟩:∃N:Nat,z= -(N:Int):=⟨z.natAbs,by omega⟩;rw[Int.neg_tdiv,Int.natAbs_neg,Xbz];rfl
 . rw[if_neg (by omega)]
   conv=>lhs;rw[show z=((z.natAbs:Nat):Int)by omega]
   rfl
def auG:AV->Nat
 | .v (.int _ z)=>z.natAbs
 | _=>0
theorem N9(k:IntKind)(z:Int):auG (.v (.int k z))=z.natAbs:=(rfl)
theorem aBn(n:Int)(h0: -9223372036854775808<=n)(h1:n<=9223372036854775807):PC prog 55 [int n] (str (zed n)):=by
 refine pcb (fun t=>t == 3) Tryz.func55 ?_;unfold Tryz.f55;simp only[gdS];simp only[go_sem];refine aL fun j hj=>?_
 simp only[go_sem];refine⟨fun ρ H=>∃(z:Int) (j:Nat) (o:List Nat),ρ 0=int z/\ρ 3=.os j/\ρ 4=boo (decide (n<0))/\H j=some (dJ o)/\Lim 10 o/\o.length+(bO 10 z.natAbs).length=(bO 10 n.natAbs).length/\(z<0->n<0)/\(0<z->0<n)/\ -9223372036854775808<=z/\z<=9223372036854775807/\ofL 10 o+10^o.length*z.natAbs=n.natAbs,fun ρ _=>auG (ρ 0),
   ⟨n,j,[],by simp only[go_sem],by simp only[go_sem],by simp only[go_sem],Fl,by simp[Lim],by simp,id,id,h0,h1,by simp[ofL]⟩,?_⟩
 have af:(bO 10 n.natAbs).length<=20:=lF (by decide) (by omega);clear hj j;rintro ρ H ⟨z,j,o,I,E,F,U,ho,ab,ae,ad,b0,b1,hv⟩;simp only[go_sem,I,E,F];refine aB (fun J=>?_) (fun J=>?_)
 . have hz:z≠0:=by simpa using J
   have Z:z.natAbs≠0:=by omega
   have em:(z.tmod 10).natAbs=z.natAbs%10:=by rw[X8];split <;> omega
   have ed:(z.tdiv 10).natAbs=z.natAbs/10:=by rw[Ih];split <;> omega
   have X:z.tdiv 10<0->z<0:=fun h=>by rw[Ih]at h;split at h <;> omega
   have aa:0<z.tdiv 10->0<z:=fun h=>by rw[Ih]at h;split at h <;> omega
   have Y:ofL 10 (o++[z.natAbs%10])+10^(o++[z.natAbs%10]).length*(z.natAbs/10)=n.natAbs:=by
     rw[<-hv,tL,Xae,Xad,List.length_nil,Xbj];have e:=Nat.mod_add_div z.natAbs 10;have e2:10^o.length*(z.natAbs%10+10*(z.natAbs/10))=10^o.length*z.natAbs:=by rw[e]
     grind
   have V:z.natAbs%10<10:=Nat.mod_lt _ (by decide);have ac:(o++[z.natAbs%10]).length+(bO 10 (z.natAbs/10)).length=(bO 10 n.natAbs).length:=by
     rw[<-ab,qL (n:=z.natAbs) (by decide) Z];simp;omega
   have ew:IntKind.i64.wrap (z.tdiv 10)=z.tdiv 10:=bH (by omega);simp only[go_sem,I,E,F];refine⟨by decide,?_⟩;refine bK (fun O H'=>O 0=int z/\O 3=.os j/\O 4=boo (decide (n<0))/\O 5=int (z.natAbs%10:Nat)/\H' j=some (dJ o)) ?_ fun K hK=>aB (fun J=>?_) (fun J=>?_)
   rotate_left
   . have J:=of_decide_eq_true J
     have e1:IntKind.i64.wrap (0-z.tmod 10)=((z.natAbs%10:Nat):Int):=by rw[bH (by omega)];omega
     simp only[go_sem,I,E,F,e1];exact hK _ _ ⟨by simp only[go_sem,I],by simp only[go_sem,E],by simp only[go_sem,F],by simp only[go_sem],U⟩
   . have J:=of_decide_eq_false J
     have e1:z.tmod 10=((z.natAbs%10:Nat):Int):=by omega
     simp only[go_sem,I,E,F];exact hK _ _ ⟨by simp only[go_sem,I],by simp only[go_sem,E],by simp only[go_sem,F],by simp only[go_sem];rw[e1],U⟩
   clear I E F U;rintro ρ H ⟨I,E,F,e5,U⟩;simp only[go_sem,I,E,F,e5];refine aZ U ⟨rfl,rfl⟩ ⟨rfl,trivial⟩ (by simp only[dJ,Xaa,Xad,List.length_nil];omega) (fun j' ag=>?_);simp only[go_sem,I,E,F,e5,ew];refine⟨by decide,⟨z.tdiv 10,j',_,rfl,rfl,wM,ho.snoc V,?_,fun h=>ae (X h),fun h=>ad (aa h),by omega,by omega,?_⟩,?_⟩
   . rw[ed];exact ac
   . rw[ed];exact Y
   . rw[N9,N9,ed];omega
 . have hz:z=0:=by simpa using J
   subst hz;simp only[go_sem,E,F];rw[show(0:Int).natAbs=0 from rfl,Nat.mul_zero,Nat.add_zero]at hv;have ht:=aiA (decide (n<0)) o ho (by omega);rw[hv,L1]at ht;refine PC.useF [j] (.cons _ _ _ _ (.refl _) (.cons _ _ _ _ (.row _ _ _ (by simp only[Xbf,if_true];exact U) (ConvE.refl _)) .nil)) ht ?_;simp only[go_sem];exact .refl _
theorem Ez(n:Int)(h0: -9223372036854775808<=n)(h1:n<=9223372036854775807):PC prog 23 [int n] (str (zed n)):=by
 refine pcd Tryz.func23 ?_;unfold Tryz.f23;simp only[gdS];simp only[go_sem];refine PC.use (aBn n h0 h1) ?_;simp only[go_sem];exact .refl _
theorem akW{α:Type}{l:List α}{k:Nat}{x:α}(h:l[k]?=some x):l.drop k=x::l.drop (k+1):=by
 obtain⟨E,e⟩:=List.getElem?_eq_some_iff.1 h;rw[List.drop_eq_getElem_cons E,e]
theorem ZQ(ns:List Int)(xs:List ByteArray)(hn:∀n∈ns,-9223372036854775808<=n/\n<=9223372036854775807)(hl:xs.length<=1048576)(hs:∀s∈xs,s.size<=1048576):
   PC prog 97 [.sl (ns.map bW),.sl (xs.map Go.Aw.D.gR)] (.tup [str (tD ns xs).1,int (tD ns xs).2]):=by
 refine pcd Tryz.func97 ?_;unfold Tryz.f97;simp only[gdS];simp only[go_sem];refine aB (fun ab=>?_) (fun ad=>?_)
 . have ab:ns.length≠xs.length:=neN ab
   simp only[go_sem];rw[show tD ns xs=(emp,2)from if_pos ab];exact .refl _
 have ad:ns.length=xs.length:=eqN ad;have e0:tD ns xs=if xs.any (fun x=> !dI x)=true then(emp,3)else yS (ns.zip xs) (dec 0):=if_neg (by simp[ad])
 rw[e0];simp only[go_sem,Xaa];refine⟨fun ρ H=>∃(k:Nat),k<=xs.length/\ρ 0=.sl (ns.map bW)/\ρ 1=.sl (xs.map Go.Aw.D.gR)/\ρ 18=.sl (xs.map Go.Aw.D.gR)/\ρ 19=int xs.length/\ρ 20=int k/\∀s∈xs.take k,dI s=true,fun ρ _=>xs.length-aV (ρ 20),
   ⟨0,Xab _,by simp only[go_sem],by simp only[go_sem],by simp only[go_sem],by simp only[go_sem,Xaa],by simp only[go_sem];rfl,by simp⟩,?_⟩
 rintro ρ H ⟨k,hk,h0,h1,aa,Z,Y,hz⟩;simp only[go_sem,h0,h1,aa,Z,Y];refine aB (fun E=>?_) (fun O=>?_)
 . have E:=ltB E
   obtain⟨s,F⟩:=aN E;have b1:=inB E;simp only[go_sem,h0,h1,aa,Z,Y,aC F,b1];refine PC.use (Au s (hs s (Xac F))) ?_;simp only[go_sem,h0,h1,aa,Z,Y];refine aB (fun X=>?_) (fun X=>?_)
   . simp only[go_sem]
     rw[if_pos (MN F X)];exact .refl _
   . simp only[go_sem,h0,h1,aa,Z,Y,aT (show k<=4611686018427387904 by omega)]
     exact⟨⟨k+1,E,rfl,sW F (by simpa using X) hz⟩,by simp only[aE];omega⟩
 have O:=geB hk O;subst O;rw[Xag]at hz;have hR:xs.any (fun s=> !dI s)=false:=GZ fun s hs=>by rw[hz s hs];rfl
 rw[hR];simp only[go_sem,h0,h1,Xaa];refine⟨fun ρ H=>∃(k:Nat) (t:ByteArray),k<=xs.length/\ρ 0=.sl (ns.map bW)/\ρ 28=.sl (xs.map Go.Aw.D.gR)/\ρ 29=int xs.length/\ρ 8=str t/\ρ 30=int k/\t.size<=1048576/\yS (ns.zip xs) (dec 0)=yS ((ns.zip xs).drop k) t,fun ρ _=>xs.length-aV (ρ 30),
   ⟨0,dec 0,Xab _,by simp only[go_sem,h0],by simp only[go_sem],by simp only[go_sem,Xaa],by simp only[go_sem];rw[Cy],by simp only[go_sem];rfl,by rw[<-Cy];decide,rfl⟩,?_⟩
 clear h0 h1 aa Z Y;rintro ρ H ⟨k,t,hk,h0,V,U,h8,J,ht,ae⟩;rw[ae];have ak:(ns.zip xs).length=xs.length:=by rw[List.length_zip];omega
 simp only[go_sem,h0,V,U,h8,J];refine aB (fun E=>?_) (fun O=>?_)
 . have E:=ltB E
   obtain⟨s,F⟩:=aN E;obtain⟨n,ac⟩:=aN (l:=ns) (k:=k) (by omega);have b1:=inB E;have b2:=inB (show k<ns.length by omega);have ah:=hs s (Xac F);have af:=hn n (Xac ac);have ai:(ns.zip xs)[k]?=some (n,s):=by rw[List.getElem?_zip_eq_some];exact⟨ac,F⟩
   have ag:n.natAbs<dZ:=SS (k:=20) (by omega) (by decide);have aj:=Go.Nu.iQ ag;rw[akW ai,yS];simp only[go_sem,h0,V,U,h8,J,aC F,aC ac,b1,b2];refine PC.use (C0 n af.1 af.2) ?_;simp only[go_sem,h0,V,U,h8,J];refine PC.use (aqC (zed n) s (by omega) ah) ?_;simp only[go_sem,h0,V,U,h8,J];refine aB (fun X=>?_) (fun X=>?_)
   . have X:(BU (zed n) s).2≠0:=by simpa using X
     simp only[go_sem];rw[if_pos X];exact .refl _
   have X:(BU (zed n) s).2=0:=by simpa using X
   have hm:=vH (Qy X);rw[if_neg (by simp[X])];generalize (BU (zed n) s).1=m at *;simp only[go_sem,h0,V,U,h8,J];refine PC.use (Aa t m ht (by omega)) ?_;simp only[go_sem,h0,V,U,h8,J];refine aB (fun I=>?_) (fun I=>?_)
   . have I:(BZ t m).2≠0:=by simpa using I
     simp only[go_sem];rw[if_pos I];exact .refl _
   have I:(BZ t m).2=0:=by simpa using I
   have ha:=vH (Ge I);rw[if_neg (by simp[I])];simp only[go_sem,h0,V,U,h8,J,aT (show k<=4611686018427387904 by omega)];exact⟨⟨k+1,_,E,rfl,rfl,by omega,rfl⟩,by simp only[aE];omega⟩
 . have O:=geB hk O
   subst O;rw[List.drop_of_length_le (by omega)];simp only[go_sem,h8];exact .refl _
end Nu
namespace Nu
open Go.Nu
end Nu
end Go.Proofs.YtohmomanmikphaaGreatDoor
