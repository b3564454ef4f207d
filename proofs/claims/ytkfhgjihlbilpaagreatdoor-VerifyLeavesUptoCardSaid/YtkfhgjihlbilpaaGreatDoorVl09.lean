import Derived.Test.YtkfhgjihlbilpaaGreatDoorVl08
set_option linter.unusedSimpArgs false
set_option linter.unusedVariables false
set_option linter.defProp false
set_option maxRecDepth 100000
namespace Go.Proofs.YtkfhgjihlbilpaaGreatDoor
open Go.Aw Go.Aw.D Go.Proofs Ty
namespace Sq
open Go.Proofs.Tryz
open Mv (bS bU aS)
open Mv (bS bU aS)
def onS(i n:Int)(s:Bool×Bool)(kv:Nat×Visit):Bool×Bool:=
 if(kv.2.order != i)=true then s else(if decide ((kv.1:Int)<n)=true then !kv.2.drop else s.1,true)
def aBL(l:List Visit)(i n:Int)(b:Bool):Bool×Bool:=((List.range l.length).map fun k=>(k,l.getD k ⟨0,false⟩)).foldl (onS i n) (b,false)
def EW(l:List Visit)(i n:Int)(b:Bool)(k:Nat):Bool×Bool:=((List.range k).map fun k=>(k,l.getD k ⟨0,false⟩)).foldl (onS i n) (b,false)
def Ov{l:List Visit}{i n:Int}{b:Bool}{k:Nat}{v:Visit}(h:l[k]?=some v):EW l i n b (k+1)=onS i n (EW l i n b k) (k,v):=by grind[EW,Xas]
def onB(l:List Visit)(n:Int)(i:Nat)(o:Order):Bool:=(aBL l i n (decide (o.pick.place<0))).1&&(aBL l i n (decide (o.pick.place<0))).2
def kZ(os:List Order)(l:List Visit)(n:Int)(k:Nat):List (List Int):=(List.range k).flatMap fun i=>match os[i]? with|some o=>if onB l n i o=true then[o.load]else[]|none=>[]
def BE{os:List Order}{l:List Visit}{n:Int}{k:Nat}{o:Order}(h:os[k]?=some o):kZ os l n (k+1)=kZ os l n k++(if onB l n k o=true then[o.load]else[]):=by grind[kZ,Xas]
def It(os:List Order)(l:List Visit)(n:Int)(k:Nat):(kZ os l n k).length<=k:=by
 induction k with
 | zero=>simp[kZ]
 | succ k ih=>
  have:(kZ os l n (k+1)).length<=(kZ os l n k).length+1:=by unfold kZ;rw[Xas,List.flatMap_append,Xar];simp_all;grind
  omega
def qL(x:Instance)(l:List Visit)(n:Int):List Int×Int:=xK (kZ x.y5 l n x.y5.length) (gM x)
abbrev OD(ll:List (List Int)):Row:=⟨48,1,ll.map fO⟩
def aeN(x:Instance)(l:List Visit)(n:Int)(ho:x.y5.length<=1048576)(hl:l.length<=1048576):
  PC prog 375 [.agg (aD x),.sl (l.map aN),int n] (.tup [.sl ((qL x l n).1.map aP),int (qL x l n).2]):=by
 refine pcb (fun t=>t == 8) func375 rfl rfl ?_;simp only[go_sem];refine aH fun j Z=>?_
 simp only[go_sem];refine⟨fun ρ H=>∃i:Nat,i<=x.y5.length/\ρ 1=.sl (l.map aN)/\ρ 2=int n/\ρ 3=.rp (aD x) 0/\ρ 9=int i/\∃j,ρ 8=.os j/\H j=some (OD (kZ x.y5 l n i)),fun ρ _=>x.y5.length-aT (ρ 9),⟨0,Xaa _,rfl,rfl,rfl,rfl,j,rfl,aB _ _ _⟩,?_⟩;rintro ρ H ⟨i,hi,h1,T,I,F,j,O,Z⟩;simp only[go_sem,I,F];refine aA (fun Y=>?_) (fun ab=>?_)
 ·have Y:=aX Y;obtain⟨o,ae⟩:=aK Y;have b1:=inB Y;simp only[go_sem,I,F,aC ae,b1];refine⟨fun ρ H=>∃k:Nat,k<=l.length/\ρ 1=.sl (l.map aN)/\ρ 2=int n/\ρ 3=.rp (aD x) 0/\ρ 8=.os j/\ρ 9=int i/\ρ 10=boo (EW l i n (decide (o.pick.place<0)) k).1/\ρ 11=boo (EW l i n (decide (o.pick.place<0)) k).2/\ρ 12=int k/\H j=some (OD (kZ x.y5 l n i)),fun ρ _=>l.length-aT (ρ 12),⟨0,Xaa _,h1,T,I,O,F,by rfl,by rfl,by rfl,Z⟩,?_⟩;rintro ρ H ⟨k,hk,h1,T,I,O,F,J,X,E,Z⟩;simp only[go_sem,h1,E];refine aA (fun U=>?_) (fun aa=>?_)
  ·have U:=aX U;obtain⟨v,hv⟩:=aK U;have b2:=inB U;have ai:=Ov (i:=i) (n:=n) (b:=decide (o.pick.place<0)) hv;simp only[go_sem,h1,F,E,aC hv,b2];apply aA <;> intro hb
   ·simp only[go_sem,h1,T,I,O,F,J,X,E,aQ k];have e:EW l i n (decide (o.pick.place<0)) (k+1)=EW l i n (decide (o.pick.place<0)) k:=by simp_all[onS]
    grind[aJ]
   ·simp only[go_sem,T,E,];have e:EW l i n (decide (o.pick.place<0)) (k+1)=(if decide ((k:Int)<n)=true then !v.drop else(EW l i n (decide (o.pick.place<0)) k).1,true):=by simp_all[onS]
    refine iO (fun A H'=>A 1=.sl (l.map aN)/\A 2=int n/\A 3=.rp (aD x) 0/\A 8=.os j/\A 9=int i/\A 10=boo (EW l i n (decide (o.pick.place<0)) (k+1)).1/\A 11=boo (EW l i n (decide (o.pick.place<0)) (k+1)).2/\A 12=int k/\H' j=some (OD (kZ x.y5 l n i))) ?_ fun K hK _ _=>aA (fun af=>?_) (fun af=>?_)
    ·clear h1 T I O F J X E Z;rintro ρ H ⟨h1,T,I,O,F,J,X,E,Z⟩;simp only[go_sem,h1,T,I,O,F,J,X,E,aQ k]
     grind[aJ]
    ·simp only[go_sem,h1,E,aC hv,b2];refine hK _ _ ⟨h1,T,I,O,F,?_,?_,E,Z⟩
     ·simp only[go_sem];grind
     ·simp only[go_sem];rw[e]
    ·simp only[go_sem];refine hK _ _ ⟨h1,T,I,O,F,?_,?_,E,Z⟩
     ·simp only[go_sem,J];grind
     ·simp only[go_sem];rw[e]
  ·have aa:=aZ hk aa;subst aa;have ag:onB l n i o=((EW l i n (decide (o.pick.place<0)) l.length).1&&(EW l i n (decide (o.pick.place<0)) l.length).2):=rfl;have ah:=It x.y5 l n i;simp only[go_sem,J,X];rw[<-ag];refine iO (fun A H'=>A 1=.sl (l.map aN)/\A 2=int n/\A 3=.rp (aD x) 0/\A 9=int i/\∃j,A 8=.os j/\H' j=some (OD (kZ x.y5 l n (i+1)))) ?_ fun K hK _ _=>aA (fun hb=>?_) (fun hb=>?_)
   ·clear h1 T I O F J X Z;rintro ρ H ⟨h1,T,I,F,j,O,Z⟩;simp only[go_sem,h1,T,I,F,O,aQ i];exact⟨⟨i+1,Y,rfl,j,rfl,Z⟩,msr Y⟩
   ·simp only[go_sem,I,O,F,aC ae,b1];refine aU Z ⟨rfl,rfl⟩ ⟨rfl,trivial⟩ (by grind) (fun j' ac=>?_);simp only[go_sem];refine hK _ _ ⟨h1,T,I,F,j',rfl,?_⟩;simp_all[BE,aB,fO]
   ·simp only[go_sem];refine hK _ _ ⟨h1,T,I,F,j,O,?_⟩;simp_all[BE]
 ·have ab:=aZ hi ab;subst ab;have ah:=It x.y5 l n x.y5.length;simp only[go_sem,I,O];refine aL (aoI x) ?_;simp only[go_sem];refine awW H _ j (kZ x.y5 l n x.y5.length) (gM x) (by omega) Z (fun he=>?_) (fun he j' H' ac=>?_)
  ·simp only[go_sem];have:qL x l n=([],2):=by simp_all[qL,xK]
   rw[this];exact .refl _
  ·simp only[go_sem];have:qL x l n=((List.range (gM x).toNat).map (lW (kZ x.y5 l n x.y5.length)),0):=by simp_all[qL,xK]
   rw[this];exact .tup _ _ (.cons _ _ _ _ (.row _ _ _ ac (ConvE.refl _)) (ConvL.refl _))
def A6:List Int->Int
 | []=>0
 | e::r=>if(e != 0)=true then e else A6 r
def WH{l:List Int}{k:Nat}{e:Int}(h:∀e∈l.take k,(e != 0)=false)(A:l[k]?=some e)(E:(e != 0)=true):A6 l=e:=by
 induction l generalizing k with
 | nil=>grind
 | cons a r ih=>
  cases k with
  | zero=>simp_all[A6]
  | succ k=>
   have h0:=h a (by simp);simp only[A6]
   grind
def Je{l:List Int}(h:∀e∈l,(e != 0)=false):A6 l=0:=by induction l<;>simp_all[A6]
def Si(x:Instance)(l:List Visit)(k:Nat):List (List Int):=(List.range k).map fun n:Nat=>(qL x l n).1
def PN(x:Instance)(l:List Visit):List Int:=(List.range (l.length+1)).map fun n:Nat=>(qL x l n).2
def Ua{x:Instance}{l:List Visit}{k:Nat}(h:k<=l.length):(PN x l)[k]?=some (qL x l k).2:=by grind[PN]
def lB(x:Instance)(l:List Visit):List (List Int)×Int:=
 if(fP x l != 0)=true then([],fP x l)else if(A6 (PN x l) != 0)=true then([],A6 (PN x l))else(Si x l (l.length+1),0)
def aiL(x:Instance)(r:Route)(ho:x.y5.length<=1048576)(X:r.y7.length<=1048576)(Z:x.apart.length<=1048576)(hb:x.before.length<=1048576):
  PC prog 338 [.agg (aD x),.agg (bJ r)] (.tup [.sl ((lB x r.y7).1.map fO),int (lB x r.y7).2]):=by
 refine pcb (fun t=>t == 7) func338 rfl rfl ?_;simp only[go_sem];refine aL (Nf x r X Z hb) ?_;simp only[go_sem];apply aA <;> intro hc
 ·simp only[go_sem];have:lB x r.y7=([],fP x r.y7):=by simp_all[lB]
  rw[this];exact .refl _
 simp only[go_sem];refine aH fun j I=>?_
 simp only[go_sem];refine⟨fun ρ H=>∃k:Nat,k<=r.y7.length+1/\ρ 2=.rp (aD x) 0/\ρ 3=.rp (bJ r) 0/\ρ 8=int k/\(∀e∈(PN x r.y7).take k,(e != 0)=false)/\∃j,ρ 7=.os j/\H j=some (OD (Si x r.y7 k)),fun ρ _=>r.y7.length+1-aT (ρ 8),⟨0,Xaa _,rfl,rfl,rfl,by simp,j,rfl,aB _ _ _⟩,?_⟩;rintro ρ H ⟨k,hk,Y,J,F,T,j,O,I⟩;simp only[go_sem,J,F];refine aA (fun A=>?_) (fun E=>?_)
 ·have A:k<=r.y7.length:=by grind
  simp only[go_sem,Y,J,F];refine aL (aeN x r.y7 k ho X) ?_;simp only[go_sem];apply aA <;> intro U
  ·simp only[go_sem];have e:=WH T (Ua A) U;have:lB x r.y7=([],(qL x r.y7 k).2):=by simp_all[lB]
   rw[this];exact .refl _
  ·simp only[go_sem,O];refine aU I ⟨rfl,rfl⟩ ⟨rfl,trivial⟩ (by grind[Si]) (fun j' aa=>?_);simp only[go_sem,Y,J,F,aQ k];refine⟨⟨k+1,by omega,rfl,?_,j',rfl,?_⟩,by grind[aJ]⟩
   ·exact aS (p:=fun e:Int=>(e != 0)=false) (Ua A) U T
   grind[Si,Xas,fO,aB]
 ·have E:k=r.y7.length+1:=by grind
  subst E;simp only[go_sem,O];have e:=Je (l:=PN x r.y7) (by grind[Xai,PN]);have:lB x r.y7=(Si x r.y7 (r.y7.length+1),0):=by simp_all[lB]
  rw[this];exact .tup _ _ (.cons _ _ _ _ (.row _ _ _ I (ConvE.refl _)) (ConvL.refl _))
def IY(x:Instance)(t:Int):List Int:=match x.types[t.toNat]? with|some t=>t.cap|none=>[]
def BA(x:Instance)(r:Route):Int:=
 if cH r.type x.types.length=true then 2 else if((lB x r.y7).2 != 0)=true then(lB x r.y7).2
 else if((lB x r.y7).1.any fun l=> !jF l (IY x r.type))=true then 17 else 0
def axB{ll:List (List Int)}{d:Int}:(xK ll d).1.length<=3:=by
 unfold xK;by_cases h:kB ll d=true
 ·rw[if_pos h];have:=DU h
  grind
 grind
def ahF{x:Instance}{l:List Visit}:(lB x l).1.length<=l.length+1/\∀a∈(lB x l).1,a.length<=3:=by
 unfold lB;split
 ·simp
 ·split
  ·simp
  ·refine⟨by simp[Si],fun a A=>?_⟩;simp only[Si,Xao,Xan]at A;obtain⟨n,_,rfl⟩:=A;exact axB
def apF(x:Instance)(r:Route)(ho:x.y5.length<=1048576)(hl:r.y7.length<=1048576)(ha:x.apart.length<=1048576)(U:x.before.length<=1048576):
  PC prog 294 [.agg (aD x),.agg (bJ r)] (int (BA x r)):=by
 refine pcd func294 rfl rfl ?_;simp only[go_sem];apply aA <;> intro h1
 ·simp only[go_sem];simp_all[bS,BA,cH]
 have I:0<=r.type/\r.type<(x.types.length:Int):=by grind
 obtain⟨t,ht⟩:=aK (show r.type.toNat<x.types.length by omega);have ec:IY x r.type=t.cap:=by grind[IY]
 simp only[go_sem];refine aL (aiL x r ho hl ha U) ?_;simp only[go_sem];apply aA <;> intro O
 ·simp only[go_sem];simp_all[bS,BA,if_neg,cH]
 have hf:BA x r=if((lB x r.y7).1.any fun l=> !jF l t.cap)=true then 17 else 0:=by simp_all[BA,if_neg,cH]
 rw[hf];obtain⟨ln,X⟩:=ahF (x:=x) (l:=r.y7);generalize (lB x r.y7).1=ll at ln X;simp only[go_sem];refine⟨fun ρ _=>∃k:Nat,k<=ll.length/\ρ 2=.rp (aD x) 0/\ρ 3=.rp (bJ r) 0/\ρ 5=.sl (ll.map fO)/\ρ 7=int k/\∀l∈ll.take k,(!jF l t.cap)=false,fun ρ _=>ll.length-aT (ρ 7),⟨0,Xaa _,rfl,rfl,rfl,rfl,by simp⟩,?_⟩;rintro ρ H ⟨k,hk,O,Z,T,F,Y⟩;simp only[go_sem,T,F];refine aA (fun A=>?_) (fun E=>?_)
 ·have A:=aX A;obtain⟨u,J⟩:=aK A;have b1:=inB A;have aa:=X u (Xab J);simp only[go_sem];refine dC ?_;simp only[go_sem,O,Z,T,F,aC J,b1,fO,aC ht,I];refine⟨_,(aoA u t.cap (by omega)).q rfl,?_⟩;simp only[go_sem];apply aA <;> intro U
  ·simp only[go_sem];exact bS (by grind)
  ·simp only[go_sem,O,Z,T,F,aQ k];exact⟨⟨k+1,A,rfl,aS (p:=fun l=>(!jF l t.cap)=false) J U Y⟩,msr A⟩
 ·have E:=aZ hk E;subst E;rw[Xad]at Y;simp only[go_sem];simp_all[bS]
def JN(n:Network)(i:Int):Bool:=decide (i>=0)&&decide (i<(n.places.length:Int))
def N8(n:Network)(i:Int):PC prog 407 [.agg (bH n),int i] (boo (JN n i)):=by refine pcd func407 rfl rfl ?_;simp only[go_sem];exact .refl _
def DC:Arc:=⟨0,0,0,0,[],[]⟩
def Ml(p f t:Int)(a:Arc):Bool:=a.src == f&&a.dst == t&&a.o6 == p
def qQ(n:Network)(p f t:Int):Option Arc:=n.o9.find? (Ml p f t)
def Fk{α:Type}{p:α->Bool}{l:List α}{k:Nat}{x:α}(h:∀y∈l.take k,p y=false)(E:l[k]?=some x)(A:p x=true):l.find? p=some x:=by
 induction l generalizing k with
 | nil=>grind
 | cons a r ih=>cases k<;>grind
def DO{α:Type}{p:α->Bool}{l:List α}(h:∀y∈l,p y=false):l.find? p=none:=List.find?_eq_none.2 fun y A=>by grind
def ajL(n:Network)(p f t:Int)(hl:n.o9.length<=1048576):PC prog 408 [.agg (bH n),int p,int f,int t] (.tup [.agg (fL ((qQ n p f t).getD DC)),boo (qQ n p f t).isSome]):=by
 refine pcd func408 rfl rfl ?_;simp only[go_sem];refine aH fun j J=>?_
 simp only[go_sem];refine⟨fun ρ H=>∃k:Nat,k<=n.o9.length/\ρ 1=int p/\ρ 2=int f/\ρ 3=int t/\ρ 4=.rp (bH n) 0/\ρ 8=.op j 0 0/\ρ 10=int k/\H j=some ⟨93,6,[[int 0,int 0,int 0,int 0,.sl [],.sl []]]⟩/\∀a∈n.o9.take k,Ml p f t a=false,fun ρ _=>n.o9.length-aT (ρ 10),⟨0,Xaa _,rfl,rfl,rfl,rfl,rfl,rfl,aB _ _ _,by simp⟩,?_⟩;clear J;rintro ρ H ⟨k,hk,h1,h2,h3,h4,O,I,J,X⟩;simp only[go_sem,h4,I];refine aA (fun A=>?_) (fun E=>?_)
 ·have A:=aX A;obtain⟨a,F⟩:=aK A;have b1:=inB A;simp only[go_sem,h4,I,aC F,b1];refine aH fun i hi=>?_
  have U:j≠i:=aV J hi;simp only[go_sem];refine aG (aB _ _ _) (by simp[jR]) ?_;simp only[go_sem,h1,h2,h3,];generalize Y:aI (aI H i _) i _=HG;have T:HG j=some ⟨93,6,[[int 0,int 0,int 0,int 0,.sl [],.sl []]]⟩:=by rw[<-Y,aF _ _ _ _ U,aF _ _ _ _ U];exact J
  have Z:HG i=some ⟨93,6,[fL a]⟩:=by rw[<-Y,aB]
  clear Y J hi;apply aA <;> intro hb
  ·simp only[go_sem,O,Z];refine aG T (by simp[jR]) ?_;simp only[go_sem,O,jR];have:qQ n p f t=some a:=Fk X F hb;rw[this];exact .refl _
  ·simp only[go_sem,h1,h2,h3,h4,O,I,aQ k];exact⟨⟨k+1,A,rfl,T,aS (p:=fun a=>Ml p f t a=false) F hb X⟩,msr A⟩
 ·have E:=aZ hk E;subst E;rw[Xad]at X;simp only[go_sem,O];refine aG J (by simp) ?_;simp only[go_sem,O];have:qQ n p f t=none:=DO X;rw[this];exact .refl _
def W(n:Int):Int:=IntKind.i64.wrap n
def oH(l:List Point)(t:Int)(k:Nat):Bool:=decide ((fE l k).t<=t)&&decide (t<(fE l (k+1)).t)
def KQ(p q:Point)(t:Int):Int:=W (p.a+IntKind.i64.wrap (Int.tdiv (W (W (W (W (W (t-p.t)*W (q.a-p.a))+q.t)-p.t)-1)) (W (q.t-p.t))))
def Bj(e:Point)(t:Int):Int:=W (W (t+e.a)-e.t)
def Bg(l:List Point)(t:Int):Bool:=decide (((jZ l).length:Int)>0)||decide (t<0)||decide (t>1073741824)
def gZ(l:List Point)(t:Int):Int:=
 if Bg l t=true then 0 else match (List.range (l.length-1)).find? (oH l t)with
 | some k=>KQ (fE l k) (fE l (k+1)) t
 | none=>if decide (t>(fE l 0).t)=true then Bj (fE l (l.length-1)) t else Bj (fE l 0) t
def avC(n:Int):Prop:= -9223372036854775808<=n/\n<=9223372036854775807
def aaH{n:Int}(h:0<n/\n<18446744073709551616):¬IntKind.i64.wrap n=0:=by show ¬(if(true&&decide (n%18446744073709551616>=9223372036854775808))=true then n%18446744073709551616-18446744073709551616 else n%18446744073709551616)=0;omega
def Xc(l:List Point)(t:Int)(hl:l.length<=1048576)(hp:∀p∈l,avC p.t):PC prog 410 [.sl (l.map cG),int t] (int (gZ l t)):=by
 refine pcd func410 rfl rfl ?_;simp only[go_sem];refine aL (OU l hl) ?_;simp only[go_sem];apply aA <;> intro hb
 ·simp only[go_sem];simp_all[bS,gZ,Bg]
 have aa:Bg l t=false:=by grind[Bg]
 have ae:0<l.length:=by
  simp only[Bg,Xam,decide_eq_false_iff_not]at aa;have h0:jZ l=[]:=List.eq_nil_of_length_eq_zero (by omega)
  grind[jZ,KR,opt]
 have ht:0<=t/\t<=1073741824:=by grind
 have ab:gZ l t=match (List.range (l.length-1)).find? (oH l t)with
  | some k=>KQ (fE l k) (fE l (k+1)) t
  | none=>if decide (t>(fE l 0).t)=true then Bj (fE l (l.length-1)) t else Bj (fE l 0) t:=by simp_all[gZ]
 rw[ab];simp only[go_sem];refine⟨fun ρ _=>∃k:Nat,k<=l.length-1/\ρ 0=.sl (l.map cG)/\ρ 1=int t/\ρ 5=int k/\∀c∈(List.range (l.length-1)).take k,oH l t c=false,fun ρ _=>l.length-1-aT (ρ 5),⟨0,Xaa _,rfl,rfl,rfl,by simp⟩,?_⟩;rintro ρ H ⟨k,hk,h0,h1,h5,hz⟩;simp only[go_sem,h0,h5,aQ k];refine aA (fun I=>?_) (fun X=>?_)
 ·have I:k<l.length-1:=by grind
  obtain⟨p,A⟩:=aK (show k<l.length by omega);obtain⟨q,E⟩:=aK (show k+1<l.length by omega);have b1:=inB (show k<l.length by omega);have b2:=inB (show k+1<l.length by omega);have pb:=hp p (Xab A);have qb:=hp q (Xab E);have es:oH l t k=(decide (p.t<=t)&&decide (t<q.t)):=by grind[oH,fI]
  simp only[go_sem,h0,h5,aC A,b1];refine aH fun O ac=>?_
  simp only[go_sem];refine aG (aB _ _ _) (by simp[gH]) ?_;simp only[go_sem,h0,h5,aC E,b2,aQ k];generalize J:aI (aI H O _) O _=H1;have F:H1 O=some ⟨90,2,[cG p]⟩:=by rw[<-J,aB]
  clear J ac;refine aH fun i2 T=>?_
  have Y:O≠i2:=aV F T;simp only[go_sem];refine aG (aB _ _ _) (by simp[gH]) ?_;generalize J:aI (aI H1 i2 _) i2 _=H2;have R2:H2 i2=some ⟨90,2,[cG q]⟩:=by rw[<-J,aB];rfl
  have F:H2 O=some ⟨90,2,[cG p]⟩:=by rw[<-J,aF _ _ _ _ Y,aF _ _ _ _ Y];exact F
  clear J T;simp only[go_sem,h1,F,R2];rw[<-es];apply aA <;> intro hs
  ·have U:=hs;rw[es]at U;simp only[Xak,decide_eq_true_eq]at U;simp only[go_sem];refine dC ?_;simp only[go_sem,h1,F,R2];have hf:(List.range (l.length-1)).find? (oH l t)=some k:=Fk hz (kM I) hs;rw[hf];simp only;rw[fI A,fI E];unfold avC at pb qb;exact⟨aaH (by omega),.refl _⟩
  ·simp only[go_sem,h0,h1,h5,aQ k];exact⟨⟨k+1,by omega,rfl,aS (p:=fun c=>oH l t c=false) (kM I) hs hz⟩,msr I⟩
 ·have X:k=l.length-1:=by grind
  subst X;have hf:(List.range (l.length-1)).find? (oH l t)=none:=DO fun c hc=>hz c (by grind)
  rw[hf];obtain⟨p,A⟩:=aK ae;obtain⟨q,E⟩:=aK (show l.length-1<l.length by omega);have e0:=fI A;have e1:=fI E;have wl:IntKind.i64.wrap ((l.length:Int)-1)=((l.length-1:Nat):Int):=by grind[aW]
  simp only[go_sem,h0,aC A];refine⟨⟨by decide,by omega⟩,?_⟩;refine aH fun i hi=>?_
  simp only[go_sem];refine aG (aB _ _ _) (by simp[gH]) ?_;generalize J:aI (aI H i _) i _=H1;have F:H1 i=some ⟨90,2,[cG p]⟩:=by rw[<-J,aB];rfl
  clear J hi;simp only[go_sem,h1,F];rw[e0];refine iO (fun Z H'=>Z 1=int t/\Z 8=.op i 0 0/\H' i=some ⟨90,2,[cG (if decide (t>p.t)=true then q else p)]⟩) ?_ fun K hK _ _=>aA (fun hb=>?_) (fun hb=>?_)
  ·clear h0 h1 h5 F;rintro ρ H ⟨h1,h8,R⟩;simp only[go_sem,h1,h8,R];rw[e1];refine bS ?_;cases decide (t>p.t) <;> rfl
  ·simp only[go_sem,h0,wl,aC E];refine⟨⟨by omega,by omega⟩,?_⟩;refine aG F (by simp[gH]) ?_;simp only[go_sem];refine hK _ _ ⟨h1,rfl,?_⟩;rw[aB,if_pos hb];rfl
  ·simp only[go_sem];refine hK _ _ ⟨h1,rfl,?_⟩
   grind
end Sq
namespace Sq
open Go.Proofs.Tryz
open Mv (bS bU aS)
def pX(t:Int)(s:Int)(p:Point):Int:=if decide (p.t<=t)=true then W (s+p.a)else s
def uR(a:Arc)(t:Int):Int:=a.ξ.foldl (pX t) (gZ a.eP t)
structure ArcB(a:Arc):Prop where
 eP:a.eP.length<=1048576
 ξ:a.ξ.length<=1048576
 time:∀p∈a.eP,avC p.t
def XA(a:Arc)(t:Int)(T:ArcB a):PC prog 409 [.agg (fL a),int t] (int (uR a t)):=by
 have aa:=T.ξ;refine pcd func409 rfl rfl ?_;simp only[go_sem];refine aL (Xc a.eP t T.eP T.time) ?_;simp only[go_sem];refine⟨fun ρ _=>∃k:Nat,k<=a.ξ.length/\ρ 1=int t/\ρ 2=.rp (fL a) 0/\ρ 5=int ((a.ξ.take k).foldl (pX t) (gZ a.eP t))/\ρ 6=int k,fun ρ _=>a.ξ.length-aT (ρ 6),⟨0,Xaa _,rfl,rfl,rfl,rfl⟩,?_⟩;rintro ρ H ⟨k,hk,h1,F,O,I⟩;simp only[go_sem,F,I];refine aA (fun A=>?_) (fun J=>?_)
 ·have A:=aX A;obtain⟨p,Y⟩:=aK A;have X:=inB A;have hs:(a.ξ.take (k+1)).foldl (pX t) (gZ a.eP t)=pX t ((a.ξ.take k).foldl (pX t) (gZ a.eP t)) p:=by simp_all[aY]
  simp only[go_sem,h1,F,I,aC Y,X];refine iO (fun E _=>E 1=int t/\E 2=.rp (fL a) 0/\E 5=int ((a.ξ.take (k+1)).foldl (pX t) (gZ a.eP t))/\E 6=int k) ?_ fun K U _ _=>aA (fun Z=>?_) (fun Z=>?_)
  ·clear h1 F O I;rintro ρ H ⟨h1,F,O,I⟩;simp only[go_sem,h1,F,O,I,aQ k];exact⟨⟨k+1,A,rfl,rfl⟩,msr A⟩
  ·simp only[go_sem,F,O,I,aC Y,X];refine U _ _ ⟨h1,F,?_,I⟩;simp only[go_sem];rw[hs,pX,if_pos Z];rfl
  ·simp only[go_sem];refine U _ _ ⟨h1,F,?_,I⟩;simp only[go_sem,O];simp_all[pX]
 ·have J:=aZ hk J;subst J;simp only[go_sem,O];rw[Xad];exact .refl _
structure NetB(n:Network):Prop where
 o9:n.o9.length<=1048576
 arc:∀a∈n.o9,ArcB a
def gI(n:Network)(p f t time:Int):Int×Int×Int:=
 if(!JN n f|| !JN n t)=true then(0,0,11)else if(f == t)=true then(time,0,0)
 else match qQ n p f t with|some a=>(uR a time,a.o7,0)|none=>(0,0,12)
def aBP(n:Network)(p f t time:Int)(E:NetB n):PC prog 406 [.agg (bH n),int p,int f,int t,int time] (.tup [int (gI n p f t time).1,int (gI n p f t time).2.1,int (gI n p f t time).2.2]):=by
 refine pcd func406 rfl rfl ?_;simp only[go_sem];refine aL (N8 n f) ?_;simp only[go_sem];refine⟨_,fun _=>(N8 n t).q rfl,?_⟩;simp only[go_sem];apply aA <;> intro h1
 ·simp only[go_sem];have:gI n p f t time=(0,0,11):=by simp_all[gI]
  rw[this];exact .refl _
 simp only[go_sem];apply aA <;> intro O
 ·simp only[go_sem];have:gI n p f t time=(time,0,0):=by simp_all[gI]
  rw[this];exact .refl _
 have I:gI n p f t time=match qQ n p f t with|some a=>(uR a time,a.o7,0)|none=>(0,0,12):=by simp_all[gI]
 rw[I];simp only[go_sem];refine aL (ajL n p f t E.o9) ?_;simp only[go_sem];refine aH fun j T=>?_
 simp only[go_sem];refine aG (aB _ _ _) (by simp[jR]) ?_;simp only[go_sem,jR];cases F:qQ n p f t with
 | none=>refine aA (fun _=>?_) (fun A=>by simp at A);simp only[go_sem];exact .refl _
 | some a=>have J:ArcB a:=E.arc a (List.mem_of_find?_eq_some F);refine aA (fun A=>by simp at A) (fun _=>?_);simp only[go_sem,Xbb];refine dC ?_;simp only[go_sem];refine⟨_,(XA a time J).q rfl,?_⟩;simp only[go_sem];exact .refl _
def awN(x:Instance)(p f t time:Int)(A:NetB x.τ):PC prog 402 [.agg (aD x),int p,int f,int t,int time] (.tup [int (gI x.τ p f t time).1,int (gI x.τ p f t time).2.1,boo ((gI x.τ p f t time).2.2 == 0)]):=by refine pcd func402 rfl rfl ?_;simp only[go_sem];refine aL (aBP x.τ p f t time A) ?_;simp only[go_sem];exact .refl _
structure Score where
 cost:Int
 moved:Int
 other:Int
 work:Int
def bD(s:Score):List AV:=[int s.cost,int s.moved,int s.other,int s.work]
def AE(a b:Score):Score:=⟨W (a.cost+b.cost),W (a.moved+b.moved),W (a.other+b.other),W (a.work+b.work)⟩
def sA(l:List Visit)(n:Nat):Bool:=(List.range n).all fun i=> !(gA l i == gA l n)
def Xk(l:List Visit)(n:Nat)(Z:l.length<=1048576)(I:n<l.length):PC prog 343 [.sl (l.map aN),int n] (boo (sA l n)):=by
 obtain⟨u,U⟩:=aK I;have J:=inB I;refine pcd func343 rfl rfl ?_;simp only[go_sem];refine⟨fun ρ _=>∃k:Nat,k<=n/\ρ 0=.sl (l.map aN)/\ρ 1=int n/\ρ 5=int k/\∀i∈(List.range n).take k,(gA l i == gA l n)=false,fun ρ _=>n-aT (ρ 5),⟨0,Xaa _,rfl,rfl,rfl,by simp⟩,?_⟩;rintro ρ H ⟨k,hk,h0,h1,F,T⟩;simp only[go_sem,h1,F];refine aA (fun A=>?_) (fun E=>?_)
 ·have A:k<n:=by grind
  obtain⟨v,X⟩:=aK (show k<l.length by omega);have O:=inB (show k<l.length by omega);have e:(gA l k == gA l n)=(v.order == u.order):=by grind[jN]
  simp only[go_sem];refine dC ?_;simp only[go_sem,h0,h1,F,aC X,aC U,O,J];rw[<-e];apply aA <;> intro Y
  ·simp only[go_sem]
   grind[bU,sA]
  ·simp only[go_sem,h0,h1,F,aQ k];exact⟨⟨k+1,A,rfl,aS (p:=fun i=>(gA l i == gA l n)=false) (kM A) Y T⟩,msr A⟩
 ·have E:k=n:=by grind
  subst E;simp only[go_sem]
  grind[bU,sA]
def Bo(c s:Int)(i:Nat):Bool:=(IntKind.i64.wrap (Int.tdiv s (2^i:Nat))).tmod 2 == 1&&(IntKind.i64.wrap (Int.tdiv c (2^i:Nat))).tmod 2 == 0
def tO(c s:Int):Bool:= !(decide (c<0)||decide (s<0))&&(List.range 63).all fun i=> !Bo c s i
def anC(t:VType)(s:Int):PC prog 293 [.agg (bI t),int s] (boo (tO t.l7 s)):=by
 refine pcd func293 rfl rfl ?_;simp only[go_sem];apply aA <;> intro h1
 ·simp only[go_sem]
  grind[bU,tO]
 have ha:tO t.l7 s=(List.range 63).all fun i=> !Bo t.l7 s i:=by grind[tO]
 rw[ha];simp only[go_sem];refine⟨fun ρ _=>∃k:Nat,k<=63/\ρ 1=int s/\ρ 2=.rp (bI t) 0/\ρ 5=int (IntKind.i64.wrap (2^k:Nat))/\∀i∈(List.range 63).take k,Bo t.l7 s i=false,fun ρ _=>if aT (ρ 5)=0 then 0 else 9223372036854775809-aT (ρ 5),⟨0,Xaa _,rfl,rfl,rfl,by simp⟩,?_⟩;rintro ρ H ⟨k,hk,h1,Z,A,hz⟩;by_cases J:k=63
 ·subst J;have X:IntKind.i64.wrap ((2^63:Nat):Int)= -9223372036854775808:=by rfl
  rw[X]at A;simp only[go_sem,A];refine aA (fun E=>by simp at E) (fun _=>?_);simp only[go_sem];simp_all[bU]
 ·have I:k<63:=by omega
  have hp:2^k<=2^62:=Xah (by decide) (by omega);have Y:0<2^k:=Nat.two_pow_pos k;have X:IntKind.i64.wrap ((2^k:Nat):Int)=((2^k:Nat):Int):=aW (by omega);have U:((2^k:Nat):Int)*2=((2^(k+1):Nat):Int):=by rfl
  rw[X]at A;simp only[go_sem,A];have T:decide (((2^k:Nat):Int)>0)=true:=decide_eq_true (by exact_mod_cast Y);have O:¬(((2^k:Nat):Int)=0):=fun h=>absurd (by exact_mod_cast h:2^k=0) (by omega)
  refine aA (fun _=>?_) (fun E=>by rw[T]at E;cases E);simp only[go_sem,h1,Z,A];refine⟨O,by decide,fun _=>O,fun _=>by decide,?_⟩;apply aA <;> intro E
  ·simp only[go_sem];refine bU ?_
   symm
   rw[List.all_eq_false];exact⟨k,Xan.2 I,by grind[Bo]⟩
  ·simp only[go_sem,h1,Z,A,U];refine⟨⟨k+1,by omega,rfl,aS (p:=fun i=>Bo t.l7 s i=false) (kM I) E hz⟩,?_⟩;have ae:aT (int ((2^k:Nat):Int))=2^k:=aJ.trans (Xal _);have F:(if aT (int ((2^k:Nat):Int))=0 then 0 else 9223372036854775809-aT (int ((2^k:Nat):Int)))=9223372036854775809-2^k:=by grind
   rw[F];by_cases e:k=62
   ·subst e;have:aT (AV.v (Value.int IntKind.i64 (IntKind.i64.wrap ((2^(62+1):Nat):Int))))=0:=by rfl
    grind
   ·have aa:2^(k+1)<=2^62:=Xah (by decide) (by omega);have ac:IntKind.i64.wrap ((2^(k+1):Nat):Int)=((2^(k+1):Nat):Int):=aW (by omega);have ab:aT (int ((2^(k+1):Nat):Int))=2^(k+1):=aJ.trans (Xal _)
    grind
def bK:Score:=⟨0,0,0,0⟩
def fR(o:Order):Score×Int:=if o.off=true then(bK,9)else if(o.η == -1)=true then(bK,23)else(⟨o.η,if(o.now != -1)=true then 1 else 0,0,0⟩,0)
def cJ(x:Instance)(k:Int):Score×Int:=if cH k x.y5.length=true then(bK,2)else match x.y5[k.toNat]? with|some o=>fR o|none=>(bK,2)
def mP:Stop:=⟨0,0,0,0⟩
def qG(o:Order)(v:Visit):Stop:=if v.drop=true then o.drop else o.pick
def bM(x:Instance)(v:Visit):Stop×Bool:=if cH v.order x.y5.length=true then(mP,false)else
 match x.y5[v.order.toNat]? with
 | some o=>(qG o v,decide ((qG o v).place>=0))
 | none=>(mP,false)
def SR(x:Instance)(v:Visit):PC prog 376 [.agg (aD x),.agg (aN v)] (.tup [.agg (eT (bM x v).1),boo (bM x v).2]):=by
 refine pcd func376 rfl rfl ?_;simp only[go_sem];refine aH fun j hj=>?_
 have R:=aB bN j (some (⟨58,4,[[int 0,int 0,int 0,int 0]]⟩:Row));generalize aI bN j _=H0 at R |-;simp only[go_sem];apply aA <;> intro h1
 ·have e:bM x v=(mP,false):=if_pos h1;rw[e];simp only[go_sem];refine aG R (by simp) ?_;simp only[go_sem];exact .refl _
 have E:0<=v.order/\v.order<(x.y5.length:Int):=by grind
 obtain⟨o,T⟩:=aK (show v.order.toNat<x.y5.length by omega);have e:bM x v=(qG o v,decide ((qG o v).place>=0)):=by simp_all[bM,if_neg,cH]
 rw[e];simp only[go_sem,aC T,E];refine aH fun i X=>?_
 have A:j≠i:=aV R X;simp only[go_sem];refine aG (aB _ _ _) (by simp[iP]) ?_;generalize J:aI (aI H0 i _) i _=H1;have I:H1 i=some ⟨58,4,[eT o.pick]⟩:=by rw[<-J,aB];rfl
 have R:H1 j=some ⟨58,4,[[int 0,int 0,int 0,int 0]]⟩:=by rw[<-J,aF _ _ _ _ A,aF _ _ _ _ A];exact R
 clear J X;simp only[go_sem];refine bO (fun F H'=>F 4=.op j 0 0/\F 6=.op i 0 0/\H' j=some ⟨58,4,[[int 0,int 0,int 0,int 0]]⟩/\H' i=some ⟨58,4,[eT (qG o v)]⟩) ?_ fun K O=>aA (fun Y=>?_) (fun Y=>?_)
 ·clear R I;rintro ρ H ⟨U,h6,R,I⟩;simp only[go_sem];refine gS [i] [(0,true),(1,true),(2,true),(3,true),(4,false),(5,false)] (by grind) (by kernel_rfl) fun Hp Hr hp hr _ _=>?_
  have Rp:Hp i=some ⟨58,4,[eT (qG o v)]⟩:=by grind
  have Z:Hr j=some ⟨58,4,[[int 0,int 0,int 0,int 0]]⟩:=by grind
  simp only[go_sem,U,h6,Rp];refine aG Z (by simp[iP]) ?_;simp only[go_sem];refine dO fun _ Hm _ hm=>?_
  have Rm:Hm j=some ⟨58,4,[eT (qG o v)]⟩:=by grind[aB]
  simp only[go_sem,U,Rm];exact .refl _
 ·simp only[go_sem,aC T,E];refine aG I (by simp[iP]) ?_;simp only[go_sem];refine O _ _ ⟨rfl,rfl,by grind[aF],?_⟩;rw[aB,qG,if_pos Y];rfl
 ·simp only[go_sem];refine O _ _ ⟨rfl,rfl,R,?_⟩;simp_all[qG]
def cC(x:Instance)(r:Route):Bool:=
 !(cH r.type x.types.length||decide (r.start<0)||decide (r.start>4096)||decide ((r.y7.length:Int)>20))&&r.y7.all fun v=>(bM x v).2
def FZ(x:Instance)(r:Route)(hr:r.y7.length<=1048576):PC prog 340 [.agg (aD x),.agg (bJ r)] (boo (cC x r)):=by
 refine pcd func340 rfl rfl ?_;simp only[go_sem];apply aA <;> intro h1
 ·simp only[go_sem]
  grind[bU,cC,cH]
 have T:cC x r=r.y7.all fun v=>(bM x v).2:=by grind[cC,cH]
 rw[T];simp only[go_sem];refine⟨fun ρ _=>∃k:Nat,k<=r.y7.length/\ρ 2=.rp (aD x) 0/\ρ 3=.rp (bJ r) 0/\ρ 5=int k/\∀v∈r.y7.take k,(bM x v).2=true,fun ρ _=>r.y7.length-aT (ρ 5),⟨0,Xaa _,rfl,rfl,rfl,by simp⟩,?_⟩;rintro ρ H ⟨k,Y,O,F,I,X⟩;simp only[go_sem,F,I];refine aA (fun A=>?_) (fun E=>?_)
 ·have A:=aX A;obtain⟨v,J⟩:=aK A;have U:=inB A;simp only[go_sem];refine jK [(0,true),(1,true),(2,true),(3,true),(4,true),(5,true),(6,true),(7,true),(8,true),(9,true),(10,false),(11,false),(12,false)] (by kernel_rfl) ?_;simp only[go_sem,O,F,I,aC J,U,dG];refine⟨_,(SR x v).q rfl,?_⟩;simp only[go_sem];refine aH fun j Z=>?_
  simp only[go_sem];refine aG (aB _ _ _) (by simp[iP]) ?_;simp only[go_sem];apply aA <;> intro hb
  ·simp only[go_sem]
   grind[bU]
  ·simp only[go_sem,O,F,I,aQ k];exact⟨⟨k+1,A,rfl,aS (p:=fun v=>(bM x v).2=true) J (by grind) X⟩,msr A⟩
 ·have E:=aZ Y E;subst E;simp only[go_sem]
  grind[bU]
structure St8 where
 place:Int
 time:Int
 ν:Int
 o7:Int
def mG(s:St8):List AV:=[int s.place,int s.time,int s.ν,int s.o7]
def X0(s:St8):(mG s).length=4:=(rfl)
def alG(s:St8):(mG s).getD 0 .any=int s.place:=(rfl)
def arA(s:St8):(mG s).getD 1 .any=int s.time:=(rfl)
def amM(s:St8):(mG s).getD 2 .any=int s.ν:=(rfl)
def atD(s:St8):(mG s).getD 3 .any=int s.o7:=(rfl)
def Xw(s:St8):(mG s).take 4=mG s:=(rfl)
attribute [go_sem] alG arA amM atD Xw
def lS(t:VType)(s:St8)(yes:Bool):St8:=if yes=true then⟨s.place,W (s.time+t.rest),0,s.o7⟩else s
def ST(t:VType)(s:St8)(yes:Bool):PC prog 394 [.agg (bI t),.agg (mG s),boo yes] (.agg (mG (lS t s yes))):=by
 simp only[mG];refine pcb (fun t=>t == 4) func394 rfl rfl ?_;simp only[go_sem];refine aH fun j X=>?_
 have R:=aB bN j (some (⟨407,4,[[int s.place,int s.time,int s.ν,int s.o7]]⟩:Row));generalize aI bN j _=H0 at R |-;simp only[go_sem];refine aH fun i T=>?_
 have F:j≠i:=aV R T;have A:=aB H0 i (some (⟨407,4,[[int 0,int 0,int 0,int 0]]⟩:Row));have R:aI H0 i (some (⟨407,4,[[int 0,int 0,int 0,int 0]]⟩:Row)) j=_:=(aF _ _ _ _ F).trans R;generalize Y:aI H0 i _=H1 at R A |-;simp only[go_sem];refine bO (fun E H'=>E 4=.op j 0 0/\E 6=.op i 0 0/\H' j=some ⟨407,4,[mG (lS t s yes)]⟩/\H' i=some ⟨407,4,[[int 0,int 0,int 0,int 0]]⟩) ?_ fun K I=>aA (fun J=>?_) (fun J=>?_)
 ·clear R A;rintro ρ H ⟨U,O,R,A⟩;simp only[go_sem,U,O,R];refine aG A (by simp[mG]) ?_;simp only[go_sem,O];exact .refl _
 ·simp only[go_sem,R];refine bP so3 R ⟨by simp,rfl,by simp⟩ ?_;simp only[go_sem];refine bP so3 (aB _ _ _) ⟨by simp,rfl,by simp⟩ ?_;simp only[go_sem];refine I _ _ ⟨rfl,rfl,?_,by grind[aF]⟩;rw[aB,lS,if_pos J];rfl
 ·simp only[go_sem];refine I _ _ ⟨rfl,rfl,?_,A⟩;rw[lS,if_neg (by grind)];exact R
def iM(x:Instance)(t:VType)(s:St8)(to close late:Int):St8×Int:=
 if(!((gI x.τ t.o6 s.place to s.time).2.2 == 0))=true then(s,12)
 else if(gI x.τ t.o6 s.place to s.time).1>close then(s,late)
 else if W (W (s.ν+(gI x.τ t.o6 s.place to s.time).1)-s.time)>t.υ then(s,16)
 else(⟨to,(gI x.τ t.o6 s.place to s.time).1,W (W (s.ν+(gI x.τ t.o6 s.place to s.time).1)-s.time),W (s.o7+(gI x.τ t.o6 s.place to s.time).2.1)⟩,0)
def Va(x:Instance)(t:VType)(s:St8)(to close A:Int)(O:NetB x.τ):PC prog 395 [.agg (aD x),.agg (bI t),.agg (mG s),int to,int close,int A] (.tup [.agg (mG (iM x t s to close A).1),int (iM x t s to close A).2]):=by
 simp only[mG];refine pcd func395 rfl rfl ?_;simp only[go_sem];refine aH fun j T=>?_
 have R:=aB bN j (some (⟨407,4,[[int 0,int 0,int 0,int 0]]⟩:Row));generalize aI bN j _=H0 at R |-;simp only[go_sem];refine aL (awN x t.o6 s.place to s.time O) ?_;simp only[go_sem];generalize X:gI x.τ t.o6 s.place to s.time=g;apply aA <;> intro h1
 ·simp only[go_sem];refine aG R (by simp) ?_;simp only[go_sem];rw[show iM x t s to close A=(s,12)by simp_all[iM]];exact .refl _
 simp only[go_sem];apply aA <;> intro Y
 ·simp only[go_sem];refine aG R (by simp) ?_;simp only[go_sem];rw[show iM x t s to close A=(s,A)by simp_all[iM]];exact .refl _
 simp only[go_sem];refine aH fun i J=>?_
 have E:j≠i:=aV R J;simp only[go_sem];refine aG (aB _ _ _) (by simp) ?_;generalize F:aI (aI H0 i _) i _=H1;have I:H1 i=some ⟨407,4,[[int to,int g.1,int (W (W (s.ν+g.1)-s.time)),int (W (s.o7+g.2.1))]]⟩:=by rw[<-F,aB];rfl
 have R:H1 j=some ⟨407,4,[[int 0,int 0,int 0,int 0]]⟩:=by rw[<-F,aF _ _ _ _ E,aF _ _ _ _ E];exact R
 clear F J;simp only[go_sem,I];apply aA <;> intro U
 ·simp only[go_sem];refine aG R (by simp) ?_;simp only[go_sem];rw[show iM x t s to close A=(s,16)by simp_all[iM,of_decide_eq_true]];exact .refl _
 ·simp only[go_sem,I];refine aG R (by simp) ?_;simp only[go_sem];rw[show iM x t s to close A=(⟨to,g.1,W (W (s.ν+g.1)-s.time),W (s.o7+g.2.1)⟩,0)by simp_all[iM,of_decide_eq_false]];exact .refl _
structure Tm where
 arrive:Int
 begin_:Int
 ω:Int
 rest:Bool
def sT(t:Tm):List AV:=[int t.arrive,int t.begin_,int t.ω,boo t.rest]
def agM(s:Tm):(sT s).length=4:=(rfl)
def aiI(s:Tm):(sT s).take 4=sT s:=(rfl)
attribute [go_sem] agM aiI
structure Sheet where
 rest:Bool
 ω:Int
 times:List Tm
 end_:Int
 o7:Int
def bT(s:Sheet):List AV:=[boo s.rest,int s.ω,.sl (s.times.map sT),int s.end_,int s.o7]
def bA:Sheet:=⟨false,0,[],0,0⟩
abbrev Xm:=St8×List Int×List Tm
def kA(x:Instance)(t:VType)(a:Xm)(v:Visit):St8×Int:=iM x t a.1 (bM x v).1.place (bM x v).1.close 14
def FP(s:Stop)(n:St8):St8:=⟨n.place,W (fX n.time s.start+s.ζ),n.ν,n.o7⟩
def nM(x:Instance)(t:VType)(a:Xm)(p:Visit×Bool):Xm:=
 (lS t (FP (bM x p.1).1 (kA x t a p.1).1) p.2,a.2.1++[(kA x t a p.1).1.ν],
   a.2.2++[⟨(kA x t a p.1).1.time,fX (kA x t a p.1).1.time (bM x p.1).1.start,(lS t (FP (bM x p.1).1 (kA x t a p.1).1) p.2).time,p.2⟩])
def oI(x:Instance)(t:VType)(a:Xm)(p:Visit×Bool):Except Int Xm:=
 if((kA x t a p.1).2 != 0)=true then .error (kA x t a p.1).2 else .ok (nM x t a p)
def vO(r:Route)(t:VType)(b:Bool):St8:=lS t ⟨t.src,fX t.start r.start,0,0⟩ b
def Bm(x:Instance)(t:VType)(b:Bool)(s0:St8)(a:Xm):Sheet×List Int×Int:=
 if((iM x t a.1 t.dst t.close 15).2 != 0)=true then(bA,[],(iM x t a.1 t.dst t.close 15).2)
 else(⟨b,s0.time,a.2.2,(iM x t a.1 t.dst t.close 15).1.time,(iM x t a.1 t.dst t.close 15).1.o7⟩,a.2.1++[(iM x t a.1 t.dst t.close 15).1.ν],0)
def Uo(x:Instance)(r:Route)(o5:List Bool)(t:VType)(b:Bool):Sheet×List Int×Int:=
 match (r.y7.zip o5.tail).foldlM (oI x t) (vO r t b,[],[])with
 | .error e=>(bA,[],e)
 | .ok a=>Bm x t b (vO r t b) a
def fV(x:Instance)(r:Route)(o5:List Bool):Sheet×List Int×Int:=
 if(!cC x r||((o5.length:Int) != ((r.y7.length+1:Nat):Int)))=true then(bA,[],2)
 else match x.types[r.type.toNat]? with
 | some t=>Uo x r o5 t (o5.getD 0 false)
 | none=>(bA,[],2)
def tW{x:Instance}{r:Route}(h:cC x r=true):0<=r.type/\r.type<(x.types.length:Int):=by simp_all[cC,cH]
def SC{α A:Type}{f:A->α->Except Int A}{l:List α}{k:Nat}{x:α}{s b:A}(E:l[k]?=some x)(h:(l.take k).foldlM f s=.ok b):(l.take (k+1)).foldlM f s=f b x:=by rw[aY E,List.foldlM_append,h];show(do let s' <-(Except.ok b:Except Int A);[x].foldlM f s')=_;simp only[List.foldlM_cons,List.foldlM_nil];show(f b x >>= fun s'=>pure s')=_;simp
def WC{α A:Type}{f:A->α->Except Int A}{l:List α}{k:Nat}{s:A}{e:Int}(h:(l.take k).foldlM f s=.error e):l.foldlM f s=.error e:=by
 conv=>lhs;rw[<-Xbt k l]
 rw[List.foldlM_append,h];rfl
theorem sR{H:aM}{i j:Nat}{r:Row}{a b:Option Row}(A:H i=some r)(E:H j=none):aI (aI H j a) j b i=some r:=by
 have h1:=aV A E
 grind[aF]
theorem rC{H:aM}{i j:Nat}{r:Row}{b:Option Row}(A:H i=some r)(h1:i≠j):aI H j b i=some r:=by grind[aF]
def dU{H:aM}{i j:Nat}{r r':Row}(A:H i=some r)(E:H j=some r')(h:(r.e == r'.e)=false):i≠j:=fun e=>by grind
def axX{H:aM}{i j k:Nat}{r a:Row}{b c:Option Row}(A:H i=some r)(E:H j=none)(F:aI H j (some a) k=none):aI (aI (aI H j (some a)) k b) j c i=some r:=by
 have h1:=aV A E;have I:=aV (fA (r':=a) A E) F
 grind[aF]
def Rv{l:List Nat}{H E H' A:aM}(J:∀k,k∉l->E k=H k)(I:∀k,k∈l->A k=H k)(F:∀k,k∉l->A k=H' k)(O:∀k row,E k=some row->H' k=some row):∀k row,H k=some row->A k=some row:=fun k row h=>by grind
def Jy{l:List Nat}{H':aM}{j:Nat}{r:Row}(E:∀k,k∈l->H' k=none)(h:H' j=some r):j∉l:=fun A=>by grind
abbrev Nw(s:St8):Row:=⟨407,4,[mG s]⟩
abbrev BJ(s:Stop):Row:=⟨58,4,[eT s]⟩
abbrev At(l:List Tm):Row:=⟨363,4,l.map sT⟩
abbrev rW(l:List Int):Row:=⟨3,1,l.map aP⟩
def avF{α A:Type}:∀{l:List α} {m:List A} {k:Nat} {a:α} {b:A},l[k]?=some a->m[k]?=some b->(l.zip m)[k]?=some (a,b):=by grind
def awL{H:aM}{b:Bool}{d e m c:Int}{A F:Nat}{E:List Tm}{dr:List Int}(I:H A=some (At E))(Rd:H F=some (rW dr)):
  Conv H (.tup [.agg [boo b,int d,.os A,int e,int m],.os F,int c]) (.tup [.agg (bT ⟨b,d,E,e,m⟩),.sl (dr.map aP),int c]):=
 .tup _ _ (.cons _ _ _ _ (.agg _ _ (.cons _ _ _ _ (.refl _) (.cons _ _ _ _ (.refl _) (.cons _ _ _ _ (.row _ _ _ I (ConvE.refl _)) (ConvL.refl _)))))
  (.cons _ _ _ _ (.row _ _ _ Rd (ConvE.refl _)) (ConvL.refl _)))
theorem J0{H:aM}{c:Int}{A:Nat}(Rd:H A=some ⟨3,1,[]⟩):
  Conv H (.tup [.agg [boo false,int 0,.sl [],int 0,int 0],.os A,int c]) (.tup [.agg (bT bA),.sl [],int c]):=
 .tup _ _ (.cons _ _ _ _ (.refl _) (.cons _ _ _ _ (.row _ _ _ Rd .nil) (ConvL.refl _)))
abbrev cZ(cs:List AV):Row:=⟨198,5,[cs]⟩
abbrev zeroCells:List AV:=[boo false,int 0,.sl [],int 0,int 0]
def avO(x:Instance)(r:Route)(o5:List Bool)(hn:NetB x.τ)(hr:r.y7.length<=1048576):PC prog 377 [.agg (aD x),.agg (bJ r),.sl (o5.map dY)] (.tup [.agg (bT (fV x r o5).1),.sl ((fV x r o5).2.1.map aP),int (fV x r o5).2.2]):=by
 refine pcb (fun t=>t == 7||t == 12||t == 59) func377 rfl rfl ?_;simp only[go_sem];refine aH fun j6 Z=>?_
 have I:=aB bN j6 (some (cZ zeroCells));generalize aI bN j6 _=H0 at I |-;simp only[go_sem];refine aH fun j7 Z=>?_
 have R7:=aB H0 j7 (some (⟨3,1,[]⟩:Row));have I:=fA (r':=(⟨3,1,[]⟩:Row)) I Z;generalize aI H0 j7 _=H1 at I R7 |-;simp only[go_sem];refine aL (FZ x r hr) ?_;simp only[go_sem,mT (show r.y7.length<=4611686018427387904 by omega)];apply aA <;> intro h1
 . simp only[go_sem];refine aG I (by simp) ?_;simp only[go_sem];refine aH fun j7 Z=>?_
   simp only[go_sem];rw[show fV x r o5=(bA,[],2)by simp_all[fV]];have n1:=aV (aB _ _ _) Z;simp only[aF _ _ _ _ n1];simp only[go_sem]
   grind[J0,aB]
 have hp:cC x r=true:=by grind
 have bh:o5.length=r.y7.length+1:=by grind
 have bf:=tW hp;obtain⟨t,ht⟩:=aK (show r.type.toNat<x.types.length by omega);obtain⟨b,hb⟩:=aK (show 0<o5.length by omega);have b0:0<=(0:Int)/\(0:Int)<(o5.length:Int):=by omega
 have eR:fV x r o5=Uo x r o5 t b:=by simp_all[fV]
 rw[eR];simp only[go_sem,aC ht,bf];refine aH fun j9 Z=>?_
 simp only[go_sem];refine aG (aB _ _ _) (by simp[kD]) ?_;generalize U:aI (aI H1 j9 _) j9 _=H2;have O:H2 j9=some (lJ t):=by rw[<-U,aB];rfl
 have I:H2 j6=some (cZ zeroCells):=by rw[<-U];grind[sR]
 have R7:H2 j7=some ⟨3,1,[]⟩:=by rw[<-U];grind[sR]
 simp only[go_sem];refine gS [j9] [(0,true),(1,true),(2,true),(3,true),(4,true),(5,true),(6,true),(7,true),(8,true),(9,true),(10,true),(11,true),(12,true),(13,false),(14,false)] (by grind) (by kernel_rfl) fun Hp Hr hp hr _ a4=>?_
 have Rp:Hp j9=_:=(hp j9 (by simp)).trans O;simp only[go_sem,Rp,aC hb,b0];refine⟨_,(ST t ⟨t.src,fX t.start r.start,0,0⟩ b).q rfl,?_⟩;simp only[go_sem];refine aH fun ac Z=>?_
 simp only[go_sem];refine aG (aB _ _ _) (by simp[mG]) ?_;simp only[go_sem];refine dO fun hd Hm ag aa=>?_
 have A:=Rv hr ag aa fun k row h=>sR h Z
 have E:=(aa ac (Jy hd (aB _ _ _))).trans (aB _ _ _);have E:Hm ac=some (Nw (vO r t b)):=E;have I:=A _ _ I;have R7:=A _ _ R7;have O:=A _ _ O;simp only[go_sem];refine gS [ac] [(0,true),(1,true),(2,true),(3,true),(4,true),(5,true),(6,false),(7,false)] (by grind) (by kernel_rfl) fun Hp Hr hp hr _ a4=>?_
 have Rp:Hp ac=_:=(hp ac (by simp)).trans E;simp only[go_sem,Rp,aC hb,b0];refine aH fun X Z=>?_
 simp only[go_sem];refine Od 2 363 4 ⟨rfl,by decide⟩ (aB _ _ _) (by simp) fun jt ar=>?_
 simp only[go_sem];refine dO fun hd Hm ag aa=>?_
 have an:∀c,aI (aI (aI Hr X (some (cZ zeroCells))) jt (some (⟨363,4,[]⟩:Row))) X c jt=some (⟨363,4,[]⟩:Row):=fun c=>by rw[aF _ _ _ _ (aV (aB _ _ _) ar).symm,aB]
 have A:=Rv hr ag aa fun k row h=>axX h Z ar
 have F:Hm X=some (cZ [boo b,int (vO r t b).time,.os jt,int 0,int 0]):=(aa X (Jy hd (aB _ _ _))).trans (aB _ _ _);have J:Hm jt=some (At []):=(aa jt (Jy hd (an _))).trans (an _);have bd:=A _ _ I;have ax:j6≠X:=by grind
 have I:=bd;have R7:=A _ _ R7;have O:=A _ _ O;have E:=A _ _ E;simp only[go_sem];refine aH fun jd Z=>?_
 have Rd:=aB Hm jd (some (⟨3,1,[]⟩:Row));have I:=fA (r':=(⟨3,1,[]⟩:Row)) I Z;have R7:=fA (r':=(⟨3,1,[]⟩:Row)) R7 Z;have O:=fA (r':=(⟨3,1,[]⟩:Row)) O Z;have E:=fA (r':=(⟨3,1,[]⟩:Row)) E Z;have F:=fA (r':=(⟨3,1,[]⟩:Row)) F Z;have J:=fA (r':=(⟨3,1,[]⟩:Row)) J Z;generalize aI Hm jd _=Hl at I R7 O E F J Rd |-;simp only[go_sem];refine ⟨fun ρ H => ∃ (k : Nat) (a : Xm) (jt jd : Nat), k <= r.y7.length /\ ((r.y7.zip o5.tail).take k).foldlM (oI x t) (vO r t b, [], []) = .ok a /\ a.2.1.length = k /\ a.2.2.length = k /\
     ρ 2=.sl (o5.map dY)/\ρ 3=.rp (aD x) 0/\ρ 4=.rp (bJ r) 0/\ρ 6=.op j6 0 0/\ρ 9=.op j9 0 0/\ρ 10=.op ac 0 0/\ρ 11=.op X 0 0/\ρ 12=.os jd/\ρ 13=int k /\
     H j6=some (cZ zeroCells)/\H j9=some (lJ t)/\H ac=some (Nw a.1)/\H X=some (cZ [boo b,int (vO r t b).time,.os jt,int 0,int 0])/\H jt=some (At a.2.2)/\H jd=some (rW a.2.1),
   fun ρ _=>r.y7.length-aT (ρ 13),⟨0,(vO r t b,[],[]),jt,jd,Xaa _,rfl,rfl,rfl,rfl,rfl,rfl,rfl,rfl,rfl,rfl,rfl,rfl,I,O,E,F,J,Rd⟩,?_⟩
 rintro ρ H ⟨k,a,jt,jd,hk,hf,bg,bc,h2,h3,h4,h6,h9,ao,ai,a6,al,I,O,E,F,J,Rd⟩;simp only[go_sem,h4,al];refine aA (fun ak=>?_) (fun az=>?_)
 . have ak:=aX ak;obtain⟨v,hv⟩:=aK ak;obtain⟨c,hc⟩:=aK (show k+1<o5.length by omega);have b1:=inB ak;have b2:=inB (show k+1<o5.length by omega);have hz:(r.y7.zip o5.tail)[k]?=some (v,c):=avF hv (by grind);have au:=SC hz hf;simp only[go_sem];refine jK [(0,true),(1,true),(2,true),(3,true),(4,true),(5,true),(6,true),(7,true),(8,true),(9,true),(10,false),(11,false),(12,false)] (by kernel_rfl) ?_;simp only[go_sem,h3,h4,al,aC hv,b1,dG];refine⟨_,(SR x v).q rfl,?_⟩;simp only[go_sem];refine aH fun aq Z=>?_
   simp only[go_sem];refine aG (aB _ _ _) (by simp[iP]) ?_;generalize U:aI (aI H aq _) aq _=H3;have ae:H3 aq=some (BJ (bM x v).1):=by rw[<-U,aB];rfl
   have A:∀i row,H i=some row->H3 i=some row:=fun i row h=>by rw[<-U];grind[sR]
   have I:=A _ _ I;have O:=A _ _ O;have E:=A _ _ E;have F:=A _ _ F;have J:=A _ _ J;have Rd:=A _ _ Rd;simp only[go_sem,h3,h9,ao,O,E,ae];refine aL (Va x t a.1 (bM x v).1.place (bM x v).1.close 14 hn) ?_;simp only[go_sem];refine aH fun ab Z=>?_
   simp only[go_sem];refine aG (aB _ _ _) (by simp[mG]) ?_;generalize U:aI (aI H3 ab _) ab _=H4;have ap:=aV E Z;have T:H4 ab=some (Nw (kA x t a v).1):=by rw[<-U,aB];rfl
   have A:∀i row,H3 i=some row->H4 i=some row:=fun i row h=>by rw[<-U];grind[sR]
   have I:=A _ _ I;have O:=A _ _ O;have E:=A _ _ E;have F:=A _ _ F;have J:=A _ _ J;have Rd:=A _ _ Rd;have ae:=A _ _ ae;simp only[go_sem];apply aA <;> intro he
   . simp only[go_sem,h6];refine aG I (by simp) ?_;simp only[go_sem];refine aH fun j7 Z=>?_
     simp only[go_sem];have n1:=aV (aB _ _ _) Z;have e:Uo x r o5 t b=(bA,[],(kA x t a v).2):=by unfold Uo;rw[WC (au.trans (if_pos he))]
     rw[e];simp only[go_sem,h6,aF _ _ _ _ n1];exact J0 (aB _ _ _)
   have au:((r.y7.zip o5.tail).take (k+1)).foldlM (oI x t) (vO r t b,[],[])=.ok (nM x t a (v,c)):=au.trans (if_neg (by grind[kA]));simp only[go_sem,a6,T];refine aU Rd ⟨rfl,rfl⟩ (by simp[cT]) (by grind) fun ah be=>?_
   generalize U:aI (aI H4 jd none) ah _=H5;have aw:H5 ah=some (rW (nM x t a (v,c)).2.1):=by rw[<-U,aB];simp[nM,aP]
   have A:∀i row,i≠jd->H4 i=some row->H5 i=some row:=fun i row hi h=>by rw[<-U];grind[cM]
   have I:=A _ _ (dU I Rd rfl) I;have O:=A _ _ (dU O Rd rfl) O;have E:=A _ _ (dU E Rd rfl) E;have F:=A _ _ (dU F Rd rfl) F;have J:=A _ _ (dU J Rd rfl) J;have ae:=A _ _ (dU ae Rd rfl) ae;have T:=A _ _ (dU T Rd rfl) T;simp only[go_sem];refine gS [ab,aq] [(0,true),(1,true),(2,true),(3,true),(4,true),(5,true),(6,true),(7,true),(8,true),(9,true),(10,true),(11,true),(12,true),(13,false),(14,false)] (by simp_all) (by kernel_rfl) fun Hp Hr hp hr _ a4=>?_
   have Rp:=(hp ab (by simp)).trans T;have Rq:=(hp aq (by simp)).trans ae;simp only[go_sem,h2,al,Rp,Rq,aQ k,aC hc,b2];refine aH fun aj Z=>?_
   simp only[go_sem];refine aG (aB _ _ _) (by simp) ?_;simp only[go_sem];refine dO fun hd Hm ag aa=>?_
   have A:=Rv hr ag aa fun k row h=>sR h Z
   have Y:Hm aj=some ⟨363,4,[[int (kA x t a v).1.time,int (fX (kA x t a v).1.time (bM x v).1.start),int 0,boo c]]⟩:=(aa aj (Jy hd (aB _ _ _))).trans (aB _ _ _);have a7:jt≠aj:=by
     have:Hr jt=some (At a.2.2):=(hr jt (by simp[dU J T rfl,dU J ae rfl])).trans J
     grind
   have I:=A _ _ I;have O:=A _ _ O;have E:=A _ _ E;have F:=A _ _ F;have J:=A _ _ J;have Rd:=A _ _ aw;have ae:=A _ _ ae;have T:=A _ _ T;simp only[go_sem,Y,ae];refine bP so3 T ⟨by simp,rfl,by simp⟩ ?_;generalize U:aI Hm ab _=H6;have a9:H6 ab=some (Nw (FP (bM x v).1 (kA x t a v).1)):=by rw[<-U,aB];rfl
   have A:∀i row,i≠ab->Hm i=some row->H6 i=some row:=fun i row hi h=>by rw[<-U];exact rC h hi
   have I:=A _ _ (dU I T rfl) I;have O:=A _ _ (dU O T rfl) O;have E:=A _ _ ap E;have F:=A _ _ (dU F T rfl) F;have J:=A _ _ (dU J T rfl) J;have Rd:=A _ _ (dU Rd T rfl) Rd;have Y:=A _ _ (dU Y T rfl) Y;have T:=a9;simp only[go_sem];refine gS [j9,ab] [(0,true),(1,true),(2,true),(3,true),(4,true),(5,true),(6,true),(7,true),(8,false)] (by simp_all) (by kernel_rfl) fun Hp Hr hp hr _ a4=>?_
   have Rp:=(hp j9 (by simp)).trans O;have Rq:=(hp ab (by simp)).trans T;have ba:ac∉[j9,ab]:=by simp[ap,dU E O rfl]
   simp only[go_sem,h2,h9,al,Rp,Rq,aQ k,aC hc,b2];refine⟨_,(ST t (FP (bM x v).1 (kA x t a v).1) c).q rfl,?_⟩;simp only[go_sem,ao];refine aG ((hr _ ba).trans E) (by simp[mG]) ?_;simp only[go_sem];refine dO fun hd Hn ag aa=>?_
   have a5:Hn ac=some (Nw (nM x t a (v,c)).1):=(aa ac ba).trans (aB _ _ _);have A:∀i row,i≠ac->H6 i=some row->Hn i=some row:=fun i row hi h=>by
     by_cases e:i∈[j9,ab]
     . rw[ag i e];exact h
     . rw[aa i e];exact rC ((hr i e).trans h) hi
   have I:=A _ _ (dU I E rfl) I;have O:=A _ _ (dU O E rfl) O;have F:=A _ _ (dU F E rfl) F;have J:=A _ _ (dU J E rfl) J;have Rd:=A _ _ (dU Rd E rfl) Rd;have Y:=A _ _ (dU Y E rfl) Y;have E:=a5;simp only[go_sem,ao,E];refine bP so3 Y ⟨by simp,rfl,by simp⟩ ?_;generalize U:aI Hn aj _=H7;have a8:H7 aj=some ⟨363,4,[sT ⟨(kA x t a v).1.time,fX (kA x t a v).1.time (bM x v).1.start,(nM x t a (v,c)).1.time,c⟩]⟩:=by rw[<-U,aB];rfl
   have A:∀i row,i≠aj->Hn i=some row->H7 i=some row:=fun i row hi h=>by rw[<-U];exact rC h hi
   have I:=A _ _ (dU I Y rfl) I;have O:=A _ _ (dU O Y rfl) O;have E:=A _ _ (dU E Y rfl) E;have F:=A _ _ (dU F Y rfl) F;have J:=A _ _ a7 J;have Rd:=A _ _ (dU Rd Y rfl) Rd;simp only[go_sem,ai,F,a8];refine aU J ⟨rfl,rfl⟩ (by simp[cT,sT]) (by simp;omega) fun av ar=>?_
   generalize U:aI (aI H7 jt none) av _=H8;have bb:H8 av=some (At (nM x t a (v,c)).2.2):=by rw[<-U,aB];simp[nM,sT]
   have A:∀i row,i≠jt->H7 i=some row->H8 i=some row:=fun i row hi h=>by rw[<-U];exact cM h hi.symm ar
   have I:=A _ _ (dU I J rfl) I;have O:=A _ _ (dU O J rfl) O;have E:=A _ _ (dU E J rfl) E;have F:=A _ _ (dU F J rfl) F;have Rd:=A _ _ (dU Rd J rfl) Rd;simp only[go_sem,ai];refine bP Zp F ⟨by simp,rfl,by simp⟩ ?_;generalize U:aI H8 X _=H9;have am:H9 X=some (cZ [boo b,int (vO r t b).time,.os av,int 0,int 0]):=by rw[<-U,aB];rfl
   have A:∀i row,i≠X->H8 i=some row->H9 i=some row:=fun i row hi h=>by rw[<-U];exact rC h hi
   have I:=A _ _ ax I;have O:=A _ _ (dU O F rfl) O;have E:=A _ _ (dU E F rfl) E;have J:=A _ _ (dU bb F rfl) bb;have Rd:=A _ _ (dU Rd F rfl) Rd;simp only[go_sem,al,aQ k];refine⟨⟨k+1,nM x t a (v,c),av,ah,ak,au,by simp[nM,bg],by simp[nM,bc],h2,h3,h4,h6,h9,ao,ai,rfl,rfl,I,O,E,am,J,Rd⟩,msr ak⟩
 . have az:=aZ hk az;subst az;have hf:(r.y7.zip o5.tail).foldlM (oI x t) (vO r t b,[],[])=.ok a:=by grind[Xai]
   have eO:Uo x r o5 t b=Bm x t b (vO r t b) a:=by grind[Uo]
   rw[eO];simp only[go_sem,h3,h9,ao,O,E];refine aL (Va x t a.1 t.dst t.close 15 hn) ?_;simp only[go_sem];refine aH fun a0 Z=>?_
   simp only[go_sem];refine aG (aB _ _ _) (by simp[mG]) ?_;generalize U:aI (aI H a0 _) a0 _=H3;have af:H3 a0=some (Nw (iM x t a.1 t.dst t.close 15).1):=by rw[<-U,aB];rfl
   have A:∀i row,H i=some row->H3 i=some row:=fun i row h=>by rw[<-U];grind[sR]
   have I:=A _ _ I;have F:=A _ _ F;have J:=A _ _ J;have Rd:=A _ _ Rd;simp only[go_sem];apply aA <;> intro he
   . simp only[go_sem,h6];refine aG I (by simp) ?_;simp only[go_sem];refine aH fun j7 Z=>?_
     simp only[go_sem];have n1:=aV (aB _ _ _) Z;rw[show Bm x t b (vO r t b) a=(bA,[],(iM x t a.1 t.dst t.close 15).2)from if_pos he];simp only[go_sem,h6,aF _ _ _ _ n1]
     grind[J0,aB]
   rw[show Bm x t b (vO r t b) a=_ from if_neg (by grind)];simp only[go_sem,a6,af];refine aU Rd ⟨rfl,rfl⟩ (by simp[cT]) (by grind) fun ah be=>?_
   generalize U:aI (aI H3 jd none) ah _=H5;have aw:H5 ah=some (rW (a.2.1++[(iM x t a.1 t.dst t.close 15).1.ν])):=by rw[<-U,aB];simp[aP]
   have A:∀i row,i≠jd->H3 i=some row->H5 i=some row:=fun i row hi h=>by rw[<-U];grind[cM]
   have I:=A _ _ (dU I Rd rfl) I;have F:=A _ _ (dU F Rd rfl) F;have J:=A _ _ (dU J Rd rfl) J;have af:=A _ _ (dU af Rd rfl) af;simp only[go_sem,ai,af];refine bP so3 F ⟨by simp,rfl,by simp⟩ ?_;have ay:=dU af F rfl;simp only[go_sem,af,ai,aF _ _ _ _ ay];refine bP so3 (aB _ _ _) ⟨by simp,rfl,by simp⟩ ?_;generalize U:aI (aI H5 X _) X _=H6;have am:H6 X=some (cZ [boo b,int (vO r t b).time,.os jt,int (iM x t a.1 t.dst t.close 15).1.time,int (iM x t a.1 t.dst t.close 15).1.o7]):=by rw[<-U,aB];rfl
   have A:∀i row,i≠X->H5 i=some row->H6 i=some row:=fun i row hi h=>by rw[<-U];simp_all[rC]
   have I:=A _ _ ax I;have J:=A _ _ (dU J F rfl) J;have Rd:=A _ _ (dU aw F rfl) aw;simp only[go_sem,h6,ai,am];refine aG I (by simp) ?_;simp only[go_sem,h6];exact awL (rC J (dU J I rfl)) (rC Rd (dU Rd I rfl))
def acU(x:Instance)(r:Route)(o5:List Bool)(J:NetB x.τ)(I:r.y7.length<=1048576):PC prog 341 [.agg (aD x),.agg (bJ r),.sl (o5.map dY)] (.tup [.agg (bT (fV x r o5).1),int (fV x r o5).2.2]):=by
 refine pcd func341 rfl rfl ?_;simp only[go_sem];refine aH fun A F=>?_
 have E:=aB bN A (some (cZ zeroCells));generalize aI bN A _=H0 at E |-;simp only[go_sem];refine aL (avO x r o5 J I) ?_;simp only[go_sem];refine aH fun O F=>?_
 simp only[go_sem];refine aG (aB _ _ _) (by simp[bT]) ?_;simp only[go_sem];refine aG (sR E F) (by grind) ?_;simp only[go_sem];exact .refl _
def pS(n:Nat):Nat->List Bool->List Bool×Bool
 | 0,_=>([],false)
 | k+1,l=>if n<=k then(if l.getD k false=true then pS n k (l.set k false)else(l.set k true,true))else([],false)
def kT(l:List Bool)(n:Nat):List Bool×Bool:=pS n l.length l
def Gf:List Bool->Nat
 | []=>0
 | b::r=>(if b=true then 2^r.length else 0)+Gf r
def ZG:∀l,Gf l<2^l.length
 | []=>by simp[Gf]
 | b::r=>by have:=ZG r;simp only[Gf,Xag,Xbo];split <;> omega
def Vi:∀(l:List Bool) (k:Nat) (b:Bool),l[k]?=some b->Gf (l.set k (!b))+(if b=true then 2^(l.length-1-k)else 0)=Gf l+(if b=true then 0 else 2^(l.length-1-k))
 | [],k,b,h=>by grind
 | a::r,0,b,h=>by grind[Gf]
 | a::r,k+1,b,h=>by have:=Vi r k b (by simpa using h);simp only[List.set_cons_succ,Gf,List.length_set,Xag];rw[show r.length+1-1-(k+1)=r.length-1-k by omega];cases b <;> simp at this |- <;> omega
def Ch(n:Nat):∀(k:Nat) (l:List Bool),k<=l.length->(pS n k l).2=true->(pS n k l).1.length=l.length/\Gf (pS n k l).1=Gf l+2^(l.length-k)
 | 0,l,_,h=>by grind[pS]
 | k+1,l,hk,h=>by
  obtain⟨b,J⟩:=aK (show k<l.length by omega);have E:=Vi l k b J;have F:l.getD k false=b:=by grind
  have A:2^(l.length-k)=2*2^(l.length-(k+1)):=by rw[show l.length-k=(l.length-(k+1))+1 by omega,Xbo];omega
  have O:l.length-1-k=l.length-(k+1):=by omega
  rw[O]at E;unfold pS at h |-;rw[F]at h |-;by_cases I:n<=k
  ·rw[if_pos I]at h |-;cases b
   ·grind
   ·simp only[if_true]at h |- E;have ih:=Ch n k (l.set k false) (by simp;omega) h;simp only[List.length_set]at ih;refine⟨ih.1,?_⟩;rw[ih.2,A];simp only[Xcc]at E;omega
  grind
def alF:AV->Nat
 | .v (.int _ n)=>(n+1).toNat
 | _=>0
theorem Yn{k n}:alF (.v (.int k n))=(n+1).toNat:=(rfl)
def Hg:∀l:List Bool,cT 1 (l.map dY)
 | []=>trivial
 | _::r=>⟨rfl,Hg r⟩
abbrev JU(l:List Bool):Row:=⟨4,1,l.map dY⟩
def RH(l0:List Bool)(n:Nat)(hl:l0.length<=1048577):PC prog 342 [.sl (l0.map dY),int n] (.tup [.sl ((kT l0 n).1.map dY),boo (kT l0 n).2]):=by
 refine pcb (fun t=>t == 4||t == 6) func342 rfl rfl ?_;simp only[go_sem];refine aH fun j4 Z=>?_
 simp only[go_sem];refine aH fun Y aa=>?_
 simp only[go_sem];refine aU (aB _ _ _) ⟨rfl,rfl⟩ (Hg _) (by grind) fun j hj=>?_
 generalize hG:aI (aI (aI (aI bN j4 _) Y _) Y none) j _=H0;have R:H0 j=some (JU l0):=by rw[<-hG,aB];rfl
 have w1:IntKind.i64.wrap ((l0.length:Int)-1)=(l0.length:Int)-1:=aW (by omega);simp only[go_sem,R,w1];refine⟨fun ρ H=>∃(k:Nat) (l:List Bool),k<=l.length/\l.length=l0.length/\pS n k l=kT l0 n/\ρ 1=int n/\ρ 6=.os j/\ρ 7=int ((k:Int)-1)/\H j=some (JU l),fun ρ _=>alF (ρ 7),⟨l0.length,l0,Xae _,rfl,rfl,rfl,rfl,rfl,R⟩,?_⟩;rintro ρ H ⟨k,l,hk,ab,A,h1,J,E,R⟩;cases k with
 | zero=>
  simp only[go_sem,h1,E];refine aA (fun X=>by simp at X;omega) (fun _=>?_);simp only[go_sem];refine aH fun j' U=>?_
  simp only[go_sem];rw[<-A];exact .tup _ _ (.cons _ _ _ _ (.row _ _ _ (aB _ _ _) .nil) (ConvL.refl _))
 | succ k=>
  rw[show((k+1:Nat):Int)-1=(k:Int)by omega]at E;simp only[go_sem,h1,E];obtain⟨b,X⟩:=aK (show k<l.length by omega);have O:l.getD k false=b:=by grind
  have T:=inB (show k<l.length by omega);refine aA (fun I=>?_) (fun F=>?_)
  ·have I:n<=k:=by grind
   unfold pS at A;rw[if_pos I,O]at A;simp only[go_sem,J,E,R,aC X,T,show k<l.length from by omega];apply aA <;> intro hc
   ·simp only[go_sem,J,E,R,T];refine bP so4 R ⟨by grind,rfl,by simp⟩ ?_;simp only[go_sem,J];rw[if_neg (by grind)]at A;rw[<-A];refine .tup _ _ (.cons _ _ _ _ (.row _ _ _ (aB _ _ _) ?_) (ConvL.refl _));simp_all[dY,ConvE.refl]
   ·simp only[go_sem,J,E,R,T];refine bP so4 R ⟨by grind,rfl,by simp⟩ ?_;rw[if_pos (by grind)]at A;have w2:IntKind.i64.wrap ((k:Int)-1)=(k:Int)-1:=aW (by omega);simp only[go_sem,E,w2];refine⟨⟨k,l.set k false,by grind,by grind,A,h1,J,rfl,?_⟩,by grind[Yn]⟩;simp_all[dY]
  ·have F:¬n<=k:=by grind
   unfold pS at A;rw[if_neg F]at A;simp only[go_sem];refine aH fun j' U=>?_
   simp only[go_sem];rw[<-A];exact .tup _ _ (.cons _ _ _ _ (.row _ _ _ (aB _ _ _) .nil) (ConvL.refl _))
def jJ(x:Instance)(r:Route)(c:List Bool)(b:Sheet×Bool):Sheet×Bool:=
 if((fV x r c).2.2 == 0&&(!b.2||decide ((fV x r c).1.end_<b.1.end_)))=true then((fV x r c).1,true)else b
def sG(x:Instance)(r:Route)(m:Nat):Nat->List Bool×Bool->Sheet×Bool->Sheet×Bool
 | 0,_,b=>b
 | f+1,c,b=>if c.2=true then sG x r m f (kT c.1 m) (jJ x r c.1 b)else b
def Bl(c:List Bool×Bool):Nat:=if c.2=true then 2^c.1.length-Gf c.1 else 0
def dE(r:Route):List Bool:=r.o5++List.replicate (r.y7.length+1-r.o5.length) false
def Gi(b:Sheet×Bool)(first:Int):Sheet×Int:=if b.2=true then(b.1,0)else(bA,first)
def mI(x:Instance)(r:Route):Sheet×Int:=
 if(!cC x r||decide ((r.o5.length:Int)>((r.y7.length+1:Nat):Int)))=true then(bA,2)
 else Gi (sG x r r.o5.length (Bl (kT (dE r) r.o5.length)) (kT (dE r) r.o5.length) ((fV x r (dE r)).1,(fV x r (dE r)).2.2 == 0)) (fV x r (dE r)).2.2
theorem CJ{x:Instance}{r:Route}{m:Nat}{c:List Bool×Bool}{b:Sheet×Bool}(h:c.2=false):∀f,sG x r m f c b=b
 | 0=>rfl
 | f+1=>by simp_all[sG]
def Ck{x:Instance}{r:Route}{m:Nat}{c:List Bool×Bool}{b:Sheet×Bool}(h:c.2=true):sG x r m (Bl c) c b=sG x r m (Bl (kT c.1 m)) (kT c.1 m) (jJ x r c.1 b)/\Bl (kT c.1 m)<Bl c/\((kT c.1 m).2=true->(kT c.1 m).1.length=c.1.length):=by
 have F:=ZG c.1;have e:Bl c=(2^c.1.length-Gf c.1-1)+1:=by unfold Bl;grind
 have J:sG x r m (Bl c) c b=sG x r m (2^c.1.length-Gf c.1-1) (kT c.1 m) (jJ x r c.1 b):=by simp_all[sG]
 cases A:(kT c.1 m).2 with
 | false=>grind[CJ,Bl]
 | true=>
  have E:=Ch m c.1.length c.1 (Xae _) A;rw[Nat.sub_self]at E;have I:Bl (kT c.1 m)=2^c.1.length-Gf c.1-1:=by
   unfold Bl;rw[A,if_pos rfl]
   grind[kT]
  exact⟨by grind,by omega,fun _=>E.1⟩
def QU:AV->Bool
 | .v (.bool b)=>b
 | _=>false
def JR:AV->List Bool
 | .sl es=>es.map fun c=>QU (c.getD 0 .any)
 | _=>[]
def Ct(l:List Bool):JR (.sl (l.map dY))=l:=by simp[JR,dY,QU,Function.comp_def]
abbrev Lm(s:Sheet):Row:=⟨198,5,[bT s]⟩
def gR(s:Sheet):(bT s).length=5:=(rfl)
def Ff(s:Sheet):(bT s).getD 3 .any=int s.end_:=(rfl)
def EM(s:Sheet):(bT s).getD 4 .any=int s.o7:=(rfl)
def A0(s:Sheet):(bT s).take 5=bT s:=(rfl)
attribute [go_sem] Ff EM A0
def LY{a:List Bool}{n:Nat}(h:a.length<=n):((List.replicate n [boo false]).take 0++(a.map dY).take (min (a.map dY).length (List.replicate n [boo false]).length))++(List.replicate n [boo false]).drop (0+min (a.map dY).length (List.replicate n [boo false]).length)=(a++List.replicate (n-a.length) false).map dY:=by simp_all[dY,Xai]
def aqD(x:Instance)(r:Route)(hn:NetB x.τ)(hr:r.y7.length<=1048576):PC prog 295 [.agg (aD x),.agg (bJ r)] (.tup [.agg (bT (mI x r).1),int (mI x r).2]):=by
 refine pcb (fun t=>t == 39) func295 rfl rfl ?_;simp only[go_sem];refine aH fun J hj=>?_
 have A:=aB bN J (some (cZ zeroCells));generalize aI bN J _=H0 at A |-;simp only[go_sem,mT (show r.y7.length<=4611686018427387904 by omega)];refine aL (FZ x r hr) ?_;simp only[go_sem];apply aA <;> intro h1
 . simp only[go_sem];refine aG A (by simp) ?_;simp only[go_sem];rw[show mI x r=(bA,2)from if_pos h1];exact .refl _
 have hm:r.o5.length<=r.y7.length+1:=by grind
 rw[show mI x r=_ from if_neg (by grind)];simp only[go_sem];refine⟨by omega,?_⟩;refine aH fun j7 hj=>?_
 simp only[go_sem];refine ZX aBh (aB _ _ _) (.inl ⟨rfl,rfl,rfl⟩) (.inl rfl) rfl (Hg _) ?_;generalize T:aI (aI H0 j7 _) j7 _=H1;have af:=aV A hj;have R7:H1 j7=some (JU (dE r)):=by rw[<-T,aB];exact congrArg (fun es=>some (⟨4,1,es⟩:Row)) (LY hm)
 have A:H1 J=some (cZ zeroCells):=by rw[<-T];grind[sR]
 simp only[go_sem];refine Dz rfl R7 fun H2 _ hH=>?_
 have A:=(hH J af).trans A;simp only[go_sem];refine aL (acU x r (dE r) hn hr) ?_;simp only[go_sem];refine aH fun X hj=>?_
 simp only[go_sem];refine aG (aB _ _ _) (by simp[bT]) ?_;have ak:=aV A hj;generalize T:aI (aI H2 X _) X _=H3;have I:H3 X=some (Lm (fV x r (dE r)).1):=by rw[<-T,aB];rfl
 have A:H3 J=some (cZ zeroCells):=by rw[<-T];grind[sR]
 simp only[go_sem];have ag:(dE r).length=r.y7.length+1:=by grind[dE]
 refine aL (RH (dE r) r.o5.length (by omega)) ?_;simp only[go_sem];generalize ae:(fV x r (dE r)).2.2=first
 generalize al:((fV x r (dE r)).1,first == 0)=b0;generalize ah:kT (dE r) r.o5.length=c0;have ac:c0.2=true->c0.1.length=r.y7.length+1:=fun h=>by rw[<-ah]at h |-;rw[<-ag];exact(Ch r.o5.length (dE r).length (dE r) (Xae _) h).1
 have e1:(fV x r (dE r)).1=b0.1:=by grind
 have e2:(first == 0)=b0.2:=by grind
 rw[e1]at I;rw[e2];refine ⟨fun ρ H => ∃ (c : List Bool × Bool) (b : Sheet × Bool), sG x r r.o5.length (Bl c) c b = sG x r r.o5.length (Bl c0) c0 b0 /\ (c.2 = true -> c.1.length = r.y7.length + 1) /\
     ρ 2=.rp (aD x) 0/\ρ 3=.rp (bJ r) 0/\ρ 4=.op J 0 0/\ρ 7=.sl (c.1.map dY)/\ρ 8=.op X 0 0/\ρ 9=int first/\ρ 10=boo b.2/\ρ 11=boo c.2/\H J=some (cZ zeroCells)/\H X=some (Lm b.1),
   fun ρ _=>Bl (JR (ρ 7),QU (ρ 11)),⟨c0,b0,rfl,ac,rfl,rfl,rfl,rfl,rfl,rfl,rfl,rfl,A,I⟩,?_⟩
 rintro ρ H ⟨c,b,hg,ai,h2,h3,O,h7,U,h9,F,Z,A,I⟩;have am:Bl (JR (ρ 7),QU (ρ 11))=Bl c:=by rw[h7,Z,Ct];rfl
 simp only[go_sem,Z];apply aA <;> intro hc
 . obtain⟨s1,s2,s3⟩:=Ck (x:=x) (r:=r) (m:=r.o5.length) (b:=b) hc;simp only[go_sem,h2,h3,h7];refine aL (acU x r c.1 hn hr) ?_;simp only[go_sem];refine aH fun ab hj=>?_
   simp only[go_sem];refine aG (aB _ _ _) (by simp[bT]) ?_;generalize T:aI (aI H ab _) ab _=H4;have Y:H4 ab=some (Lm (fV x r c.1).1):=by rw[<-T,aB];rfl
   have A:H4 J=some (cZ zeroCells):=by rw[<-T];grind[sR]
   have aj:=(aV I hj).symm;have I:H4 X=some (Lm b.1):=by rw[<-T];grind[sR]
   simp only[go_sem,U,F,I,Y];refine bO (fun E H'=>E 2=.rp (aD x) 0/\E 3=.rp (bJ r) 0/\E 4=.op J 0 0/\E 7=.sl (c.1.map dY)/\E 8=.op X 0 0/\E 9=int first/\E 10=boo (jJ x r c.1 b).2/\H' J=some (cZ zeroCells)/\H' X=some (Lm (jJ x r c.1 b).1)) ?_ fun K hK=>aA (fun hb=>?_) (fun hb=>?_)
   . clear A I Y h2 h3 O h7 U h9 F Z;rintro ρ H ⟨h2,h3,O,h7,U,h9,F,A,I⟩;simp only[go_sem,h3,h7];refine aL (RH c.1 r.o5.length (by grind)) ?_;simp only[go_sem];refine⟨⟨kT c.1 r.o5.length,jJ x r c.1 b,by grind,fun h=>(s3 h).trans (ai hc),h2,h3,O,rfl,U,h9,F,rfl,A,I⟩,?_⟩;rw[Ct,Ct];exact s2
   . simp only[go_sem,U,Y];refine aG I (by simp[bT]) ?_;simp only[go_sem];have e:jJ x r c.1 b=((fV x r c.1).1,true):=if_pos hb;rw[e]at hK;refine hK _ _ ⟨h2,h3,O,h7,U,h9,rfl,?_,?_⟩
     . grind[rC]
     . rw[aB];rfl
   . simp only[go_sem];have e:jJ x r c.1 b=b:=if_neg (by grind);rw[e]at hK;exact hK _ _ ⟨h2,h3,O,h7,U,h9,F,A,I⟩
 . have aa:sG x r r.o5.length (Bl c) c b=b:=CJ hc _;rw[<-hg,aa];simp only[go_sem,F];apply aA <;> intro hb
   . simp only[go_sem,O,h9];refine aG A (by simp) ?_;simp only[go_sem,O];rw[show Gi b first=(bA,first)from if_neg (by grind)];exact .refl _
   . simp only[go_sem,O,U,I];refine aG A (by simp[bT]) ?_;simp only[go_sem,O];rw[show Gi b first=(b.1,0)from if_pos (by grind)];exact .refl _
def cP(s:Score):(bD s).length=4:=(rfl)
def Bd(s:Score):(bD s).getD 0 .any=int s.cost:=(rfl)
def A7(s:Score):(bD s).getD 1 .any=int s.moved:=(rfl)
def BQ(s:Score):(bD s).getD 2 .any=int s.other:=(rfl)
def Ba(s:Score):(bD s).getD 3 .any=int s.work:=(rfl)
def vM(s:Score):(bD s).take 4=bD s:=(rfl)
attribute [go_sem] gR X0 cP Bd A7 BQ Ba vM
abbrev nR(s:Score):Row:=⟨125,4,[bD s]⟩
def Kv(o:Order)(t:Int):Bool:=o.now != -1&&o.now != t
def Lq(o:Order)(t:Int):Bool:=o.last != -1&&o.last != t
def B7(o:Order)(t:Int)(a:Score):Score:=if Kv o t=true then⟨a.cost,W (a.moved+1),a.other,a.work⟩else a
def A5(o:Order)(t:Int)(a:Score):Score:=if Lq o t=true then⟨a.cost,a.moved,W (a.other+1),a.work⟩else a
def gE(x:Instance)(r:Route)(a:Score)(i:Nat):Score:=
 if(cH (gA r.y7 i) x.y5.length|| !sA r.y7 i)=true then a
 else match x.y5[(gA r.y7 i).toNat]? with
 | some o=>A5 o r.type (B7 o r.type a)
 | none=>a
def yD(t:VType)(s:Sheet):Score:=
 ⟨W (W (t.fixed+W (t.perMile*s.o7))+W (t.perTick*W (s.end_-t.start))),0,0,
   W (W (Int.tdiv (W (s.end_-t.start)) 64)*W (Int.tdiv (W (s.end_-t.start)) 64))⟩
def XP(x:Instance)(r:Route)(s:Sheet)(t:VType):Score:=(List.range r.y7.length).foldl (gE x r) (yD t s)
def oD(x:Instance)(r:Route)(s:Sheet):Score:=
 if cH r.type x.types.length=true then bK else match x.types[r.type.toNat]? with
 | some t=>XP x r s t
 | none=>bK
def ahA(x:Instance)(r:Route)(s:Sheet)(hr:r.y7.length<=1048576):PC prog 296 [.agg (aD x),.agg (bJ r),.agg (bT s)] (.agg (bD (oD x r s))):=by
 refine pcd func296 rfl rfl ?_;simp only[go_sem];refine aH fun Z hj=>?_
 have J:=aB bN Z (some (⟨125,4,[[int 0,int 0,int 0,int 0]]⟩:Row));generalize aI bN Z _=H0 at J |-;simp only[go_sem];apply aA <;> intro h1
 . simp only[go_sem];refine aG J (by simp) ?_;simp only[go_sem];rw[show oD x r s=bK from if_pos h1];exact .refl _
 have af:0<=r.type/\r.type<(x.types.length:Int):=by grind
 obtain⟨t,ht⟩:=aK (show r.type.toNat<x.types.length by omega);rw[show oD x r s=XP x r s t by simp_all[oD,if_neg,cH]];simp only[go_sem,aC ht,af];refine aH fun j7 hj=>?_
 simp only[go_sem];refine aG (aB _ _ _) (by simp[kD]) ?_;generalize hG:aI (aI H0 j7 _) j7 _=H1;have R7:H1 j7=some (lJ t):=by rw[<-hG,aB];rfl
 have J:H1 Z=some (⟨125,4,[[int 0,int 0,int 0,int 0]]⟩:Row):=by rw[<-hG];grind[sR]
 clear hG hj;simp only[go_sem,R7];refine⟨by decide,by decide,?_⟩;refine aH fun j9 hj=>?_
 simp only[go_sem];refine aG (aB _ _ _) (by simp) ?_;have ac:=aV J hj;generalize hG:aI (aI H1 j9 _) j9 _=H2;have X:H2 j9=some (nR (yD t s)):=by rw[<-hG,aB];rfl
 have J:H2 Z=some (⟨125,4,[[int 0,int 0,int 0,int 0]]⟩:Row):=by rw[<-hG];grind[sR]
 clear hG hj R7;simp only[go_sem];refine ⟨fun ρ H => ∃ k : Nat, k <= r.y7.length /\ ρ 3 = .rp (aD x) 0 /\ ρ 4 = .rp (bJ r) 0 /\ ρ 6 = .op Z 0 0 /\ ρ 9 = .op j9 0 0 /\ ρ 10 = int k /\ H Z = some (⟨125, 4, [[int 0, int 0, int 0, int 0]]⟩ : Row) /\
     H j9=some (nR (((List.range r.y7.length).take k).foldl (gE x r) (yD t s))),fun ρ _=>r.y7.length-aT (ρ 10),⟨0,Xaa _,rfl,rfl,rfl,rfl,rfl,J,X⟩,?_⟩
 rintro ρ H ⟨k,hk,U,O,Y,T,E,J,X⟩;simp only[go_sem,O,E];refine aA (fun I=>?_) (fun aa=>?_)
 . have I:=aX I;obtain⟨v,hv⟩:=aK I;have b1:=inB I;have hs:((List.range r.y7.length).take (k+1)).foldl (gE x r) (yD t s)=gE x r (((List.range r.y7.length).take k).foldl (gE x r) (yD t s)) k:=by simp_all[aY]
   generalize hA:((List.range r.y7.length).take k).foldl (gE x r) (yD t s)=A at X hs;have ev:gA r.y7 k=v.order:=jN hv;simp only[go_sem,U,O,E,aC hv,b1];refine⟨_,fun _=>(Xk r.y7 k hr I).q rfl,?_⟩;simp only[go_sem];apply aA <;> intro h2
   . have e:gE x r A k=A:=by simp_all[gE,cH]
     simp only[go_sem,E,aQ k];exact⟨⟨k+1,I,U,O,Y,T,rfl,J,by grind⟩,msr I⟩
   have ag:cH v.order x.y5.length=false:=(Xam.1 h2).1;have ab:0<=v.order/\v.order<(x.y5.length:Int):=by grind
   obtain⟨o,ho⟩:=aK (show v.order.toNat<x.y5.length by omega);have e:gE x r A k=A5 o r.type (B7 o r.type A):=by simp_all[gE,if_neg]
   rw[e]at hs;simp only[go_sem];refine dC ?_;simp only[go_sem,U,O,aC ho,ab];refine bO (fun F H'=>F 3=.rp (aD x) 0/\F 4=.rp (bJ r) 0/\F 6=.op Z 0 0/\F 9=.op j9 0 0/\F 10=int k/\F 11=int v.order/\H' Z=some (⟨125,4,[[int 0,int 0,int 0,int 0]]⟩:Row)/\H' j9=some (nR (B7 o r.type A))) ?_ fun K hK=>aA (fun hb=>?_) (fun hb=>?_)
   . clear J X U O Y T E;rintro ρ H ⟨U,O,Y,T,E,ae,J,X⟩;simp only[go_sem];refine dC ?_;simp only[go_sem,U,O,ae,aC ho,ab];refine iO (fun F H'=>F 3=.rp (aD x) 0/\F 4=.rp (bJ r) 0/\F 6=.op Z 0 0/\F 9=.op j9 0 0/\F 10=int k/\H' Z=some (⟨125,4,[[int 0,int 0,int 0,int 0]]⟩:Row)/\H' j9=some (nR (A5 o r.type (B7 o r.type A)))) ?_ fun K hK _ _=>aA (fun hb=>?_) (fun hb=>?_)
     . clear J X U O Y T E ae;rintro ρ H ⟨U,O,Y,T,E,J,X⟩;simp only[go_sem,E,aQ k];exact⟨⟨k+1,I,U,O,Y,T,rfl,J,by grind⟩,msr I⟩
     . simp only[go_sem,T,X];refine bP so3 X ⟨by simp,rfl,by simp⟩ ?_;simp only[go_sem];refine hK _ _ ⟨U,O,Y,T,E,rC J ac,?_⟩;rw[aB,A5,if_pos (show Lq o r.type=true from hb)];rfl
     . simp only[go_sem];refine hK _ _ ⟨U,O,Y,T,E,J,?_⟩;simp_all[A5,if_neg,Lq]
   . simp only[go_sem,T,X];refine bP so3 X ⟨by simp,rfl,by simp⟩ ?_;simp only[go_sem];refine hK _ _ ⟨U,O,Y,T,E,rfl,rC J ac,?_⟩;rw[aB,B7,if_pos (show Kv o r.type=true from hb)];rfl
   . simp only[go_sem];refine hK _ _ ⟨U,O,Y,T,E,rfl,J,?_⟩;simp_all[B7,if_neg,Kv]
 . have aa:=aZ hk aa;subst aa;simp only[go_sem,Y,T,X];refine aG J (by simp[bD]) ?_;simp only[go_sem,Y];rw[Xai (by simp)];exact .refl _
structure InsB(x:Instance):Prop where
 τ:NetB x.τ
 types:x.types.length<=1048576
 y5:x.y5.length<=1048576
 apart:x.apart.length<=1048576
 before:x.before.length<=1048576
def Fv{x:Instance}{l:List Visit}(h:fP x l=0):∀v∈l,0<=v.order/\v.order<(x.y5.length:Int):=by
 intro v A;by_cases E:(l.any fun v=>cH v.order x.y5.length)=true
 ·simp_all[fP]
 simp_all[cH]
def yZ(x:Instance)(t:VType)(v:Visit):Bool:=match x.y5[v.order.toNat]? with|some o=>tO t.l7 o.l7|none=>false
def Ny(x:Instance)(r:Route)(t:VType):Sheet×Score×Int:=
 if(fP x r.y7 != 0)=true then(bA,bK,fP x r.y7)
 else if(r.y7.any fun v=> !yZ x t v)=true then(bA,bK,18)
 else if(BA x r != 0)=true then(bA,bK,BA x r)
 else if((mI x r).2 != 0)=true then(bA,bK,(mI x r).2)
 else((mI x r).1,oD x r (mI x r).1,0)
def qS(x:Instance)(r:Route):Sheet×Score×Int:=
 if cH r.type x.types.length=true then(bA,bK,2)else match x.types[r.type.toNat]? with
 | some t=>Ny x r t
 | none=>(bA,bK,2)
abbrev KB:List AV:=[int 0,int 0,int 0,int 0]
def LL{H:aM}{c:Int}:Conv H (.tup [.agg zeroCells,.agg KB,int c]) (.tup [.agg (bT bA),.agg (bD bK),int c]):=.refl _
def Sv(x:Instance)(r:Route)(hx:InsB x)(hr:r.y7.length<=1048576):PC prog 233 [.agg (aD x),.agg (bJ r)] (.tup [.agg (bT (qS x r).1),.agg (bD (qS x r).2.1),int (qS x r).2.2]):=by
 refine pcd func233 rfl rfl ?_;simp only[go_sem];refine aH fun Y hj=>?_
 have A:=aB bN Y (some (cZ zeroCells));generalize aI bN Y _=H0 at A |-;simp only[go_sem];refine aH fun X hj=>?_
 have O:=aB H0 X (some (⟨125,4,[KB]⟩:Row));have F:=aV A hj;have A:=fA (r':=(⟨125,4,[KB]⟩:Row)) A hj;generalize aI H0 X _=H1 at A O |-;have I:=Ne.symm F;simp only[go_sem];apply aA <;> intro h1
 ·simp only[go_sem];refine aG A (by simp) ?_;simp only[go_sem];refine aG (rC O I) (by simp) ?_;simp only[go_sem,aF _ _ _ _ F];rw[show qS x r=(bA,bK,2)from if_pos h1];exact LL
 have ac:0<=r.type/\r.type<(x.types.length:Int):=by grind
 obtain⟨t,ht⟩:=aK (show r.type.toNat<x.types.length by omega);rw[show qS x r=Ny x r t by simp_all[qS,if_neg,cH]];simp only[go_sem];refine aL (Nf x r hr hx.apart hx.before) ?_;simp only[go_sem];apply aA <;> intro h2
 ·simp only[go_sem];refine aG A (by simp) ?_;simp only[go_sem];refine aG (rC O I) (by simp) ?_;simp only[go_sem,aF _ _ _ _ F];rw[show Ny x r t=(bA,bK,fP x r.y7)from if_pos h2];exact LL
 have ae:fP x r.y7=0:=by grind
 have aa:=Fv ae;rw[show Ny x r t=_ from if_neg (by grind)];simp only[go_sem];refine⟨fun ρ H=>∃k:Nat,k<=r.y7.length/\ρ 2=.rp (aD x) 0/\ρ 3=.rp (bJ r) 0/\ρ 4=.op Y 0 0/\ρ 5=.op X 0 0/\ρ 8=int k/\H Y=some (cZ zeroCells)/\H X=some (⟨125,4,[KB]⟩:Row)/\∀v∈r.y7.take k,yZ x t v=true,
  fun ρ _=>r.y7.length-aT (ρ 8),⟨0,Xaa _,rfl,rfl,rfl,rfl,rfl,A,O,by simp⟩,?_⟩
 rintro ρ H ⟨k,hk,g2,g3,T,U,g8,A,O,hz⟩;simp only[go_sem,g3,g8];refine aA (fun J=>?_) (fun Z=>?_)
 ·have J:=aX J;obtain⟨v,hv⟩:=aK J;have b1:=inB J;have hi:=aa v (Xab hv);obtain⟨o,ho⟩:=aK (show v.order.toNat<x.y5.length by omega);have es:yZ x t v=tO t.l7 o.l7:=by grind[yZ]
  simp only[go_sem];refine dC ?_;simp only[go_sem,g2,g3,g8,aC hv,aC ho,aC ht,b1,hi,ac];refine⟨_,(anC t o.l7).q rfl,?_⟩;simp only[go_sem];apply aA <;> intro h3
  ·simp only[go_sem,T];refine aG A (by simp) ?_;simp only[go_sem,U];refine aG (rC O I) (by simp) ?_;simp only[go_sem,T,U,aF _ _ _ _ F];rw[if_pos (Xaj.2 ⟨v,Xab hv,by grind⟩)];exact LL
  ·simp only[go_sem,g8,aQ k];exact⟨⟨k+1,J,g2,g3,T,U,rfl,A,O,aS (p:=fun v=>yZ x t v=true) hv (by grind) hz⟩,msr J⟩
 have Z:=aZ hk Z;subst Z;rw[Xad]at hz;have ah:(r.y7.any fun v=> !yZ x t v)=false:=by grind
 rw[if_neg (by grind)];simp only[go_sem,g2,g3];refine aL (apF x r hx.y5 hr hx.apart hx.before) ?_;simp only[go_sem];apply aA <;> intro h4
 ·simp only[go_sem,T];refine aG A (by simp) ?_;simp only[go_sem,U];refine aG (rC O I) (by simp) ?_;simp only[go_sem,T,U,aF _ _ _ _ F];simp_all[LL]
 rw[if_neg (by grind)];simp only[go_sem,g2,g3];refine aL (aqD x r hx.τ hr) ?_;simp only[go_sem];refine aH fun E hj=>?_
 simp only[go_sem];refine aG (aB _ _ _) (by simp[bT]) ?_;have af:=aV A hj;generalize hG:aI (aI H E _) E _=H2;have ab:H2 E=some (Lm (mI x r).1):=by rw[<-hG,aB];rfl
 have A:H2 Y=some (cZ zeroCells):=by rw[<-hG];grind[sR]
 have O:H2 X=some (⟨125,4,[KB]⟩:Row):=by rw[<-hG];grind[sR]
 clear hG hj;simp only[go_sem];apply aA <;> intro h5
 ·simp only[go_sem,T];refine aG A (by simp) ?_;simp only[go_sem,U];refine aG (rC O I) (by simp) ?_;simp only[go_sem,T,U,aF _ _ _ _ F];simp_all[LL]
 rw[if_neg (by grind)];simp only[go_sem];refine gS [E] [(0,true),(1,true),(2,true),(3,true),(4,true),(5,false),(6,false),(7,false)] (by grind) (by kernel_rfl) fun Hp Hr hp hq _ aj=>?_
 have Rp:=(hp E (by simp)).trans ab;have m4:Y∉[E]:=by grind
 have m5:X∉[E]:=by grind
 have S4:=(hq Y m4).trans A;have S5:=(hq X m5).trans O;simp only[go_sem,g2,g3,Rp];refine⟨_,(ahA x r (mI x r).1 hr).q rfl,?_⟩;simp only[go_sem,T];refine aG S4 (by simp[bT]) ?_;simp only[go_sem,U];refine aG (rC S5 I) (by simp[bD]) ?_;simp only[go_sem];refine dO fun hd Hm ai ag=>?_
 have T4:Hm Y=some (Lm (mI x r).1):=by grind[aF,aB]
 have T5:Hm X=some (nR (oD x r (mI x r).1)):=by grind[aB]
 simp only[go_sem,T,U,T4,T5];exact .refl _
def afR(x:Instance)(r:Route)(I:InsB x)(F:r.y7.length<=1048576):PC prog 167 [.agg (aD x),.agg (bJ r)] (int (qS x r).2.2):=by
 refine pcd func167 rfl rfl ?_;simp only[go_sem];refine aL (Sv x r I F) ?_;simp only[go_sem];refine aH fun J T=>?_
 simp only[go_sem];refine aH fun O E=>?_
 simp only[go_sem];refine aG (fA (aB _ _ _) E) (by simp[bT]) ?_;simp only[go_sem];have A:=aV (aB _ _ _) E;refine aG (rC (aB _ _ _) A.symm) (by simp[bD]) ?_;simp only[go_sem];exact .refl _
structure PlanB(p:Plan):Prop where
 x9:p.x9.length<=1048576
 y7:∀r∈p.x9,r.y7.length<=1048576
 y9:p.y9.length<=1048576
def xD{P:Program}{C:nP}{PC:FuncId->List AV->aM->AV->Prop}{mt:Nat->Bool}{ops:Array Oper}{K:Env->aM->Prop}{m:Nat}{ρ:Env}{H:aM}(J:Env->aM->Prop)(h1:∀ρ H,J ρ H->K ρ H)
 (A:∀K':Env->aM->Prop,(∀ρ H,J ρ H->K' ρ H)->wS P C PC mt ops K' m ρ H):wS P C PC mt ops K m ρ H:=A K h1
def rO{α:Type}{p:α->Bool}:∀(l:List α) (n:Int),0<=n->decide (vV p l n>=0)=l.any p
 | [],n,_=>rfl
 | a::r,n,hn=>by
  have ih:=rO (p:=p) r (n+1) (by omega);rw[Xaz]at ih |-;simp only[decide_eq_true_eq]at ih |-;rw[List.any_cons,Bool.or_eq_true,<-ih];by_cases h:p a=true
  all_goals simp_all[vV]
def Pz(l:List Int):(fO l).length=1:=(rfl)
def afV(l:List Int):(fO l).getD 0 .any=.sl (l.map aP):=(rfl)
attribute [go_sem] Pz afV
def Gl{g:Nat}{cap:List AV}{p:Visit->Bool}(l:List (Visit))(hl:l.length<=1048576)(I:aE prog g=true)(X:∀v∈l,PC prog g (.agg (aN v)::cap) (boo (p v))):
  PC prog 302 [.sl (l.map aN),.fn g cap] (int (vV p l 0)):=by
 refine pcd func302 rfl rfl ?_;simp only[go_sem];refine⟨fun ρ _=>∃k:Nat,k<=l.length/\ρ 0=.sl (l.map aN)/\ρ 1=.fn g cap/\ρ 7=int l.length/\ρ 8=int k/\∀u∈l.take k,p u=false,fun ρ _=>l.length-aT (ρ 8),⟨0,Xaa _,rfl,rfl,rfl,rfl,by simp⟩,?_⟩;rintro ρ H ⟨k,Y,h0,h1,O,F,T⟩;simp only[go_sem,O,F];refine aA (fun A=>?_) (fun E=>?_)
 ·have A:=aX A;obtain⟨u,J⟩:=aK A;have U:=inB A;simp only[go_sem,h0,h1,F,aC J,U,I];refine aL (X u (Xab J)) ?_;simp only[go_sem,];apply aA <;> intro Z
  ·simp only[go_sem]
   grind[bS,nS]
  ·simp only[go_sem,h0,h1,O,F,aQ k];exact⟨⟨k+1,A,rfl,aS (p:=fun u=>p u=false) J Z T⟩,msr A⟩
 ·have E:=aZ Y E;subst E;rw[Xad]at T;simp only[go_sem]
  grind[bS,mF]
def vB{g:Nat}{cap:List AV}{p:Visit->Bool}(l:List (Visit))(F:l.length<=1048576)(A:aE prog g=true)(E:∀v∈l,PC prog g (.agg (aN v)::cap) (boo (p v))):
  PC prog 245 [.sl (l.map aN),.fn g cap] (boo (l.any p)):=by
 refine pcd func245 rfl rfl ?_;simp only[go_sem];refine aL (Gl l F A E) ?_;simp only[go_sem];simp[bU,rO]
def QS{g:Nat}{cap:List AV}{p:List Int->Bool}(l:List (List Int))(hl:l.length<=1048576)(I:aE prog g=true)(X:∀v∈l,PC prog g (.sl (v.map aP)::cap) (boo (p v))):
  PC prog 311 [.sl (l.map fO),.fn g cap] (int (vV p l 0)):=by
 refine pcd func311 rfl rfl ?_;simp only[go_sem];refine⟨fun ρ _=>∃k:Nat,k<=l.length/\ρ 0=.sl (l.map fO)/\ρ 1=.fn g cap/\ρ 7=int l.length/\ρ 8=int k/\∀u∈l.take k,p u=false,fun ρ _=>l.length-aT (ρ 8),⟨0,Xaa _,rfl,rfl,rfl,rfl,by simp⟩,?_⟩;rintro ρ H ⟨k,Y,h0,h1,O,F,T⟩;simp only[go_sem,O,F];refine aA (fun A=>?_) (fun E=>?_)
 ·have A:=aX A;obtain⟨u,J⟩:=aK A;have U:=inB A;simp only[go_sem,h0,h1,F,aC J,U,I];refine aL (X u (Xab J)) ?_;simp only[go_sem,];apply aA <;> intro Z
  ·simp only[go_sem]
   grind[bS,nS]
  ·simp only[go_sem,h0,h1,O,F,aQ k];exact⟨⟨k+1,A,rfl,aS (p:=fun u=>p u=false) J Z T⟩,msr A⟩
 ·have E:=aZ Y E;subst E;rw[Xad]at T;simp only[go_sem]
  grind[bS,mF]
def Jx{g:Nat}{cap:List AV}{p:List Int->Bool}(l:List (List Int))(F:l.length<=1048576)(A:aE prog g=true)(E:∀v∈l,PC prog g (.sl (v.map aP)::cap) (boo (p v))):
  PC prog 254 [.sl (l.map fO),.fn g cap] (boo (l.any p)):=by
 refine pcd func254 rfl rfl ?_;simp only[go_sem];refine aL (QS l F A E) ?_;simp only[go_sem];simp[bU,rO]
def ZM(l:List Visit)(v:Visit)(Z:l.length<=1048576):PC prog 345 [.sl (l.map aN),.agg (aN v)] (int (cD l v)):=by
 refine pcd func345 rfl rfl ?_;simp only[go_sem];refine⟨fun ρ _=>∃k:Nat,k<=l.length/\ρ 0=.sl (l.map aN)/\ρ 3=.rp (aN v) 0/\ρ 7=int l.length/\ρ 8=int k/\∀u∈l.take k,yS v u=false,fun ρ _=>l.length-aT (ρ 8),⟨0,Xaa _,rfl,rfl,rfl,rfl,by simp⟩,?_⟩;rintro ρ H ⟨k,Y,h0,U,J,F,T⟩;simp only[go_sem,J,F];refine aA (fun A=>?_) (fun E=>?_)
 ·have A:=aX A;obtain⟨u,O⟩:=aK A;have X:=inB A;have su:(v.order == u.order&&(v.drop == u.drop&&true))=yS v u:=by
   unfold yS
   grind
  simp only[go_sem,F];refine dC ?_;simp only[go_sem,h0,U,aC O,X];apply aA <;> intro I
  ·have I:yS v u=true:=by grind
   simp only[go_sem]
   grind[bS,cD,nS]
  ·have I:yS v u=false:=by grind
   simp only[go_sem,h0,U,J,F,aQ k];exact⟨⟨k+1,A,rfl,aS (p:=fun u=>yS v u=false) O I T⟩,msr A⟩
 ·have E:=aZ Y E;subst E;rw[Xad]at T;simp only[go_sem]
  grind[bS,cD,mF]
def inV(l:List Visit)(v:Visit):Bool:=decide (cD l v>=0)
def Y1(l:List Visit)(v:Visit)(A:l.length<=1048576):PC prog 304 [.sl (l.map aN),.agg (aN v)] (boo (inV l v)):=by refine pcd func304 rfl rfl ?_;simp only[go_sem];refine aL (ZM l v A) ?_;simp only[go_sem];exact .refl _
def F7(l:List Visit)(v:Visit)(A:l.length<=1048576):PC prog 303 [.sl (l.map aN),.agg (aN v)] (int (cD l v)):=by refine pcd func303 rfl rfl ?_;simp only[go_sem];refine aL (ZM l v A) ?_;simp only[go_sem];exact .refl _
def kC(l:List Visit)(o:Int):Bool:=l.any fun v=>v.order == o
def azZ(o:Int)(v:Visit):PC prog 305 [.agg (aN v),.rp [int o] 0] (boo (v.order == o)):=by refine pcd func305 rfl rfl ?_;simp only[go_sem];exact .refl _
def afG(o:Int)(v:Visit):PC prog 306 [.agg (aN v),.rp [int o] 0] (boo (v.order == o)):=by refine pcd func306 rfl rfl ?_;simp only[go_sem];exact .refl _
def IL(l:List Visit)(o:Int)(A:l.length<=1048576):PC prog 250 [.sl (l.map aN),int o] (boo (kC l o)):=by refine pcd func250 rfl rfl ?_;simp only[go_sem];refine aL (vB (p:=fun v=>v.order == o) l A (by rfl) (fun v _=>azZ o v)) ?_;simp only[go_sem];exact .refl _
def aaF(l:List Order)(k:Int):PC prog 264 [.sl (l.map bE),int k] (boo (!cH k l.length)):=by
 refine pcd func264 rfl rfl ?_;simp only[go_sem];refine bU ?_;unfold cH
 grind
theorem JT{α:Type}{p:α->Bool}{l:List α}{k:Nat}{x:α}(A:l[k]?=some x)(E:p x=false):l.all p=false:=by grind
theorem auU(x:Int):vY .and .i64 x 1=x%2:=by
 have h:((BitVec.ofInt 64 x &&& BitVec.ofInt 64 1).toNat:Int)=x%2:=by simp_all;omega
 refine Eq.trans (congrArg IntKind.i64.wrap h) ?_
 grind[aW]
def Km{a b:Nat}(E:a<2^63)(A:b<2^63):vY .or .i64 (a:Int) (b:Int)=((a ||| b:Nat):Int):=by
 have h:((BitVec.ofInt 64 (a:Int) ||| BitVec.ofInt 64 (b:Int)).toNat:Int)=((a ||| b:Nat):Int):=by grind
 refine Eq.trans (congrArg IntKind.i64.wrap h) ?_;have:=Nat.or_lt_two_pow E A
 grind[aW]
theorem vE{x:Int}{i:Nat}(h:i<=62):shV .shr .i64 x (i:Int)=x/2^i:=by
 show x.fdiv (2^min ((i:Int)).toNat 64)=_
 grind
theorem GO{i:Nat}(h:i<=62):shV .shl .i64 1 (i:Int)=((2^i:Nat):Int):=by
 show IntKind.i64.wrap (1*2^min ((i:Int)).toNat 64)=_;have:min ((i:Int)).toNat 64=i:=by omega
 rw[this,Int.one_mul];have A:(2:Nat)^i<=2^62:=Xah (by decide) h
 grind[aW]
def dI(set i:Int):Bool:=decide (i>=0)&&decide (i<=62)&&((set/2^i.toNat)%2 == 1)
def Ai(set i:Int):PC prog 145 [int set,int i] (boo (dI set i)):=by
 refine pcd func145 rfl rfl ?_;simp only[go_sem]
 grind[bU,dI,auU,vE]
def xE(l:List Visit):Nat:=l.foldl (fun s v=>s ||| 2^v.order.toNat) 0
def aoC(l:List Visit)(v:Visit):xE (l++[v])=xE l ||| 2^v.order.toNat:=by simp[xE]
def Qx{m:Nat}(l:List Visit)(h:∀v∈l,v.order.toNat<m):xE l<2^m:=by
 suffices ∀(l:List Visit) (s:Nat),s<2^m->(∀v∈l,v.order.toNat<m)->l.foldl (fun s v=>s ||| 2^v.order.toNat) s<2^m from this l 0 (Nat.two_pow_pos m) h
 intro l;induction l<;>grind[Nat.or_lt_two_pow,Xcd]
theorem Fh(l:List Visit)(i:Nat):(xE l).testBit i=l.any fun v=>v.order.toNat == i:=by
 suffices ∀(l:List Visit) (s:Nat),(l.foldl (fun s v=>s ||| 2^v.order.toNat) s).testBit i=(s.testBit i||l.any fun v=>v.order.toNat == i)from by grind[xE]
 intro l;induction l<;>grind
def VE{s i:Nat}(h:s.testBit i=true):s ||| 2^i=s:=by
 apply Nat.eq_of_testBit_eq
 grind
def okV(v:Visit):Bool:= !(decide (v.order<0)||decide (v.order>62))
def lN(l:List Visit):Int×Int:=if l.all okV then(((xE l:Nat):Int),0)else(0,2)
def O4(r:Route)(hr:r.y7.length<=1048576):PC prog 135 [.agg (bJ r)] (.tup [int (lN r.y7).1,int (lN r.y7).2]):=by
 refine pcd func135 rfl rfl ?_;simp only[go_sem];refine⟨fun ρ _=>∃k:Nat,k<=r.y7.length/\ρ 8=.sl (r.y7.map aN)/\ρ 9=int r.y7.length/\ρ 10=int k/\ρ 4=int (xE (r.y7.take k):Nat)/\∀v∈r.y7.take k,okV v=true,fun ρ _=>r.y7.length-aT (ρ 10),⟨0,Xaa _,rfl,rfl,rfl,rfl,by simp⟩,?_⟩;rintro ρ H ⟨k,hk,U,X,I,Z,hz⟩;simp only[go_sem,X,I];refine aA (fun A=>?_) (fun F=>?_)
 ·have A:=aX A;obtain⟨v,O⟩:=aK A;have b1:=inB A;simp only[go_sem,U,I,aC O,b1];refine aH fun j hj=>?_
  simp only[go_sem,];refine aG (aB _ _ _) (by simp[dG]) ?_;simp only[go_sem,];apply aA <;> intro hb
  ·simp only[go_sem];have:lN r.y7=(0,2):=by grind[lN,JT,okV]
   rw[this];exact .refl _
  ·have T:okV v=true:=by grind[okV]
   have J:0<=v.order/\v.order<=62:=by grind
   have E:xE (r.y7.take k)<2^63:=Qx _ fun v O=>by grind[okV]
   have Y:=GO (i:=v.order.toNat) (by omega);rw[Int.toNat_of_nonneg J.1]at Y;have e2:=Km (a:=xE (r.y7.take k)) (b:=2^v.order.toNat) E (Xcd (by decide) (by omega));simp only[go_sem,U,X,I,Z,Y,e2,aQ k];refine⟨J.1,⟨k+1,A,rfl,?_,aS (p:=fun v=>okV v=true) O T hz⟩,msr A⟩;rw[aY O,aoC]
 ·have F:=aZ hk F;subst F;simp only[go_sem,Z];have:lN r.y7=(((xE r.y7:Nat):Int),0):=by grind[lN]
  rw[this,Xad];exact .refl _
def asZ{s i:Nat}(E:s<2^63)(A:i<63)(h:s.testBit i=false):s ||| 2^i=s+2^i:=by
 have F:2^i<2^63:=Xcd (by decide) A;have h0:BitVec.ofNat 64 s &&& BitVec.ofNat 64 (2^i)=0#64:=by
  apply BitVec.eq_of_toNat_eq;rw[BitVec.toNat_and,BitVec.toNat_ofNat,BitVec.toNat_ofNat,Xbu (by omega),Xbu (by omega)];apply Nat.eq_of_testBit_eq
  grind
 have h1:=congrArg BitVec.toNat (BitVec.add_eq_or_of_and_eq_zero (BitVec.ofNat 64 s) (BitVec.ofNat 64 (2^i)) h0)
 grind
def GI{n:Int}(h:0<=n/\n<18446744073709551616):IntKind.u64.wrap n=n:=Mv.apW h
theorem jW{s:Nat}{i:Int}(h0:0<=i)(h1:i<=62):dI (s:Int) i=s.testBit i.toNat:=by
 rw[Nat.testBit_eq_decide_div_mod_eq];unfold dI
 grind
def HU{s:Nat}{i:Int}(h0:0<=i)(h1:i<=62):uQ (s:Int) i=s.testBit i.toNat:=by rw[<-jW h0 h1];unfold uQ dI;rw[GI (by omega)];obtain⟨n,rfl⟩:=Int.eq_ofNat_of_zero_le h0;rw[vE (by omega)];rfl
def amZ{s:Nat}{n:Int}(E:s<2^63)(h0:0<=n)(h1:n<=62):WL (s:Int) n=((s ||| 2^n.toNat:Nat):Int):=by
 unfold WL;rw[HU h0 h1];cases A:s.testBit n.toNat with
 | true=>rw[if_pos rfl,VE A]
 | false=>
  rw[if_neg (by simp),GI (by omega)];obtain⟨k,rfl⟩:=Int.eq_ofNat_of_zero_le h0;have e:((k:Int)).toNat=k:=Xal k;rw[e]at A |-;have J:2^k<2^63:=Xcd (by decide) (by omega);have F:=asZ E (by omega) A;have I:=Nat.or_lt_two_pow E J
  grind[GO,aW]
def Dx{l:List Visit}(h:∀v∈l,CV v=false):IJ l=(xE l:Nat):=by
 suffices ∀(l:List Visit) (s:Nat),s<2^63->(∀v∈l,CV v=false)->l.foldl (fun s v=>WL s v.order) (s:Int)=((l.foldl (fun s v=>s ||| 2^v.order.toNat) s:Nat):Int)from this l 0 (by decide) h
 intro l;induction l with
 | nil=>simp
 | cons v r ih=>intro s E h;have A:=h v (by simp);unfold CV at A;simp only[Xam,decide_eq_false_iff_not]at A;rw[List.foldl_cons,List.foldl_cons,amZ E (by omega) (by omega)];exact ih _ (Nat.or_lt_two_pow E (Xcd (by decide) (by omega))) fun u F=>h u (by grind)
def aaO(v:Visit):okV v= !CV v:=rfl
def Kg(l:List Visit):lN l=cY l:=by
 unfold lN cY;by_cases h:l.any CV=true
 ·simp_all[aaO]
 simp_all[aaO,Dx]
def LF(r:Route)(A:r.y7.length<=1048576):PC prog 135 [.agg (bJ r)] (.tup [int (cY r.y7).1,int (cY r.y7).2]):=Kg r.y7▸O4 r A
def Ly{l:List Visit}(h:∀v∈l,CV v=false){i:Int}(h0:0<=i)(h1:i<=62):dI (cY l).1 i=kC l i:=by
 have e:(cY l).1=(xE l:Nat):=by simp_all[cY,J9,Dx]
 rw[e,jW h0 h1,Fh];unfold kC;refine Mv.wK fun v A=>?_
 have E:=h v A;unfold CV at E
 grind
def vN{l:List Visit}(h:∀v∈l,CV v=false){i:Int}(h0:0<=i)(h1:i<=62):uQ (cY l).1 i=kC l i:=by rw[<-Ly h h0 h1];simp_all[cY,J9,Dx,HU,jW]
def iE(o:Order)(i:Int):List Visit:=(if decide (o.pick.place>=0)=true then[⟨i,false⟩]else[])++(if decide (o.drop.place>=0)=true then[⟨i,true⟩]else[])
def gD(os:List Order)(i:Int):List Visit:=if cH i os.length=true then[]else match os[i.toNat]? with|some o=>iE o i|none=>[]
theorem UD(o:Order)(i:Int):(iE o i).length<=2:=by grind[iE]
theorem xB(os:List Order)(i:Int):(gD os i).length<=2:=by grind[gD,UD]
def wD(os:List Order)(i:Int):PC prog 205 [.sl (os.map bE),int i] (.sl ((gD os i).map aN)):=by
 refine pcb (fun t=>t == 5) func205 rfl rfl ?_;simp only[go_sem];refine aH fun j U=>?_
 simp only[go_sem];refine aL (aaF os i) ?_;simp only[go_sem];apply aA <;> intro h0
 ·have I:cH i os.length=true:=by grind
  simp only[go_sem];rw[gD,if_pos I];exact .refl _
 have I:cH i os.length=false:=by grind
 have E:0<=i/\i<(os.length:Int):=by grind[cH]
 obtain⟨o,A⟩:=aK (show i.toNat<os.length by omega);rw[gD,if_neg (by grind),A];simp only[go_sem,aC A,E];apply aA <;> intro h1
 ·simp only[go_sem];refine aU (aB _ _ _) ⟨rfl,rfl⟩ ⟨rfl,trivial⟩ (by simp) (fun j' T=>?_);simp only[go_sem,aC A,E];apply aA <;> intro O
  ·simp only[go_sem];refine aU (aB _ _ _) ⟨rfl,rfl⟩ ⟨rfl,trivial⟩ (by simp) (fun J F=>?_);simp only[go_sem];have e:iE o i=[⟨i,false⟩,⟨i,true⟩]:=by simp_all[iE]
   rw[e];exact .row _ _ _ (aB _ _ _) (ConvE.refl _)
  ·simp only[go_sem];have e:iE o i=[⟨i,false⟩]:=by simp_all[iE]
   rw[e];exact .row _ _ _ (aB _ _ _) (ConvE.refl _)
 ·simp only[go_sem,aC A,E];apply aA <;> intro O
  ·simp only[go_sem];refine aU (aB _ _ _) ⟨rfl,rfl⟩ ⟨rfl,trivial⟩ (by simp) (fun J F=>?_);simp only[go_sem];have e:iE o i=[⟨i,true⟩]:=by simp_all[iE]
   rw[e];exact .row _ _ _ (aB _ _ _) (ConvE.refl _)
  ·simp only[go_sem];have e:iE o i=[]:=by simp_all[iE]
   rw[e];exact .row _ _ _ (aB _ _ _) (ConvE.refl _)
def rZ(l:List Visit)(i:Nat):Bool:=decide (cD (l.take i) (l.getD i ⟨0,false⟩)>=0)
def KL:∀l:List Visit,cT 2 (l.map aN)
 | []=>trivial
 | _::r=>⟨rfl,KL r⟩
def axG(l:List Visit)(hl:l.length<=1048576):PC prog 248 [.sl (l.map aN)] (boo ((List.range l.length).any (rZ l))):=by
 refine pcd func248 rfl rfl ?_;simp only[go_sem];refine⟨fun ρ _=>∃k:Nat,k<=l.length/\ρ 0=.sl (l.map aN)/\ρ 5=.sl (l.map aN)/\ρ 6=int l.length/\ρ 7=int k/\∀c∈(List.range l.length).take k,rZ l c=false,fun ρ _=>l.length-aT (ρ 7),⟨0,Xaa _,rfl,rfl,rfl,rfl,by simp⟩,?_⟩;rintro ρ H ⟨k,hk,h0,T,U,O,Z⟩;simp only[go_sem,U,O];refine aA (fun A=>?_) (fun F=>?_)
 ·have A:=aX A;obtain⟨v,hv⟩:=aK A;have X:=inB A;simp only[go_sem,T,O,aC hv,X];refine aH fun J E=>?_
  simp only[go_sem];refine bW E (by simp[dG]) fun I (R4:I J=some (⟨97,2,[aN v]⟩)) N=>?_
  clear N E;simp only[go_sem];refine gS [J] [(0,true),(1,true),(2,true),(3,true),(4,true),(5,true)] (by grind) (by kernel_rfl) fun Hp Hr hp hr _ aa=>?_
  have P4:=(hp J (by simp)).trans R4;simp only[go_sem,h0,P4,<-List.map_take];refine⟨by omega,_,(F7 (l.take k) v (by grind)).q rfl,?_⟩;simp only[go_sem];refine dO fun _ Hm _ _=>?_
  simp only[go_sem];have Y:rZ l k=decide (cD (l.take k) v>=0):=by grind[rZ]
  apply aA <;> intro hb
  ·simp only[go_sem]
   grind[bU]
  ·simp only[go_sem,h0,T,U,O,aQ k];exact⟨⟨k+1,A,rfl,aS (p:=fun c=>rZ l c=false) (kM A) (Y.trans hb) Z⟩,msr A⟩
 ·have F:=aZ hk F;subst F;simp only[go_sem]
  grind[bU]
def sW(l:List Visit):List Visit->Int->Bool
 | [],_=>true
 | w::r,last=>decide (cD l w>last)&&sW l r (cD l w)
def yI(os:List Order)(l:List Visit)(v:Visit):Bool:=inV (gD os v.order) v&&sW l (gD os v.order) (-1)
def FC{α:Type}{l:List α}{k:Nat}{x:α}(h:l[k]?=some x):l.drop k=x::l.drop (k+1):=by grind[Xbq]
def aqH(x:Instance)(l:List Visit)(hl:l.length<=1048576):PC prog 249 [.agg (aD x),.sl (l.map aN)] (boo (l.all (yI x.y5 l))):=by
 refine pcd func249 rfl rfl ?_;simp only[go_sem];refine⟨fun ρ _=>∃k:Nat,k<=l.length/\ρ 1=.sl (l.map aN)/\ρ 2=.rp (aD x) 0/\ρ 12=.sl (l.map aN)/\ρ 13=int l.length/\ρ 14=int k/\∀v∈l.take k,yI x.y5 l v=true,fun ρ _=>l.length-aT (ρ 14),⟨0,Xaa _,rfl,rfl,rfl,rfl,rfl,by simp⟩,?_⟩;rintro ρ H ⟨k,hk,h1,h2,O,I,E,hz⟩;simp only[go_sem,I,E];refine aA (fun F=>?_) (fun Z=>?_)
 ·have F:=aX F;obtain⟨v,hv⟩:=aK F;have b1:=inB F;simp only[go_sem,O,E,aC hv,b1];refine aH fun i6 U=>?_
  simp only[go_sem];refine bW U (by simp[dG]) fun ac (R6:ac i6=some (⟨97,2,[aN v]⟩)) N=>?_
  clear N U;simp only[go_sem,h2,R6];refine aL (wD x.y5 v.order) ?_;have ah:=xB x.y5 v.order;simp only[go_sem,R6];refine aL (Y1 (gD x.y5 v.order) v (by omega)) ?_;simp only[go_sem];apply aA <;> intro hb
  ·simp only[go_sem]
   grind[bU,JT,yI]
  have af:inV (gD x.y5 v.order) v=true:=by grind
  simp only[go_sem];refine⟨fun ρ _=>∃(m:Nat) (last:Int),m<=(gD x.y5 v.order).length/\ρ 1=.sl (l.map aN)/\ρ 2=.rp (aD x) 0/\ρ 12=.sl (l.map aN)/\ρ 13=int l.length/\ρ 14=int k/\ρ 27=.sl ((gD x.y5 v.order).map aN)/\ρ 28=int (gD x.y5 v.order).length/\ρ 29=int m/\ρ 8=int last/\sW l (gD x.y5 v.order) (-1)=sW l ((gD x.y5 v.order).drop m) last,fun ρ _=>(gD x.y5 v.order).length-aT (ρ 29),
   ⟨0,-1,Xaa _,h1,h2,O,I,E,rfl,rfl,by simp only[go_sem];rfl,rfl,rfl⟩,?_⟩
  rintro ρ H ⟨m,last,hm,h1,h2,O,I,E,ab,aa,Y,h8,he⟩;simp only[go_sem,aa,Y];refine aA (fun A=>?_) (fun T=>?_)
  ·have A:=aX A;obtain⟨w,hw⟩:=aK A;have b2:=inB A;simp only[go_sem,ab,Y,aC hw,b2];refine aH fun ag J=>?_
   simp only[go_sem];refine bW J (by simp[dG]) fun X (ae:X ag=some (⟨97,2,[aN w]⟩)) N=>?_
   clear N J;simp only[go_sem,h1,ae];refine aL (F7 l w hl) ?_;simp only[go_sem,h8];rw[FC hw]at he;apply aA <;> intro hb
   ·simp only[go_sem]
    grind[bU,JT,yI,sW]
   ·simp only[go_sem,h1,h2,O,I,E,ab,aa,Y,aQ m];refine⟨⟨m+1,_,A,rfl,rfl,?_⟩,by grind[aJ]⟩
    grind[sW]
  ·have T:=aZ hm T;subst T;rw[Xbr,sW]at he;simp only[go_sem,h1,h2,O,I,E,aQ k];exact⟨⟨k+1,F,rfl,aS (p:=fun v=>yI x.y5 l v=true) hv (by unfold yI;rw[af,he];rfl) hz⟩,msr F⟩
 ·have Z:=aZ hk Z;subst Z;simp only[go_sem]
  grind[bU]
def Mq(l:List Visit)(a b:Int):Bool:=decide (vV (fun v:Visit=>v.order == b) l 0<0)||(kC l a&& !kC (l.drop (vV (fun v:Visit=>v.order == b) l 0).toNat) a)
def Z4{α:Type}{p:α->Bool}:∀(l:List α) (n:Int),vV p l n<n+l.length\/vV p l n= -1
 | [],n=>.inr rfl
 | a::r,n=>by
  unfold vV;split
  ·grind
  ·rcases Z4 (p:=p) r (n+1)with h|h
   all_goals grind
def asJ(l:List Visit)(a b:Int)(E:l.length<=1048576):PC prog 251 [.sl (l.map aN),int a,int b] (boo (Mq l a b)):=by
 refine pcd func251 rfl rfl ?_;simp only[go_sem];refine aL (Gl (p:=fun v=>v.order == b) l E rfl fun v _=>afG b v) ?_;simp only[go_sem];have F:=Z4 (p:=fun v:Visit=>v.order == b) l 0;generalize J:vV (fun v:Visit=>v.order == b) l 0=I at F;apply aA <;> intro h0
 ·simp only[go_sem]
  grind[bU,Mq]
 ·have A:0<=I:=by grind
  simp only[go_sem];refine aL (IL l a E) ?_;simp only[go_sem,<-List.map_drop];refine⟨fun _=>⟨⟨A,by omega⟩,KL l⟩,_,fun _=>(IL (l.drop I.toNat) a (by grind)).q rfl,?_⟩;simp only[go_sem]
  grind[bU,Mq]
def ajV(x:Instance)(v:Visit):PC prog 246 [.agg (aN v),.rp (aD x) 0] (boo (cH v.order x.y5.length)):=by refine pcd func246 rfl rfl ?_;simp only[go_sem];exact .refl _
def atG(x:Instance)(v:Visit)(h:cH v.order x.y5.length=false):PC prog 247 [.agg (aN v),.rp (aD x) 0] (boo (yK x v.order)):=by
 have A:0<=v.order/\v.order<(x.y5.length:Int):=by grind[cH]
 obtain⟨o,E⟩:=aK (show v.order.toNat<x.y5.length by omega);refine pcd func247 rfl rfl ?_;simp only[go_sem];simp only[go_sem,aC E,A]
 grind[bU,yK]
def sZ(x:Instance)(l:List Visit):Int:=
 if((l.length:Int) == 0||l.any fun v=>cH v.order x.y5.length)=true then 2
 else if(l.any fun v=>yK x v.order)=true then 9
 else if((List.range l.length).any (rZ l))=true then 6
 else if(!l.all (yI x.y5 l))=true then 19
 else if(x.apart.any fun q=>kC l q.a&&kC l q.b)=true then 20
 else if(x.before.any fun q=> !Mq l q.a q.b)=true then 21 else 0
def J1(x:Instance)(r:Route)(U:r.y7.length<=1048576)(ha:x.apart.length<=1048576)(hb:x.before.length<=1048576):PC prog 191 [.agg (aD x),.agg (bJ r)] (int (sZ x r.y7)):=by
 refine pcd func191 rfl rfl ?_;simp only[go_sem];refine⟨_,fun _=>(vB (p:=fun v=>cH v.order x.y5.length) r.y7 U rfl fun v _=>ajV x v).q rfl,?_⟩;simp only[go_sem];apply aA <;> intro c1
 ·simp only[go_sem];simp_all[bS,sZ]
 have ag:∀v∈r.y7,cH v.order x.y5.length=false:=fun v hv=>by grind
 have c1:¬((r.y7.length:Int) == 0||r.y7.any fun v=>cH v.order x.y5.length)=true:=by grind
 simp only[go_sem];refine aL (vB (p:=fun v=>yK x v.order) r.y7 U rfl fun v hv=>atG x v (ag v hv)) ?_;simp only[go_sem];apply aA <;> intro c2
 ·simp only[go_sem];simp_all[bS,sZ]
 have c2:¬(r.y7.any fun v=>yK x v.order)=true:=by grind
 simp only[go_sem];refine aL (axG r.y7 U) ?_;simp only[go_sem];apply aA <;> intro c3
 ·simp only[go_sem];simp_all[bS,sZ,if_neg]
 have c3:¬((List.range r.y7.length).any (rZ r.y7))=true:=by grind
 simp only[go_sem];refine aL (aqH x r.y7 U) ?_;simp only[go_sem];apply aA <;> intro c4
 ·simp only[go_sem];simp_all[bS,sZ,if_neg]
 have c4:¬(!r.y7.all (yI x.y5 r.y7))=true:=by grind
 simp only[go_sem];refine⟨fun ρ _=>∃k:Nat,k<=x.apart.length/\ρ 2=.rp (aD x) 0/\ρ 5=.sl (r.y7.map aN)/\ρ 33=.sl (x.apart.map dN)/\ρ 34=int x.apart.length/\ρ 35=int k/\∀q∈x.apart.take k,(kC r.y7 q.a&&kC r.y7 q.b)=false,fun ρ _=>x.apart.length-aT (ρ 35),⟨0,Xaa _,rfl,rfl,rfl,rfl,by simp only[go_sem];rfl,by simp⟩,?_⟩;rintro ρ H ⟨k,hk,h2,Y,af,Z,X,hz⟩;simp only[go_sem,Z,X];refine aA (fun A=>?_) (fun F=>?_)
 ·have A:=aX A;obtain⟨q,O⟩:=aK A;have b1:=inB A;simp only[go_sem,af,X,aC O,b1];refine aH fun i7 J=>?_
  simp only[go_sem];refine bW J (by simp[oN]) fun ac (R7:ac i7=some (⟨148,2,[dN q]⟩)) N=>?_
  clear N J;simp only[go_sem,Y,R7];refine⟨by decide,PC.use (IL r.y7 q.a U) ?_⟩;simp only[go_sem,Y,R7];refine⟨fun _=>by decide,_,fun _=>(IL r.y7 q.b U).q rfl,?_⟩;simp only[go_sem];refine aA (fun E=>?_) (fun E=>?_)
  ·simp only[go_sem];exact bS (by unfold sZ;rw[if_neg c1,if_neg c2,if_neg c3,if_neg c4,if_pos (Xaj.2 ⟨q,Xab O,E⟩)])
  ·simp only[go_sem,h2,Y,af,Z,X,aQ k];exact⟨⟨k+1,A,rfl,aS (p:=fun q:Pair=>(kC r.y7 q.a&&kC r.y7 q.b)=false) O E hz⟩,msr A⟩
 have F:=aZ hk F;subst F;rw[Xad]at hz;have c5:¬(x.apart.any fun q=>kC r.y7 q.a&&kC r.y7 q.b)=true:=by simp_all
 simp only[go_sem,h2];refine⟨fun ρ _=>∃k:Nat,k<=x.before.length/\ρ 5=.sl (r.y7.map aN)/\ρ 51=.sl (x.before.map dN)/\ρ 52=int x.before.length/\ρ 53=int k/\∀q∈x.before.take k,(!Mq r.y7 q.a q.b)=false,fun ρ _=>x.before.length-aT (ρ 53),⟨0,Xaa _,Y,rfl,rfl,by simp only[go_sem];rfl,by simp⟩,?_⟩;rintro ρ H ⟨k,hk,Y,ae,ab,T,hz⟩;simp only[go_sem,ab,T];refine aA (fun A=>?_) (fun F=>?_)
 ·have A:=aX A;obtain⟨q,O⟩:=aK A;have b1:=inB A;simp only[go_sem,ae,T,aC O,b1];refine aH fun i9 I=>?_
  simp only[go_sem];refine bW I (by simp[oN]) fun aa (R9:aa i9=some (⟨148,2,[dN q]⟩)) N=>?_
  clear N I;simp only[go_sem,Y,R9];refine⟨by decide,⟨by decide,PC.use (asJ r.y7 q.a q.b U) ?_⟩⟩;simp only[go_sem];refine aA (fun E=>?_) (fun E=>?_)
  ·simp only[go_sem];exact bS (by unfold sZ;rw[if_neg c1,if_neg c2,if_neg c3,if_neg c4,if_neg c5,if_pos (Xaj.2 ⟨q,Xab O,E⟩)])
  ·simp only[go_sem,Y,ae,ab,T,aQ k];exact⟨⟨k+1,A,rfl,aS (p:=fun q:Pair=>(!Mq r.y7 q.a q.b)=false) O E hz⟩,msr A⟩
 have F:=aZ hk F;subst F;rw[Xad]at hz;simp only[go_sem];simp_all[bS,sZ,J9]
def fF(x:Instance)(v:Visit):Stop×Int:=if(bM x v).2=true then((bM x v).1,0)else(mP,if cH v.order x.y5.length=true then 2 else 19)
def ZZ(x:Instance)(v:Visit):PC prog 269 [.sl (x.y5.map bE),.agg (aN v)] (.tup [.agg (eT (fF x v).1),int (fF x v).2]):=by
 refine pcd func269 rfl rfl ?_;simp only[go_sem];refine eJ fun Z O aa (E:O Z=some (BJ mP)) N=>?_
 simp only[go_sem];refine aL (aaF x.y5 v.order) ?_;simp only[go_sem];apply aA <;> intro h1
 ·have h1:cH v.order x.y5.length=true:=by grind
  have e:fF x v=(mP,2):=by simp_all[fF,bM]
  rw[e];simp only[go_sem];refine aG E (by simp) ?_;simp only[go_sem];exact .refl _
 have h1:cH v.order x.y5.length=false:=by grind
 have I:0<=v.order/\v.order<(x.y5.length:Int):=by grind[cH]
 obtain⟨o,ho⟩:=aK (show v.order.toNat<x.y5.length by omega);have e0:bM x v=(qG o v,decide ((qG o v).place>=0)):=by simp_all[bM]
 have e:fF x v=if(qG o v).place<0 then(mP,19)else(qG o v,0):=by
  unfold fF
  grind
 rw[e];simp only[go_sem,aC ho,I];refine aH fun i6 F=>?_
 simp only[go_sem];refine bW F (by simp[iP]) fun T (U:T i6=some (BJ o.pick)) N=>?_
 replace E:=N E;obtain⟨A,E⟩:=E;simp only[go_sem];refine bO (fun J H'=>J 4=.op Z 0 0/\J 6=.op i6 0 0/\H' Z=some (BJ mP)/\H' i6=some (BJ (qG o v))) ?_ fun K hK=>aA (fun hb=>?_) (fun hb=>?_)
 ·clear E U;rintro ρ H ⟨Y,h6,E,U⟩;simp only[go_sem,h6,U];apply aA <;> intro X
  ·have X:(qG o v).place<0:=by grind
   rw[if_pos X];simp only[go_sem,Y];refine aG E (by simp) ?_;simp only[go_sem,Y];exact .refl _
  ·have X:¬(qG o v).place<0:=by grind
   rw[if_neg X];simp only[go_sem,Y,h6,U];refine aG E (by simp[iP]) ?_;simp only[go_sem,Y];exact .refl _
 ·simp only[go_sem,aC ho,I];refine aG U (by simp[iP]) ?_;simp only[go_sem];refine hK _ _ ⟨rfl,rfl,by rw[aF _ _ _ _ A];exact E,?_⟩;rw[aB,qG,if_pos hb];rfl
 ·simp only[go_sem];refine hK _ _ ⟨rfl,rfl,E,?_⟩;simp_all[qG]
def rL(set:Int)(k:Nat):List Int:=((List.range k).filter fun i:Nat=>dI set (i:Int)).map fun i:Nat=>(i:Int)
def dA(set:Int):List Int:=rL set 63
def pC(set:Int)(k:Nat):rL set (k+1)=rL set k++(if dI set (k:Int)=true then[(k:Int)]else[]):=by grind[rL,Xas]
theorem oR(set:Int)(k:Nat):(rL set k).length<=k:=by grind[rL]
def mN(set:Int):PC prog 88 [int set] (.sl ((dA set).map aP)):=by
 refine pcb (fun t=>t == 3) func88 rfl rfl ?_;simp only[go_sem];refine aH fun j T=>?_
 simp only[go_sem];refine⟨fun ρ H=>∃k:Nat,k<=63/\ρ 0=int set/\ρ 5=int k/\∃j,ρ 3=.os j/\H j=some (rW (rL set k)),fun ρ _=>63-aT (ρ 5),⟨0,Xaa _,rfl,rfl,j,rfl,aB _ _ _⟩,?_⟩;rintro ρ H ⟨k,U,h0,F,j,I,R⟩;simp only[go_sem,F];refine aA (fun A=>?_) (fun E=>?_)
 ·have A:k<63:=by grind
  simp only[go_sem,h0,F];refine aL (Ai set k) ?_;simp only[go_sem];apply aA <;> intro O
  ·simp only[go_sem,I];refine aU R ⟨rfl,rfl⟩ ⟨rfl,trivial⟩ (by grind[oR]) (fun j' J=>?_);simp only[go_sem,h0,F,aQ k];refine⟨⟨k+1,A,rfl,j',rfl,?_⟩,msr A⟩;rw[pC,if_pos O];exact iW (l':=[(k:Int)]) rfl
  ·simp only[go_sem,h0,F,I,aQ k];refine⟨⟨k+1,A,rfl,j,rfl,?_⟩,msr A⟩;simp_all[pC]
 ·have E:k=63:=by grind
  subst E;simp only[go_sem,I];exact .row _ _ _ R (ConvE.refl _)
def Z0(a b:Int):Int:=W (a+b)
def YK(a b:Int):Int:=W (a-b)
def aBw(a b:Int):PC prog 347 [int a,int b] (int (Z0 a b)):=by refine pcd func347 rfl rfl ?_;simp only[go_sem];exact .refl _
def JV(a b:Int):PC prog 348 [int a,int b] (int (YK a b)):=by refine pcd func348 rfl rfl ?_;simp only[go_sem];exact .refl _
def alL{α:Type}{l:List α}{k n:Nat}{x z:α}(E:l.length=n)(h:l[k]?=some x):(l.take k++List.replicate (n-k) z).set k x=l.take (k+1)++List.replicate (n-(k+1)) z:=by
 have A:=(List.getElem?_eq_some_iff.1 h).1;have e:n-k=(n-(k+1))+1:=by omega
 rw[aY h,e,List.replicate_succ,List.set_append_right _ _ (by grind)];have:k-(l.take k).length=0:=by grind
 grind
def No{g:Nat}{op:Int->Int->Int}(a b:List Int)(hl:a.length<=1048576)(T:a.length=b.length)(X:aE prog g=true)(hg:∀p q,PC prog g [int p,int q] (int (op p q))):
  NC prog 346 [.sl (a.map aP),.sl (b.map aP),.v (.func (.func g) #[] #[])] (rW (List.zipWith op a b)) (fun j=>.tup [.os j,int 0]):=by
 have O:(List.zipWith op a b).length=a.length:=by grind
 refine ncb (fun _=>false) func346 rfl rfl ?_;simp only[go_sem];refine aA (fun hb=>by rw[T]at hb;simp at hb) (fun _=>?_);simp only[go_sem];refine⟨⟨by omega,by omega⟩,aH fun j hj=>?_⟩;simp only[go_sem];refine⟨fun ρ H=>∃k:Nat,k<=a.length/\ρ 0=.sl (a.map aP)/\ρ 1=.sl (b.map aP)/\ρ 2=.v (.func (.func g) #[] #[])/\ρ 8=.os j/\ρ 19=int a.length/\ρ 20=int k/\H j=some (rW ((List.zipWith op a b).take k++List.replicate (a.length-k) 0)),fun ρ _=>a.length-aT (ρ 20),⟨0,Xaa _,rfl,rfl,rfl,rfl,rfl,rfl,?_⟩,?_⟩
 ·simp[aB,aP]
 rintro ρ H ⟨k,hk,h0,h1,h2,J,I,E,R⟩;simp only[go_sem,I,E];refine aA (fun A=>?_) (fun F=>?_)
 ·have A:=aX A;obtain⟨p,hp⟩:=aK A;obtain⟨q,hq⟩:=aK (show k<b.length by omega);have Y:=inB A;have b2:=inB (show k<b.length by omega);simp only[go_sem,E];refine jK [(0,true),(1,true),(2,true),(3,true),(4,true),(5,true),(6,true),(7,true),(8,false),(9,false),(10,false),(11,false),(12,false),(13,false)] (by kernel_rfl) ?_;simp only[go_sem,h0,h1,h2,J,aC hp,aC hq,Y,b2,X];refine aL (hg p q) ?_;have Z:((List.zipWith op a b).take k++List.replicate (a.length-k) 0:List Int).length=a.length:=by grind
  simp only[go_sem,R];refine⟨⟨Y.1,by omega⟩,bP so3 R (by grind) ?_⟩;have hz:(List.zipWith op a b)[k]?=some (op p q):=by grind
  have U:k<((List.zipWith op a b).take k++List.replicate (a.length-k) 0:List Int).length:=by omega
  obtain⟨y,hy⟩:=aK U;have hs:=alL (n:=a.length) (z:=(0:Int)) O hz;simp only[go_sem,h0,h1,h2,J,I,E,aC hy,aQ k];refine⟨⟨k+1,A,rfl,?_⟩,msr A⟩;rw[<-hs];show _=some (⟨3,1,_⟩:Row);rw[List.map_set];rfl
 ·have F:=aZ hk F;subst F;simp only[go_sem,J]
  grind
def AJ(a b:List Int):List Int:=List.zipWith Z0 a b
def E6(a b:List Int):List Int:=List.zipWith YK a b
def azC(a b:List Int)(E:a.length<=1048576)(A:a.length=b.length):NC prog 309 [.sl (a.map aP),.sl (b.map aP)] (rW (AJ a b)) (fun j=>.tup [.os j,int 0]):=by
 refine ncb (fun _=>false) func309 rfl rfl ?_;simp only[go_sem];refine NC.use (No a b E A rfl aBw) fun j F=>?_
 simp only[go_sem];exact⟨j,rfl,aB _ _ _⟩
def aCa(a b:List Int)(E:a.length<=1048576)(A:a.length=b.length):NC prog 310 [.sl (a.map aP),.sl (b.map aP)] (rW (E6 a b)) (fun j=>.tup [.os j,int 0]):=by
 refine ncb (fun _=>false) func310 rfl rfl ?_;simp only[go_sem];refine NC.use (No a b E A rfl JV) fun j F=>?_
 simp only[go_sem];exact⟨j,rfl,aB _ _ _⟩
def NC.pc2{f:FuncId}{args:List AV}{r:Row}{y:AV}(h:NC prog f args r (fun j=>.tup [.os j,y])):PC prog f args (.tup [.sl r.es,y]):=
 RC.conv (RC.mono h fun x H' ⟨k,A,E⟩=>by rw[A];exact .tup _ _ (.cons _ _ _ _ (.row _ _ _ E (ConvE.refl _)) (ConvL.refl _)))
def avN(a c:List Int)(hl:a.length<=1048576):PC prog 256 [.sl (a.map aP),.sl (c.map aP)] (boo (jF a c)):=by
 refine pcd func256 rfl rfl ?_;simp only[go_sem];apply aA <;> intro hb
 ·simp only[go_sem]
  grind[bU,jF]
 have aa:a.length=c.length:=by grind
 simp only[go_sem];refine⟨fun ρ _=>∃k:Nat,k<=a.length/\ρ 1=.sl (c.map aP)/\ρ 12=.sl (a.map aP)/\ρ 13=int a.length/\ρ 14=int k/\∀i∈(List.range a.length).take k,decide (a.getD i 0>c.getD i 0)=false,fun ρ _=>a.length-aT (ρ 14),⟨0,Xaa _,rfl,rfl,rfl,rfl,by simp⟩,?_⟩;rintro ρ H ⟨k,hk,h1,J,I,E,Y⟩;simp only[go_sem,I,E];refine aA (fun A=>?_) (fun F=>?_)
 ·have A:=aX A;obtain⟨p,Z⟩:=aK A;obtain⟨q,X⟩:=aK (show k<c.length by omega);have U:=inB A;have T:=inB (show k<c.length by omega);have e1:a.getD k 0=p:=by grind
  have e2:c.getD k 0=q:=by grind
  simp only[go_sem,h1,J,E,aC Z,aC X,U,T];refine aA (fun O=>?_) (fun O=>?_)
  ·simp only[go_sem]
   grind[bU,jF]
  ·simp only[go_sem,h1,J,I,E,aQ k];exact⟨⟨k+1,A,rfl,aS (p:=fun i=>decide (a.getD i 0>c.getD i 0)=false) (kM A) (by grind) Y⟩,msr A⟩
 ·have F:=aZ hk F;subst F;simp only[go_sem];simp_all[bU,jF]
def PQ(x:Instance):PC prog 308 [.sl (x.types.map bI)] (int (gM x)):=by
 refine pcd func308 rfl rfl ?_;simp only[go_sem];apply aA <;> intro F
 ·simp only[go_sem]
  grind[bS,gM]
 ·have h0:0<x.types.length:=by grind
  obtain⟨t,E⟩:=aK h0;have A:(0:Int)<=0/\(0:Int)<(x.types.length:Int):=⟨Xbz _,by omega⟩;simp only[go_sem,aC (k:=0) E,A]
  grind[bS,gM]
def yW(c s:Int):Bool:=(decide (c>=0)&&decide (s>=0))&&(vY .andNot .i64 s c == 0)
def aAM(t:VType)(s:Int):PC prog 252 [.agg (bI t),int s] (boo (yW t.l7 s)):=by refine pcd func252 rfl rfl ?_;simp only[go_sem];exact .refl _
def sH(x:Instance)(s:List Int)(i:Int):List Int:=match x.y5[i.toNat]? with
 | some o=>if decide (o.pick.place<0)=true then AJ s o.load else s
 | none=>s
def PW(x:Instance)(set dims:Int):List Int:=(dA set).foldl (sH x) (List.replicate dims.toNat 0)
theorem nL{α A:Type}{f:A->α->A}{l:List α}{k:Nat}{x:α}{b:A}(h:l[k]?=some x):(l.take (k+1)).foldl f b=f ((l.take k).foldl f b) x:=by rw[aY h,List.foldl_append];rfl
def EJ{x:Instance}{d:Nat}(A:∀o∈x.y5,o.load.length=d)(l:List Int):(l.foldl (sH x) (List.replicate d 0)).length=d:=by
 suffices ∀(l:List Int) (s:List Int),s.length=d->(l.foldl (sH x) s).length=d from this l _ (by simp)
 intro l;induction l<;>grind[sH,AJ]
def auQ(x:Instance)(set dims:Int)(h0:0<=dims)(h1:dims<=1048576)(hd:∀o∈x.y5,o.load.length=dims.toNat)(Z:∀i∈dA set,0<=i/\i<(x.y5.length:Int)):
  PC prog 307 [.agg (aD x),int set,int dims] (.sl ((PW x set dims).map aP)):=by
 have aa:(dA set).length<=63:=oR set 63;refine pcb (fun t=>t == 28) func307 rfl rfl ?_;simp only[go_sem];refine⟨⟨⟨h0,Xbz _⟩,by omega⟩,aH fun j hj=>?_⟩;simp only[go_sem];refine aL (mN set) ?_;simp only[go_sem];refine⟨fun ρ H=>∃k:Nat,k<=(dA set).length/\ρ 3=.rp (aD x) 0/\ρ 13=.sl ((dA set).map aP)/\ρ 14=int (dA set).length/\ρ 15=int k/\∃j,ρ 7=.os j/\H j=some (rW (((dA set).take k).foldl (sH x) (List.replicate dims.toNat 0))),fun ρ _=>(dA set).length-aT (ρ 15),⟨0,Xaa _,rfl,rfl,rfl,rfl,j,rfl,?_⟩,?_⟩
 ·simp[aB,aP]
 rintro ρ H ⟨k,hk,O,I,F,E,j,T,R⟩;simp only[go_sem,F,E];refine aA (fun A=>?_) (fun J=>?_)
 ·have A:=aX A;obtain⟨i,Y⟩:=aK A;have b1:=inB A;have U:=Z i (Xab Y);obtain⟨o,X⟩:=aK (show i.toNat<x.y5.length by omega);have es:((dA set).take (k+1)).foldl (sH x) (List.replicate dims.toNat 0)=if decide (o.pick.place<0)=true then AJ (((dA set).take k).foldl (sH x) (List.replicate dims.toNat 0)) o.load else((dA set).take k).foldl (sH x) (List.replicate dims.toNat 0):=by grind[nL,sH]
  have ac:=EJ hd ((dA set).take k);generalize hS:((dA set).take k).foldl (sH x) (List.replicate dims.toNat 0)=s at *;simp only[go_sem,O,I,E,aC Y,b1,aC X,U];apply aA <;> intro hb
  ·simp only[go_sem];refine Dz T R fun Hr ae hr=>?_
   simp only[go_sem,O,aC X,U];refine NC.use (azC s o.load (by omega) (by grind)) fun j2 ab=>?_
   simp only[go_sem,O,I,F,E,aQ k];exact⟨⟨k+1,A,rfl,j2,rfl,by simp_all[aB]⟩,msr A⟩
  ·simp only[go_sem,O,I,F,E,T,aQ k];exact⟨⟨k+1,A,rfl,j,rfl,by grind⟩,msr A⟩
 ·have J:=aZ hk J;subst J;rw[Xad]at R;simp only[go_sem,T];exact .row _ _ _ R (ConvE.refl _)
def W7(x:Instance)(s:List Int)(v:Visit):List Int:=match x.y5[v.order.toNat]? with
 | some o=>if v.drop=true then E6 s o.load else AJ s o.load
 | none=>s
def HZ(x:Instance)(l:List Visit)(k:Nat):List Int:=(l.take k).foldl (W7 x) (PW x (cY l).1 (gM x))
def zH(x:Instance)(l:List Visit)(k:Nat):List (List Int):=(List.range k).map (HZ x l)
def N2{x:Instance}{l:List Visit}{k:Nat}{v:Visit}(h:l[k]?=some v):HZ x l (k+1)=W7 x (HZ x l k) v:=nL h
structure LoadB(x:Instance):Prop where
 dims:0<=gM x/\gM x<=1048576
 load:∀o∈x.y5,o.load.length=(gM x).toNat
 few:x.y5.length<=63
theorem asH{x:Instance}(E:LoadB x){s:List Int}{v:Visit}(h:s.length=(gM x).toNat):(W7 x s v).length=(gM x).toNat:=by
 unfold W7;split
 ·rename_i o A;have:=E.load o (Xab A)
  grind[E6,AJ]
 omega
theorem F1{x:Instance}(A:LoadB x)(l:List Visit)(k:Nat):(HZ x l k).length=(gM x).toNat:=by
 suffices ∀(l:List Visit) (s:List Int),s.length=(gM x).toNat->(l.foldl (W7 x) s).length=(gM x).toNat from this _ _ (EJ A.load _)
 intro l;induction l<;>grind[asH]
def aoD{s:Nat}{i:Int}(h:i∈dA (s:Int)):0<=i/\i<=62/\s.testBit i.toNat=true:=by grind[dA,rL,jW]
def aoF{x:Instance}{l:List Visit}(h:sZ x l=0):∀v∈l,0<=v.order/\v.order<(x.y5.length:Int):=by grind[cH,sZ]
def DD{x:Instance}(I:LoadB x){l:List Visit}(h:∀v∈l,0<=v.order/\v.order<(x.y5.length:Int)):cY l=(((xE l:Nat):Int),0)/\∀i∈dA (cY l).1,0<=i/\i<(x.y5.length:Int):=by
 have E:∀v∈l,CV v=false:=fun v F=>by
  have:=h v F;have:=I.few
  grind[CV]
 have e:cY l=(((xE l:Nat):Int),0):=by simp_all[cY,Dx]
 refine⟨e,fun i A=>?_⟩;rw[e]at A;obtain⟨h0,h1,J⟩:=aoD A
 grind[Fh]
def pQ(x:Instance)(l:List Visit):List (List Int)×Int:=if(sZ x l != 0)=true then([],sZ x l)else(zH x l (l.length+1),0)
def aoH(x:Instance)(r:Route)(I:LoadB x)(hl:r.y7.length<=1048576)(ha:x.apart.length<=1048576)(hb:x.before.length<=1048576):
  PC prog 253 [.agg (aD x),.agg (bJ r)] (.tup [.sl ((pQ x r.y7).1.map fO),int (pQ x r.y7).2]):=by
 refine pcb (fun t=>t == 35) func253 rfl rfl ?_;simp only[go_sem];refine aL (J1 x r hl ha hb) ?_;simp only[go_sem];apply aA <;> intro hc
 ·simp only[go_sem];have:pQ x r.y7=([],sZ x r.y7):=by simp_all[pQ]
  rw[this];exact .refl _
 have e0:pQ x r.y7=(zH x r.y7 (r.y7.length+1),0):=by simp_all[pQ]
 have ah:sZ x r.y7=0:=by grind
 have ae:=aoF ah;obtain⟨eo,hm⟩:=DD I ae;simp only[go_sem];refine aL (LF r hl) ?_;simp only[go_sem];refine aA (fun aa=>by rw[eo]at aa;simp at aa) (fun _=>?_);simp only[go_sem];refine jK [(0,true),(1,true),(2,false),(3,false),(4,false),(5,false),(6,false)] (by kernel_rfl) ?_;simp only[go_sem];refine aL (PQ x) ?_;simp only[go_sem];refine aL (auQ x _ _ I.dims.1 I.dims.2 I.load hm) ?_;simp only[go_sem];refine aH fun j hj=>?_
 simp only[go_sem];refine⟨fun ρ H=>∃k:Nat,k<=r.y7.length/\ρ 2=.rp (aD x) 0/\ρ 37=.sl (r.y7.map aN)/\ρ 38=int r.y7.length/\ρ 39=int k/\ρ 9=.sl ((HZ x r.y7 k).map aP)/\∃j,ρ 10=.os j/\H j=some (OD (zH x r.y7 (k+1))),fun ρ _=>r.y7.length-aT (ρ 39),⟨0,Xaa _,rfl,rfl,rfl,rfl,rfl,j,rfl,aB _ _ _⟩,?_⟩;rintro ρ H ⟨k,hk,h2,J,Y,E,h9,j,X,R⟩;simp only[go_sem,Y,E,];refine aA (fun A=>?_) (fun U=>?_)
 ·have A:=aX A;obtain⟨v,hv⟩:=aK A;have b1:=inB A;have ac:=ae v (Xab hv);obtain⟨o,ho⟩:=aK (show v.order.toNat<x.y5.length by omega);have ak:=I.load o (Xab ho);have ai:=F1 I r.y7 k;have hd:=I.dims;have hn:=N2 (x:=x) hv;unfold W7 at hn;rw[ho]at hn;simp only at hn;simp only[go_sem,J,E,aC hv,b1];refine aH fun ag T=>?_
  simp only[go_sem];refine bW T (by simp[dG]) fun F (O:F ag=some (⟨97,2,[aN v]⟩)) N=>?_
  replace R:=(N R).2;simp only[go_sem,O];have Z:zH x r.y7 (k+2)=zH x r.y7 (k+1)++[HZ x r.y7 (k+1)]:=by grind[zH,Xas]
  have aj:(zH x r.y7 (k+1)).length=k+1:=by simp[zH]
  refine aA (fun ab=>?_) (fun ab=>?_)
  ·simp only[go_sem,h2,h9,O,aC ho,ac];refine aL (NC.pc2 (aCa (HZ x r.y7 k) o.load (by omega) (by omega))) ?_;simp only[go_sem];refine aA (fun hb=>by simp at hb) (fun _=>?_);simp only[go_sem,X];refine aU R ⟨rfl,rfl⟩ ⟨rfl,trivial⟩ (by grind) (fun j' af=>?_);simp only[go_sem,h2,J,Y,E,aQ k];refine⟨⟨k+1,A,rfl,by grind,j',rfl,?_⟩,msr A⟩;rw[aB,Z,hn,if_pos ab];show _=some (⟨48,1,_⟩:Row);rw[Xaq];rfl
  ·simp only[go_sem,h2,h9,O,aC ho,ac];refine aL (NC.pc2 (azC (HZ x r.y7 k) o.load (by omega) (by omega))) ?_;simp only[go_sem];refine aA (fun hb=>by simp at hb) (fun _=>?_);simp only[go_sem,X];refine aU R ⟨rfl,rfl⟩ ⟨rfl,trivial⟩ (by grind) (fun j' af=>?_);simp only[go_sem,h2,J,Y,E,aQ k];refine⟨⟨k+1,A,rfl,by grind,j',rfl,?_⟩,msr A⟩;rw[aB,Z,hn,if_neg (by grind)];show _=some (⟨48,1,_⟩:Row);rw[Xaq];rfl
 ·have U:=aZ hk U;subst U;simp only[go_sem,X];rw[e0];exact .tup _ _ (.cons _ _ _ _ (.row _ _ _ R (ConvE.refl _)) (ConvL.refl _))
def axC(x:Instance)(r:Route)(a:List Int)(F:a.length<=1048576)(J:cH r.type x.types.length=false):
  PC prog 255 [.sl (a.map aP),.rp (aD x) 0,.rp (bJ r) 0] (boo (!jF a (IY x r.type))):=by
 have A:0<=r.type/\r.type<(x.types.length:Int):=by grind[cH]
 obtain⟨t,I⟩:=aK (show r.type.toNat<x.types.length by omega);have E:IY x r.type=t.cap:=by grind[IY]
 refine pcd func255 rfl rfl ?_;simp only[go_sem];simp only[go_sem,aC I,A];refine aL (avN a t.cap F) ?_;simp only[go_sem];rw[E];exact .refl _
def Dg(x:Instance)(r:Route):Int:=
 if cH r.type x.types.length=true then 2 else if((pQ x r.y7).2 != 0)=true then(pQ x r.y7).2
 else if((pQ x r.y7).1.any fun l=> !jF l (IY x r.type))=true then 17 else 0
def Wg{x:Instance}(A:LoadB x){l:List Visit}:(pQ x l).1.length<=l.length+1/\∀a∈(pQ x l).1,a.length=(gM x).toNat:=by grind[pQ,zH,F1]
def auN(x:Instance)(r:Route)(A:LoadB x)(T:r.y7.length<=1048575)(F:x.apart.length<=1048576)(I:x.before.length<=1048576):
  PC prog 193 [.agg (aD x),.agg (bJ r)] (int (Dg x r)):=by
 refine pcd func193 rfl rfl ?_;simp only[go_sem];apply aA <;> intro h1
 ·simp only[go_sem];simp_all[bS,Dg,cH]
 have h1:cH r.type x.types.length=false:=h1;have Y:¬cH r.type x.types.length=true:=by grind
 simp only[go_sem];refine aL (aoH x r A (by omega) F I) ?_;simp only[go_sem];apply aA <;> intro U
 ·simp only[go_sem];simp_all[bS,Dg]
 have c2:¬((pQ x r.y7).2 != 0)=true:=by grind
 obtain⟨X,O⟩:=Wg A (l:=r.y7);have Z:=A.dims;simp only[go_sem];refine aL (Jx (p:=fun a=> !jF a (IY x r.type)) (pQ x r.y7).1 (by omega) rfl fun a E=>axC x r a (by grind) h1) ?_;simp only[go_sem];apply aA <;> intro J
 ·simp only[go_sem];simp_all[bS,Dg]
 ·simp only[go_sem];simp_all[bS,Dg]
end Sq
end Go.Proofs.YtkfhgjihlbilpaaGreatDoor
