import Derived.Test.YtpagaknmdfgfkaaGreatDoorPb10
set_option linter.unusedSimpArgs false
set_option linter.unusedVariables false
set_option linter.defProp false
set_option maxRecDepth 100000
section
namespace Go.Proofs.YtpagaknmdfgfkaaGreatDoor.Sq
open Go.Proofs.Tryz
open Go.Aw Go.Aw.D Go.Proofs Ty
open Mv (bO bR aO)
def gS(o:Order)(i:Int):List Visit:=(if decide (o.pick.place>=0)=true then[⟨i,false⟩]else[])++(if decide (o.drop.place>=0)=true then[⟨i,true⟩]else[])
def fV(os:List Order)(i:Int):List Visit:=if cK i os.length=true then[]else match os[i.toNat]? with|some o=>gS o i|none=>[]
def SV(o:Order)(i:Int):(gS o i).length<=2:=by unfold gS;split <;> split <;> simp
def vV(os:List Order)(i:Int):(fV os i).length<=2:=by
 unfold fV;split
 ·simp
 ·split
  ·exact SV _ _
  ·simp
def vC(os:List Order)(i:Int):PC prog 115 [.sl (os.map bH),int i] (.sl ((fV os i).map aF)):=by
 refine pcb (fun t=>t == 5) func115 rfl rfl ?_;simp only[go_sem];refine aL fun j Y=>?_
 simp only[go_sem];refine aG (XL os i) ?_;simp only[go_sem];apply aA <;> intro h0
 ·have F:cK i os.length=true:=by simpa using h0
  simp only[go_sem];rw[fV,if_pos F];exact .refl _
 have F:cK i os.length=false:=by simpa using h0
 have J:0<=i/\i<(os.length:Int):=by simp only[cK,Xag,decide_eq_false_iff_not]at F;omega
 obtain⟨o,I⟩:=aK (show i.toNat<os.length by omega);rw[fV,if_neg (by rw[F];simp),I];simp only[go_sem,aD I,J];apply aA <;> intro h1
 ·simp only[go_sem];refine aZ (aB _ _ _) ⟨rfl,rfl⟩ ⟨rfl,trivial⟩ (by simp) (fun X U=>?_);simp only[go_sem,aD I,J];apply aA <;> intro E
  ·simp only[go_sem];refine aZ (aB _ _ _) ⟨rfl,rfl⟩ ⟨rfl,trivial⟩ (by simp) (fun V O=>?_);simp only[go_sem];have e:gS o i=[⟨i,false⟩,⟨i,true⟩]:=by unfold gS;rw[if_pos h1,if_pos E];rfl
   rw[e];exact .row _ _ _ (aB _ _ _) (ConvE.refl _)
  ·simp only[go_sem];have e:gS o i=[⟨i,false⟩]:=by unfold gS;rw[if_pos h1,if_neg (by rw[E];simp)];rfl
   rw[e];exact .row _ _ _ (aB _ _ _) (ConvE.refl _)
 ·simp only[go_sem,aD I,J];apply aA <;> intro E
  ·simp only[go_sem];refine aZ (aB _ _ _) ⟨rfl,rfl⟩ ⟨rfl,trivial⟩ (by simp) (fun V O=>?_);simp only[go_sem];have e:gS o i=[⟨i,true⟩]:=by unfold gS;rw[if_neg (by rw[h1];simp),if_pos E];rfl
   rw[e];exact .row _ _ _ (aB _ _ _) (ConvE.refl _)
  ·simp only[go_sem];have e:gS o i=[]:=by unfold gS;rw[if_neg (by rw[h1];simp),if_neg (by rw[E];simp)];rfl
   rw[e];exact .row _ _ _ (aB _ _ _) (ConvE.refl _)
def qY(l:List Visit)(i:Nat):Bool:=decide (bJ (l.take i) (l.getD i ⟨0,false⟩)>=0)
def IG:∀l:List Visit,dL 2 (l.map aF)
 | []=>trivial
 | _::r=>⟨rfl,IG r⟩
def alF(l:List Visit)(hl:l.length<=1048576):PC prog 297 [.sl (l.map aF)] (boo ((List.range l.length).any (qY l))):=by
 refine pcd func297 rfl rfl ?_;simp only[go_sem];refine⟨fun ρ _=>∃k:Nat,k<=l.length/\ρ 0=.sl (l.map aF)/\ρ 5=.sl (l.map aF)/\ρ 6=int l.length/\ρ 7=int k/\∀c∈(List.range l.length).take k,qY l c=false,fun ρ _=>l.length-aR (ρ 7),⟨0,Xaa _,rfl,rfl,rfl,rfl,by simp⟩,?_⟩;rintro ρ H ⟨k,hk,h0,h5,Z,O,hz⟩;simp only[go_sem,Z,O];refine aA (fun E=>?_) (fun F=>?_)
 ·have E:=aT E;obtain⟨v,hv⟩:=aK E;have b1:=inB E;simp only[go_sem,h5,O,aD hv,b1];refine aL fun U J=>?_
  simp only[go_sem];refine cJ J (by simp[dJ]) fun I (Y:I U=some (⟨112,2,[aF v]⟩)) N=>?_
  simp only[go_sem];refine gU [U] [(0,true),(1,true),(2,true),(3,true),(4,true),(5,true)] (by simp[Y]) (by kernel_rfl) fun Hp Hr hp hr _ aa=>?_
  have P4:=(hp U (by simp)).trans Y;simp only[go_sem,h0,P4,<-List.map_take];refine⟨by omega,_,(Em (l.take k) v (by simp;omega)).q rfl,?_⟩;simp only[go_sem];refine jK fun _ Hm _ _=>?_
  simp only[go_sem];have V:qY l k=decide (bJ (l.take k) v>=0):=by simp[qY,List.getD,hv]
  apply aA <;> intro X
  ·simp only[go_sem];exact bR (Xao.2 ⟨k,Xar.2 E,V.trans X⟩).symm
  ·simp only[go_sem,h0,h5,Z,O,aQ k];exact⟨⟨k+1,E,rfl,aO (p:=fun c=>qY l c=false) (iA E) (V.trans X) hz⟩,msr E⟩
 ·have F:=aV hk F;subst F;simp only[go_sem];refine bR ?_
  symm
  rw[Xbb];intro c hc;rw[hz c (by rw[Xan (by simp)];exact hc)];simp
def qW(l:List Visit):List Visit->Int->Bool
 | [],_=>true
 | w::r,last=>decide (bJ l w>last)&&qW l r (bJ l w)
def xE(os:List Order)(l:List Visit)(v:Visit):Bool:=inV (fV os v.order) v&&qW l (fV os v.order) (-1)
def Rb{α:Type}{l:List α}{k:Nat}{x:α}(h:l[k]?=some x):l.drop k=x::l.drop (k+1):=by obtain⟨E,rfl⟩:=List.getElem?_eq_some_iff.1 h;exact Xci E
def afB(x:Instance)(l:List Visit)(hl:l.length<=1048576):PC prog 298 [.agg (aC x),.sl (l.map aF)] (boo (l.all (xE x.orders l))):=by
 refine pcd func298 rfl rfl ?_;simp only[go_sem];refine⟨fun ρ _=>∃k:Nat,k<=l.length/\ρ 1=.sl (l.map aF)/\ρ 2=.rp (aC x) 0/\ρ 12=.sl (l.map aF)/\ρ 13=int l.length/\ρ 14=int k/\∀v∈l.take k,xE x.orders l v=true,fun ρ _=>l.length-aR (ρ 14),⟨0,Xaa _,rfl,rfl,rfl,rfl,rfl,by simp⟩,?_⟩;rintro ρ H ⟨k,hk,h1,h2,J,U,F,hz⟩;simp only[go_sem,U,F];refine aA (fun I=>?_) (fun X=>?_)
 ·have I:=aT I;obtain⟨v,hv⟩:=aK I;have b1:=inB I;simp only[go_sem,J,F,aD hv,b1];refine aL fun i6 ad=>?_
  simp only[go_sem];refine cJ ad (by simp[dJ]) fun ae (R6:ae i6=some (⟨112,2,[aF v]⟩)) N=>?_
  simp only[go_sem,h2,R6];refine aG (vC x.orders v.order) ?_;have ah:=vV x.orders v.order;simp only[go_sem,R6];refine aG (VL (fV x.orders v.order) v (by omega)) ?_;simp only[go_sem];apply aA <;> intro hb
  ·simp only[go_sem];refine bR ?_
   symm
   exact xB hv (by unfold xE;rw[show inV (fV x.orders v.order) v=false by simpa using hb];rfl)
  have aa:inV (fV x.orders v.order) v=true:=by simpa using hb
  simp only[go_sem];refine⟨fun ρ _=>∃(m:Nat) (last:Int),m<=(fV x.orders v.order).length/\ρ 1=.sl (l.map aF)/\ρ 2=.rp (aC x) 0/\ρ 12=.sl (l.map aF)/\ρ 13=int l.length/\ρ 14=int k/\ρ 27=.sl ((fV x.orders v.order).map aF)/\ρ 28=int (fV x.orders v.order).length/\ρ 29=int m/\ρ 8=int last/\qW l (fV x.orders v.order) (-1)=qW l ((fV x.orders v.order).drop m) last,fun ρ _=>(fV x.orders v.order).length-aR (ρ 29),
   ⟨0,-1,Xaa _,h1,h2,J,U,F,rfl,rfl,by simp only[go_sem];rfl,rfl,rfl⟩,?_⟩
  rintro ρ H ⟨m,last,hm,h1,h2,J,U,F,ab,ac,Z,h8,he⟩;simp only[go_sem,ac,Z];refine aA (fun E=>?_) (fun O=>?_)
  ·have E:=aT E;obtain⟨w,hw⟩:=aK E;have b2:=inB E;simp only[go_sem,ab,Z,aD hw,b2];refine aL fun af V=>?_
   simp only[go_sem];refine cJ V (by simp[dJ]) fun Y (ag:Y af=some (⟨112,2,[aF w]⟩)) N=>?_
   simp only[go_sem,h1,ag];refine aG (Em l w hl) ?_;simp only[go_sem,h8];rw[Rb hw]at he;apply aA <;> intro hb
   ·simp only[go_sem];refine bR ?_
    symm
    refine xB hv ?_;unfold xE;rw[aa,he,qW];have:decide (bJ l w>last)=false:=by simp at hb |-;exact hb
    rw[this];rfl
   ·simp only[go_sem,h1,h2,J,U,F,ab,ac,Z,aQ m];refine⟨⟨m+1,_,E,rfl,rfl,?_⟩,by simp only[aN];omega⟩;rw[he,qW];have:decide (bJ l w>last)=true:=by simp at hb |-;exact hb
    rw[this];rfl
  ·have O:=aV hm O;subst O;rw[Xcl,qW]at he;simp only[go_sem,h1,h2,J,U,F,aQ k];exact⟨⟨k+1,I,rfl,aO (p:=fun v=>xE x.orders l v=true) hv (by unfold xE;rw[aa,he];rfl) hz⟩,msr I⟩
 ·have X:=aV hk X;subst X;simp only[go_sem];exact bR (Bq hz).symm
def G9(l:List Visit)(a b:Int):Bool:=decide (pM (fun v:Visit=>v.order == b) l 0<0)||(iY l a&& !iY (l.drop (pM (fun v:Visit=>v.order == b) l 0).toNat) a)
def Xq{α:Type}{p:α->Bool}:∀(l:List α) (n:Int),pM p l n<n+l.length\/pM p l n= -1
 | [],n=>.inr rfl
 | a::r,n=>by
  unfold pM;split
  ·left;simp;omega
  ·rcases Xq (p:=p) r (n+1)with h|h
   ·left;simp;omega
   ·right;exact h
def afH(l:List Visit)(a b:Int)(F:l.length<=1048576):PC prog 300 [.sl (l.map aF),int a,int b] (boo (G9 l a b)):=by
 refine pcd func300 rfl rfl ?_;simp only[go_sem];refine aG (DO (p:=fun v=>v.order == b) l F rfl fun v _=>ZI b v) ?_;simp only[go_sem];have hi:=Xq (p:=fun v:Visit=>v.order == b) l 0;generalize J:pM (fun v:Visit=>v.order == b) l 0=I at hi;apply aA <;> intro h0
 ·simp only[go_sem];refine bR ?_;unfold G9;rw[J,h0];rfl
 ·have E:0<=I:=by simp at h0;exact h0
  simp only[go_sem];refine aG (Gt l a F) ?_;simp only[go_sem,<-List.map_drop];refine⟨fun _=>⟨⟨E,by omega⟩,IG l⟩,_,fun _=>(Gt (l.drop I.toNat) a (by simp;omega)).q rfl,?_⟩;simp only[go_sem];refine bR ?_;unfold G9;rw[J,h0];rfl
def acI(x:Instance)(v:Visit):PC prog 295 [.agg (aF v),.rp (aC x) 0] (boo (cK v.order x.orders.length)):=by refine pcd func295 rfl rfl ?_;simp only[go_sem];exact .refl _
def akB(x:Instance)(v:Visit)(h:cK v.order x.orders.length=false):PC prog 296 [.agg (aF v),.rp (aC x) 0] (boo (wI x v.order)):=by
 have F:0<=v.order/\v.order<(x.orders.length:Int):=by simp only[cK,Xag,decide_eq_false_iff_not]at h;omega
 obtain⟨o,E⟩:=aK (show v.order.toNat<x.orders.length by omega);refine pcd func296 rfl rfl ?_;simp only[go_sem];simp only[go_sem,aD E,F];exact bR (by unfold wI;rw[E])
def rO(x:Instance)(l:List Visit):Int:=
 if((l.length:Int) == 0||l.any fun v=>cK v.order x.orders.length)=true then 2
 else if(l.any fun v=>wI x v.order)=true then 9
 else if((List.range l.length).any (qY l))=true then 6
 else if(!l.all (xE x.orders l))=true then 19
 else if(x.apart.any fun q=>iY l q.a&&iY l q.b)=true then 20
 else if(x.before.any fun q=> !G9 l q.a q.b)=true then 21 else 0
def I3(x:Instance)(r:Route)(V:r.visits.length<=1048576)(ha:x.apart.length<=1048576)(hb:x.before.length<=1048576):PC prog 258 [.agg (aC x),.agg (bT r)] (int (rO x r.visits)):=by
 refine pcd func258 rfl rfl ?_;simp only[go_sem];refine⟨_,fun _=>(uA (p:=fun v=>cK v.order x.orders.length) r.visits V rfl fun v _=>acI x v).q rfl,?_⟩;simp only[go_sem];apply aA <;> intro J
 ·simp only[go_sem];exact bO (by unfold rO;rw[if_pos J])
 have aj:∀v∈r.visits,cK v.order x.orders.length=false:=fun v hv=>by rw[Xag]at J;have:=Xbb.1 J.2 v hv;simpa using this
 have J:¬((r.visits.length:Int) == 0||r.visits.any fun v=>cK v.order x.orders.length)=true:=by rw[J];simp
 simp only[go_sem];refine aG (uA (p:=fun v=>wI x v.order) r.visits V rfl fun v hv=>akB x v (aj v hv)) ?_;simp only[go_sem];apply aA <;> intro O
 ·simp only[go_sem];exact bO (by unfold rO;rw[if_neg J,if_pos O])
 have O:¬(r.visits.any fun v=>wI x v.order)=true:=by rw[O];simp
 simp only[go_sem];refine aG (alF r.visits V) ?_;simp only[go_sem];apply aA <;> intro U
 ·simp only[go_sem];exact bO (by unfold rO;rw[if_neg J,if_neg O,if_pos U])
 have U:¬((List.range r.visits.length).any (qY r.visits))=true:=by rw[U];simp
 simp only[go_sem];refine aG (afB x r.visits V) ?_;simp only[go_sem];apply aA <;> intro c4
 ·simp only[go_sem];exact bO (by unfold rO;rw[if_neg J,if_neg O,if_neg U,if_pos c4])
 have c4:¬(!r.visits.all (xE x.orders r.visits))=true:=by rw[c4];simp
 simp only[go_sem];refine⟨fun ρ _=>∃k:Nat,k<=x.apart.length/\ρ 2=.rp (aC x) 0/\ρ 5=.sl (r.visits.map aF)/\ρ 33=.sl (x.apart.map dH)/\ρ 34=int x.apart.length/\ρ 35=int k/\∀q∈x.apart.take k,(iY r.visits q.a&&iY r.visits q.b)=false,fun ρ _=>x.apart.length-aR (ρ 35),⟨0,Xaa _,rfl,rfl,rfl,rfl,by simp only[go_sem];rfl,by simp⟩,?_⟩;rintro ρ H ⟨k,hk,h2,Y,ag,af,X,Z⟩;simp only[go_sem,af,X];refine aA (fun E=>?_) (fun F=>?_)
 ·have E:=aT E;obtain⟨q,hq⟩:=aK E;have b1:=inB E;simp only[go_sem,ag,X,aD hq,b1];refine aL fun i7 ab=>?_
  simp only[go_sem];refine cJ ab (by simp[nP]) fun ah (R7:ah i7=some (⟨169,2,[dH q]⟩)) N=>?_
  simp only[go_sem,Y,R7];refine⟨by decide,PC.use (Gt r.visits q.a V) ?_⟩;simp only[go_sem,Y,R7];refine⟨fun _=>by decide,_,fun _=>(Gt r.visits q.b V).q rfl,?_⟩;simp only[go_sem];refine aA (fun I=>?_) (fun I=>?_)
  ·simp only[go_sem];exact bO (by unfold rO;rw[if_neg J,if_neg O,if_neg U,if_neg c4,if_pos (Xao.2 ⟨q,Xac hq,I⟩)])
  ·simp only[go_sem,h2,Y,ag,af,X,aQ k];exact⟨⟨k+1,E,rfl,aO (p:=fun q:Pair=>(iY r.visits q.a&&iY r.visits q.b)=false) hq I Z⟩,msr E⟩
 have F:=aV hk F;subst F;rw[Xad]at Z;have c5:¬(x.apart.any fun q=>iY r.visits q.a&&iY r.visits q.b)=true:=by rw[qA Z];simp
 simp only[go_sem,h2];refine⟨fun ρ _=>∃k:Nat,k<=x.before.length/\ρ 5=.sl (r.visits.map aF)/\ρ 51=.sl (x.before.map dH)/\ρ 52=int x.before.length/\ρ 53=int k/\∀q∈x.before.take k,(!G9 r.visits q.a q.b)=false,fun ρ _=>x.before.length-aR (ρ 53),⟨0,Xaa _,Y,rfl,rfl,by simp only[go_sem];rfl,by simp⟩,?_⟩;rintro ρ H ⟨k,hk,Y,ai,ad,aa,Z⟩;simp only[go_sem,ad,aa];refine aA (fun E=>?_) (fun F=>?_)
 ·have E:=aT E;obtain⟨q,hq⟩:=aK E;have b1:=inB E;simp only[go_sem,ai,aa,aD hq,b1];refine aL fun i9 ac=>?_
  simp only[go_sem];refine cJ ac (by simp[nP]) fun ae (R9:ae i9=some (⟨169,2,[dH q]⟩)) N=>?_
  simp only[go_sem,Y,R9];refine⟨by decide,⟨by decide,PC.use (afH r.visits q.a q.b V) ?_⟩⟩;simp only[go_sem];refine aA (fun I=>?_) (fun I=>?_)
  ·simp only[go_sem];exact bO (by unfold rO;rw[if_neg J,if_neg O,if_neg U,if_neg c4,if_neg c5,if_pos (Xao.2 ⟨q,Xac hq,I⟩)])
  ·simp only[go_sem,Y,ai,ad,aa,aQ k];exact⟨⟨k+1,E,rfl,aO (p:=fun q:Pair=>(!G9 r.visits q.a q.b)=false) hq I Z⟩,msr E⟩
 have F:=aV hk F;subst F;rw[Xad]at Z;simp only[go_sem];exact bO (by unfold rO;rw[if_neg J,if_neg O,if_neg U,if_neg c4,if_neg c5,if_neg (by rw[qA Z];simp)])
def eZ(x:Instance)(v:Visit):Stop×Int:=if(bI x v).2=true then((bI x v).1,0)else(kZ,if cK v.order x.orders.length=true then 2 else 19)
def XN(x:Instance)(v:Visit):PC prog 177 [.sl (x.orders.map bH),.agg (aF v)] (.tup [.agg (eN (eZ x v).1),int (eZ x v).2]):=by
 refine pcd func177 rfl rfl ?_;simp only[go_sem];refine fO fun i4 X aa (F:X i4=some (Au kZ)) N=>?_
 simp only[go_sem];refine aG (XL x.orders v.order) ?_;simp only[go_sem];apply aA <;> intro h1
 ·have h1:cK v.order x.orders.length=true:=by simpa using h1
  have e:eZ x v=(kZ,2):=by unfold eZ bI;rw[if_pos h1,if_pos h1];rfl
  rw[e];simp only[go_sem];refine aI F (by simp) ?_;simp only[go_sem];exact .refl _
 have h1:cK v.order x.orders.length=false:=by simpa using h1
 have O:0<=v.order/\v.order<(x.orders.length:Int):=by simp only[cK,Xag,decide_eq_false_iff_not]at h1;omega
 obtain⟨o,ho⟩:=aK (show v.order.toNat<x.orders.length by omega);have e0:bI x v=(oQ o v,decide ((oQ o v).place>=0)):=by unfold bI;rw[if_neg (by rw[h1];simp),ho]
 have e:eZ x v=if(oQ o v).place<0 then(kZ,19)else(oQ o v,0):=by
  unfold eZ;rw[e0,if_neg (show ¬cK v.order x.orders.length=true by rw[h1];simp)];by_cases h:(oQ o v).place<0
  ·rw[if_pos h,if_neg (by simp;omega)]
  ·rw[if_neg h,if_pos (by simp;omega)]
 rw[e];simp only[go_sem,aD ho,O];refine aL fun i6 U=>?_
 simp only[go_sem];refine cJ U (by simp[iB]) fun Y (J:Y i6=some (Au o.pick)) N=>?_
 replace F:=N F;obtain⟨E,F⟩:=F;simp only[go_sem];refine bK (fun V H'=>V 4=.op i4 0 0/\V 6=.op i6 0 0/\H' i4=some (Au kZ)/\H' i6=some (Au (oQ o v))) ?_ fun K hK=>aA (fun hb=>?_) (fun hb=>?_)
 ·clear F J;rintro ρ H ⟨Z,h6,F,J⟩;simp only[go_sem,h6,J];apply aA <;> intro I
  ·have I:(oQ o v).place<0:=by simpa using I
   rw[if_pos I];simp only[go_sem,Z];refine aI F (by simp) ?_;simp only[go_sem,Z];exact .refl _
  ·have I:¬(oQ o v).place<0:=by simpa using I
   rw[if_neg I];simp only[go_sem,Z,h6,J];refine aI F (by simp[iB]) ?_;simp only[go_sem,Z];exact .refl _
 ·simp only[go_sem,aD ho,O];refine aI J (by simp[iB]) ?_;simp only[go_sem];refine hK _ _ ⟨rfl,rfl,by rw[aJ _ _ _ _ E];exact F,?_⟩;rw[aB,oQ,if_pos hb];rfl
 ·simp only[go_sem];refine hK _ _ ⟨rfl,rfl,F,?_⟩;rw[oQ,if_neg (by rw[hb];simp)];exact J
def qO(set:Int)(k:Nat):List Int:=((List.range k).filter fun i:Nat=>dN set (i:Int)).map fun i:Nat=>(i:Int)
def cZ(set:Int):List Int:=qO set 63
def oN(set:Int)(k:Nat):qO set (k+1)=qO set k++(if dN set (k:Int)=true then[(k:Int)]else[]):=by
 unfold qO;rw[Xbi,List.filter_append,Xal];by_cases h:dN set (k:Int)=true
 ·simp[h]
 ·simp[h]
def nQ(set:Int)(k:Nat):(qO set k).length<=k:=by unfold qO;rw[Xab];exact Xam (Xcp _ _) (by simp)
def mU(set:Int):PC prog 114 [int set] (.sl ((cZ set).map bC)):=by
 refine pcb (fun t=>t == 3) func114 rfl rfl ?_;simp only[go_sem];refine aL fun j Y=>?_
 simp only[go_sem];refine⟨fun ρ H=>∃k:Nat,k<=63/\ρ 0=int set/\ρ 5=int k/\∃j,ρ 3=.os j/\H j=some (pA (qO set k)),fun ρ _=>63-aR (ρ 5),⟨0,Xaa _,rfl,rfl,j,rfl,aB _ _ _⟩,?_⟩;rintro ρ H ⟨k,X,h0,I,j,J,R⟩;simp only[go_sem,I];refine aA (fun E=>?_) (fun F=>?_)
 ·have E:k<63:=by simp at E;omega
  simp only[go_sem,h0,I];refine aG (yJ set k) ?_;simp only[go_sem];apply aA <;> intro O
  ·simp only[go_sem,J];refine aZ R ⟨rfl,rfl⟩ ⟨rfl,trivial⟩ (by have:=nQ set k;simp;omega) (fun U V=>?_);simp only[go_sem,h0,I,aQ k];refine⟨⟨k+1,E,rfl,U,rfl,?_⟩,msr E⟩;rw[oN,if_pos O];exact iG (l':=[(k:Int)]) rfl
  ·simp only[go_sem,h0,I,J,aQ k];refine⟨⟨k+1,E,rfl,j,rfl,?_⟩,msr E⟩;rw[oN,if_neg (by rw[O];simp),Xak];exact R
 ·have F:k=63:=by simp at F;omega
  subst F;simp only[go_sem,J];exact .row _ _ _ R (ConvE.refl _)
def Xv(a b:Int):Int:=W (a+b)
def V8(a b:Int):Int:=W (a-b)
def atR(a b:Int):PC prog 366 [int a,int b] (int (Xv a b)):=by refine pcd func366 rfl rfl ?_;simp only[go_sem];exact .refl _
def Ho(a b:Int):PC prog 367 [int a,int b] (int (V8 a b)):=by refine pcd func367 rfl rfl ?_;simp only[go_sem];exact .refl _
def agT{α:Type}{l:List α}{k n:Nat}{x z:α}(F:l.length=n)(h:l[k]?=some x):(l.take k++List.replicate (n-k) z).set k x=l.take (k+1)++List.replicate (n-(k+1)) z:=by
 have E:=(List.getElem?_eq_some_iff.1 h).1;have e:n-k=(n-(k+1))+1:=by omega
 rw[bA h,e,List.replicate_succ,List.set_append_right _ _ (by simp;omega)];have:k-(l.take k).length=0:=by simp;omega
 rw[this,List.set_cons_zero];simp
def K7{g:Nat}{op:Int->Int->Int}(a b:List Int)(hl:a.length<=1048576)(V:a.length=b.length)(X:aE prog g=true)(hg:∀p q,PC prog g [int p,int q] (int (op p q))):
  NC prog 365 [.sl (a.map bC),.sl (b.map bC),.v (.func (.func g) #[] #[])] (pA (List.zipWith op a b)) (fun j=>.tup [.os j,int 0]):=by
 have O:(List.zipWith op a b).length=a.length:=by rw[List.length_zipWith,<-V,Nat.min_self]
 refine ncb (fun _=>false) func365 rfl rfl ?_;simp only[go_sem];refine aA (fun hb=>by rw[V]at hb;simp at hb) (fun _=>?_);simp only[go_sem];refine⟨⟨by omega,by omega⟩,aL fun j hj=>?_⟩;simp only[go_sem];refine⟨fun ρ H=>∃k:Nat,k<=a.length/\ρ 0=.sl (a.map bC)/\ρ 1=.sl (b.map bC)/\ρ 2=.v (.func (.func g) #[] #[])/\ρ 8=.os j/\ρ 19=int a.length/\ρ 20=int k/\H j=some (pA ((List.zipWith op a b).take k++List.replicate (a.length-k) 0)),fun ρ _=>a.length-aR (ρ 20),⟨0,Xaa _,rfl,rfl,rfl,rfl,rfl,rfl,?_⟩,?_⟩
 ·rw[aB];simp[pA,List.map_replicate,bC]
 rintro ρ H ⟨k,hk,h0,h1,h2,Y,U,J,R⟩;simp only[go_sem,U,J];refine aA (fun E=>?_) (fun I=>?_)
 ·have E:=aT E;obtain⟨p,hp⟩:=aK E;obtain⟨q,hq⟩:=aK (show k<b.length by omega);have Z:=inB E;have b2:=inB (show k<b.length by omega);simp only[go_sem,J];refine lQ [(0,true),(1,true),(2,true),(3,true),(4,true),(5,true),(6,true),(7,true),(8,false),(9,false),(10,false),(11,false),(12,false),(13,false)] (by kernel_rfl) ?_;simp only[go_sem,h0,h1,h2,Y,aD hp,aD hq,Z,b2,X];refine aG (hg p q) ?_;have F:((List.zipWith op a b).take k++List.replicate (a.length-k) 0:List Int).length=a.length:=by simp[O];omega
  simp only[go_sem,R];refine⟨⟨Z.1,by rw[F];exact Z.2⟩,dS so3 R (by rw[Xab,F];exact⟨E,rfl,Xaf 1⟩) ?_⟩;have hz:(List.zipWith op a b)[k]?=some (op p q):=by rw[List.getElem?_zipWith,hp,hq]
  have aa:k<((List.zipWith op a b).take k++List.replicate (a.length-k) 0:List Int).length:=by omega
  obtain⟨y,hy⟩:=aK aa;have hs:=agT (n:=a.length) (z:=(0:Int)) O hz;simp only[go_sem,h0,h1,h2,Y,U,J,aD hy,aQ k];refine⟨⟨k+1,E,rfl,?_⟩,msr E⟩;rw[<-hs];show _=some (⟨3,1,_⟩:Row);rw[List.map_set];rfl
 ·have I:=aV hk I;subst I;simp only[go_sem,Y];refine⟨j,rfl,?_⟩;rw[R,Xan (by omega)];simp
def yP(a b:List Int):List Int:=List.zipWith Xv a b
def Dg(a b:List Int):List Int:=List.zipWith V8 a b
def aqS(a b:List Int)(F:a.length<=1048576)(E:a.length=b.length):NC prog 340 [.sl (a.map bC),.sl (b.map bC)] (pA (yP a b)) (fun j=>.tup [.os j,int 0]):=by
 refine ncb (fun _=>false) func340 rfl rfl ?_;simp only[go_sem];refine NC.use (K7 a b F E rfl atR) fun j I=>?_
 simp only[go_sem];exact⟨j,rfl,aB _ _ _⟩
def awK(a b:List Int)(F:a.length<=1048576)(E:a.length=b.length):NC prog 341 [.sl (a.map bC),.sl (b.map bC)] (pA (Dg a b)) (fun j=>.tup [.os j,int 0]):=by
 refine ncb (fun _=>false) func341 rfl rfl ?_;simp only[go_sem];refine NC.use (K7 a b F E rfl Ho) fun j I=>?_
 simp only[go_sem];exact⟨j,rfl,aB _ _ _⟩
def NC.pc2{f:FuncId}{args:List AV}{r:Row}{y:AV}(h:NC prog f args r (fun j=>.tup [.os j,y])):PC prog f args (.tup [.sl r.es,y]):=
 RC.conv (RC.mono h fun x H' ⟨k,E,F⟩=>by rw[E];exact .tup _ _ (.cons _ _ _ _ (.row _ _ _ F (ConvE.refl _)) (ConvL.refl _)))
def aoV(a c:List Int)(hl:a.length<=1048576):PC prog 305 [.sl (a.map bC),.sl (c.map bC)] (boo (iW a c)):=by
 refine pcd func305 rfl rfl ?_;simp only[go_sem];apply aA <;> intro Y
 ·simp only[go_sem];refine bR ?_;unfold iW;have:((a.length:Int) == (c.length:Int))=false:=by simpa[bne]using Y
  rw[this];rfl
 have V:a.length=c.length:=by simp[bne]at Y;omega
 simp only[go_sem];refine⟨fun ρ _=>∃k:Nat,k<=a.length/\ρ 1=.sl (c.map bC)/\ρ 12=.sl (a.map bC)/\ρ 13=int a.length/\ρ 14=int k/\∀i∈(List.range a.length).take k,decide (a.getD i 0>c.getD i 0)=false,fun ρ _=>a.length-aR (ρ 14),⟨0,Xaa _,rfl,rfl,rfl,rfl,by simp⟩,?_⟩;rintro ρ H ⟨k,hk,h1,U,O,F,hz⟩;simp only[go_sem,O,F];refine aA (fun E=>?_) (fun I=>?_)
 ·have E:=aT E;obtain⟨p,hp⟩:=aK E;obtain⟨q,hq⟩:=aK (show k<c.length by omega);have b1:=inB E;have b2:=inB (show k<c.length by omega);have X:a.getD k 0=p:=by simp[List.getD,hp]
  have Z:c.getD k 0=q:=by simp[List.getD,hq]
  simp only[go_sem,h1,U,F,aD hp,aD hq,b1,b2];refine aA (fun J=>?_) (fun J=>?_)
  ·simp only[go_sem];refine bR ?_;unfold iW
   symm
   rw[Xcx];right;exact xB (iA E) (by rw[X,Z,J];rfl)
  ·simp only[go_sem,h1,U,O,F,aQ k];exact⟨⟨k+1,E,rfl,aO (p:=fun i=>decide (a.getD i 0>c.getD i 0)=false) (iA E) (by rw[X,Z];exact J) hz⟩,msr E⟩
 ·have I:=aV hk I;subst I;simp only[go_sem];refine bR ?_;unfold iW
  symm
  rw[Xai];refine⟨by simp[V],Xaj.2 fun i hi=>?_⟩;rw[hz i (by rw[Xan (by simp)];exact hi)];rfl
def OF(x:Instance):PC prog 339 [.sl (x.types.map bF)] (int (fT x)):=by
 refine pcd func339 rfl rfl ?_;simp only[go_sem];apply aA <;> intro E
 ·simp only[go_sem];have:x.types=[]:=Xcz (by simp at E;simpa using E);exact bO (by unfold fT;rw[this];rfl)
 ·have h0 : 0 < x.types.length := by
   rcases Xcu x.types.length with h|h
   ·rw[h]at E;simp at E
   ·exact h
  obtain⟨t,F⟩:=aK h0;have I:(0:Int)<=0/\(0:Int)<(x.types.length:Int):=⟨Xbp _,by omega⟩;simp only[go_sem,aD (k:=0) F,I];exact bO (by unfold fT;rw[F])
def xG(c s:Int):Bool:=(decide (c>=0)&&decide (s>=0))&&(xR .andNot .i64 s c == 0)
def arT(t:VType)(s:Int):PC prog 301 [.agg (bF t),int s] (boo (xG t.skills s)):=by refine pcd func301 rfl rfl ?_;simp only[go_sem];exact .refl _
def qR(x:Instance)(s:List Int)(i:Int):List Int:=match x.orders[i.toNat]? with
 | some o=>if decide (o.pick.place<0)=true then yP s o.load else s
 | none=>s
def Pf(x:Instance)(set dims:Int):List Int:=(cZ set).foldl (qR x) (List.replicate dims.toNat 0)
def lH{α E:Type}{f:E->α->E}{l:List α}{k:Nat}{x:α}{b:E}(h:l[k]?=some x):(l.take (k+1)).foldl f b=f ((l.take k).foldl f b) x:=by rw[bA h,Xbn];rfl
def Dd{x:Instance}{d:Nat}(E:∀o∈x.orders,o.load.length=d)(l:List Int):(l.foldl (qR x) (List.replicate d 0)).length=d:=by
 suffices ∀(l:List Int) (s:List Int),s.length=d->(l.foldl (qR x) s).length=d from this l _ (by simp)
 intro l;induction l with
 | nil=>intro s h;exact h
 | cons i r ih=>
  intro s h;rw[List.foldl_cons];refine ih _ ?_;unfold qR;split
  ·rename_i o F;split
   ·unfold yP;rw[List.length_zipWith,h,E o (Xac F),Nat.min_self]
   ·exact h
  ·exact h
def anU(x:Instance)(set dims:Int)(h0:0<=dims)(h1:dims<=1048576)(Z:∀o∈x.orders,o.load.length=dims.toNat)(hm:∀i∈cZ set,0<=i/\i<(x.orders.length:Int)):
  PC prog 338 [.agg (aC x),int set,int dims] (.sl ((Pf x set dims).map bC)):=by
 have ac:(cZ set).length<=63:=nQ set 63;refine pcb (fun t=>t == 28) func338 rfl rfl ?_;simp only[go_sem];refine⟨⟨⟨h0,Xbp _⟩,by omega⟩,aL fun j hj=>?_⟩;simp only[go_sem];refine aG (mU set) ?_;simp only[go_sem];refine⟨fun ρ H=>∃k:Nat,k<=(cZ set).length/\ρ 3=.rp (aC x) 0/\ρ 13=.sl ((cZ set).map bC)/\ρ 14=int (cZ set).length/\ρ 15=int k/\∃j,ρ 7=.os j/\H j=some (pA (((cZ set).take k).foldl (qR x) (List.replicate dims.toNat 0))),fun ρ _=>(cZ set).length-aR (ρ 15),⟨0,Xaa _,rfl,rfl,rfl,rfl,j,rfl,?_⟩,?_⟩
 ·rw[aB];simp[pA,List.map_replicate,bC]
 rintro ρ H ⟨k,hk,U,O,J,F,j,X,R⟩;simp only[go_sem,J,F];refine aA (fun E=>?_) (fun I=>?_)
 ·have E:=aT E;obtain⟨i,hi⟩:=aK E;have b1:=inB E;have b2:=hm i (Xac hi);obtain⟨o,V⟩:=aK (show i.toNat<x.orders.length by omega);have es:((cZ set).take (k+1)).foldl (qR x) (List.replicate dims.toNat 0)=if decide (o.pick.place<0)=true then yP (((cZ set).take k).foldl (qR x) (List.replicate dims.toNat 0)) o.load else((cZ set).take k).foldl (qR x) (List.replicate dims.toNat 0):=by rw[lH hi,qR,V]
  have Y:=Dd Z ((cZ set).take k);generalize hS:((cZ set).take k).foldl (qR x) (List.replicate dims.toNat 0)=s at *;simp only[go_sem,U,O,F,aD hi,b1,aD V,b2];apply aA <;> intro hb
  ·simp only[go_sem];refine Cf X R fun Hr ab hr=>?_
   simp only[go_sem,U,aD V,b2];refine NC.use (aqS s o.load (by omega) (by rw[Y,Z o (Xac V)])) fun j2 aa=>?_
   simp only[go_sem,U,O,J,F,aQ k];exact⟨⟨k+1,E,rfl,j2,rfl,by rw[es,if_pos hb];exact aB _ _ _⟩,msr E⟩
  ·simp only[go_sem,U,O,J,F,X,aQ k];exact⟨⟨k+1,E,rfl,j,rfl,by rw[es,if_neg (by rw[hb];simp)];exact R⟩,msr E⟩
 ·have I:=aV hk I;subst I;rw[Xad]at R;simp only[go_sem,X];exact .row _ _ _ R (ConvE.refl _)
def Wh(x:Instance)(s:List Int)(v:Visit):List Int:=match x.orders[v.order.toNat]? with
 | some o=>if v.drop=true then Dg s o.load else yP s o.load
 | none=>s
def EM(x:Instance)(l:List Visit)(k:Nat):List Int:=(l.take k).foldl (Wh x) (Pf x (cT l).1 (fT x))
def yC(x:Instance)(l:List Visit)(k:Nat):List (List Int):=(List.range k).map (EM x l)
def MO{x:Instance}{l:List Visit}{k:Nat}{v:Visit}(h:l[k]?=some v):EM x l (k+1)=Wh x (EM x l k) v:=lH h
structure LoadB(x:Instance):Prop where
 dims:0<=fT x/\fT x<=1048576
 load:∀o∈x.orders,o.load.length=(fT x).toNat
 few:x.orders.length<=63
def ahQ{x:Instance}(E:LoadB x){s:List Int}{v:Visit}(h:s.length=(fT x).toNat):(Wh x s v).length=(fT x).toNat:=by
 unfold Wh;split
 ·rename_i o F;have:=E.load o (Xac F);split
  ·unfold Dg;rw[List.length_zipWith,h,this,Nat.min_self]
  ·unfold yP;rw[List.length_zipWith,h,this,Nat.min_self]
 ·exact h
def Ez{x:Instance}(E:LoadB x)(l:List Visit)(k:Nat):(EM x l k).length=(fT x).toNat:=by
 suffices ∀(l:List Visit) (s:List Int),s.length=(fT x).toNat->(l.foldl (Wh x) s).length=(fT x).toNat from this _ _ (Dd E.load _)
 intro l;induction l with
 | nil=>intro s h;exact h
 | cons v r ih=>intro s h;rw[List.foldl_cons];exact ih _ (ahQ E h)
def ajG{s:Nat}{i:Int}(h:i∈cZ (s:Int)):0<=i/\i<=62/\s.testBit i.toNat=true:=by
 unfold cZ qO at h;obtain⟨k,E,rfl⟩:=Xbe.1 h;obtain⟨h1,F⟩:=List.mem_filter.1 E;have I:=Xar.1 h1;refine⟨by omega,by omega,?_⟩
 rwa [jL (by omega) (by omega)]at F
def aeY{x:Instance}{l:List Visit}(h:rO x l=0):∀v∈l,0<=v.order/\v.order<(x.orders.length:Int):=by
 intro v F;by_cases E:((l.length:Int) == 0||l.any fun v=>cK v.order x.orders.length)=true
 ·unfold rO at h;rw[if_pos E]at h;cases h
 ·have E : cK v.order x.orders.length = false := by rw[Xch,Xag]at E;have:=Xbb.1 E.2 v F;simpa using this
  simp only[cK,Xag,decide_eq_false_iff_not]at E;omega
def Co{x:Instance}(J:LoadB x){l:List Visit}(h:∀v∈l,0<=v.order/\v.order<(x.orders.length:Int)):cT l=(((wN l:Nat):Int),0)/\∀i∈cZ (cT l).1,0<=i/\i<(x.orders.length:Int):=by
 have E:∀v∈l,AA v=false:=fun v F=>by have:=h v F;have:=J.few;simp only[AA,Xag,decide_eq_false_iff_not];omega
 have e:cT l=(((wN l:Nat):Int),0):=by unfold cT;rw[if_neg (by rw[qA E];simp),Ca E]
 refine⟨e,fun i hi=>?_⟩;rw[e]at hi;obtain⟨h0,h1,I⟩:=ajG hi;rw[Jq]at I;obtain⟨v,F,O⟩:=Xao.1 I;have:=h v F;have:v.order.toNat=i.toNat:=by simpa using O
 omega
def pB(x:Instance)(l:List Visit):List (List Int)×Int:=if(rO x l != 0)=true then([],rO x l)else(yC x l (l.length+1),0)
def aeP(x:Instance)(r:Route)(J:LoadB x)(hl:r.visits.length<=1048576)(ha:x.apart.length<=1048576)(hb:x.before.length<=1048576):
  PC prog 302 [.agg (aC x),.agg (bT r)] (.tup [.sl ((pB x r.visits).1.map fJ),int (pB x r.visits).2]):=by
 refine pcb (fun t=>t == 35) func302 rfl rfl ?_;simp only[go_sem];refine aG (I3 x r hl ha hb) ?_;simp only[go_sem];apply aA <;> intro hc
 ·simp only[go_sem];have:pB x r.visits=([],rO x r.visits):=by unfold pB;rw[if_pos hc]
  rw[this];exact .refl _
 have e0:pB x r.visits=(yC x r.visits (r.visits.length+1),0):=by unfold pB;rw[if_neg (by rw[hc];simp)]
 have ah:rO x r.visits=0:=by simpa[bne]using hc
 have ac:=aeY ah;obtain⟨eo,hm⟩:=Co J ac;simp only[go_sem];refine aG (Jt r hl) ?_;simp only[go_sem];refine aA (fun af=>by rw[eo]at af;simp at af) (fun _=>?_);simp only[go_sem];refine lQ [(0,true),(1,true),(2,false),(3,false),(4,false),(5,false),(6,false)] (by kernel_rfl) ?_;simp only[go_sem];refine aG (OF x) ?_;simp only[go_sem];refine aG (anU x _ _ J.dims.1 J.dims.2 J.load hm) ?_;simp only[go_sem];refine aL fun j hj=>?_
 simp only[go_sem];refine⟨fun ρ H=>∃k:Nat,k<=r.visits.length/\ρ 2=.rp (aC x) 0/\ρ 37=.sl (r.visits.map aF)/\ρ 38=int r.visits.length/\ρ 39=int k/\ρ 9=.sl ((EM x r.visits k).map bC)/\∃j,ρ 10=.os j/\H j=some (Lc (yC x r.visits (k+1))),fun ρ _=>r.visits.length-aR (ρ 39),⟨0,Xaa _,rfl,rfl,rfl,rfl,rfl,j,rfl,aB _ _ _⟩,?_⟩;rintro ρ H ⟨k,hk,h2,Z,Y,I,h9,j,X,R⟩;simp only[go_sem,Y,I,];refine aA (fun E=>?_) (fun O=>?_)
 ·have E:=aT E;obtain⟨v,hv⟩:=aK E;have b1:=inB E;have ae:=ac v (Xac hv);obtain⟨o,ho⟩:=aK (show v.order.toNat<x.orders.length by omega);have ak:=J.load o (Xac ho);have aj:=Ez J r.visits k;have hd:=J.dims;have hn:=MO (x:=x) hv;unfold Wh at hn;rw[ho]at hn;simp only at hn;simp only[go_sem,Z,I,aD hv,b1];refine aL fun ag aa=>?_
  simp only[go_sem];refine cJ aa (by simp[dJ]) fun U (V:U ag=some (⟨112,2,[aF v]⟩)) N=>?_
  replace R:=(N R).2;simp only[go_sem,V];have ad:yC x r.visits (k+2)=yC x r.visits (k+1)++[EM x r.visits (k+1)]:=by unfold yC;rw[Xbi,Xal];rfl
  have ab:(yC x r.visits (k+1)).length=k+1:=by simp[yC]
  refine aA (fun F=>?_) (fun F=>?_)
  ·simp only[go_sem,h2,h9,V,aD ho,ae];refine aG (NC.pc2 (awK (EM x r.visits k) o.load (by omega) (by omega))) ?_;simp only[go_sem];refine aA (fun hb=>by simp at hb) (fun _=>?_);simp only[go_sem,X];refine aZ R ⟨rfl,rfl⟩ ⟨rfl,trivial⟩ (by simp only[Xab,ab,Xah,List.length_nil];omega) (fun j' ai=>?_);simp only[go_sem,h2,Z,Y,I,aQ k];refine⟨⟨k+1,E,rfl,by rw[hn,if_pos F],j',rfl,?_⟩,msr E⟩;rw[aB,ad,hn,if_pos F];show _=some (⟨89,1,_⟩:Row);rw[Xal];rfl
  ·simp only[go_sem,h2,h9,V,aD ho,ae];refine aG (NC.pc2 (aqS (EM x r.visits k) o.load (by omega) (by omega))) ?_;simp only[go_sem];refine aA (fun hb=>by simp at hb) (fun _=>?_);simp only[go_sem,X];refine aZ R ⟨rfl,rfl⟩ ⟨rfl,trivial⟩ (by simp only[Xab,ab,Xah,List.length_nil];omega) (fun j' ai=>?_);simp only[go_sem,h2,Z,Y,I,aQ k];refine⟨⟨k+1,E,rfl,by rw[hn,if_neg (by rw[F];simp)],j',rfl,?_⟩,msr E⟩;rw[aB,ad,hn,if_neg (by rw[F];simp)];show _=some (⟨89,1,_⟩:Row);rw[Xal];rfl
 ·have O:=aV hk O;subst O;simp only[go_sem,X];rw[e0];exact .tup _ _ (.cons _ _ _ _ (.row _ _ _ R (ConvE.refl _)) (ConvL.refl _))
def amR(x:Instance)(r:Route)(a:List Int)(I:a.length<=1048576)(O:cK r.type x.types.length=false):
  PC prog 304 [.sl (a.map bC),.rp (aC x) 0,.rp (bT r) 0] (boo (!iW a (F9 x r.type))):=by
 have E:0<=r.type/\r.type<(x.types.length:Int):=by simp only[cK,Xag,decide_eq_false_iff_not]at O;omega
 obtain⟨t,F⟩:=aK (show r.type.toNat<x.types.length by omega);have J:F9 x r.type=t.cap:=by unfold F9;rw[F]
 refine pcd func304 rfl rfl ?_;simp only[go_sem];simp only[go_sem,aD F,E];refine aG (aoV a t.cap I) ?_;simp only[go_sem];rw[J];exact .refl _
def zQ(x:Instance)(r:Route):Int:=
 if cK r.type x.types.length=true then 2 else if((pB x r.visits).2 != 0)=true then(pB x r.visits).2
 else if((pB x r.visits).1.any fun l=> !iW l (F9 x r.type))=true then 17 else 0
def VF{x:Instance}(E:LoadB x){l:List Visit}:(pB x l).1.length<=l.length+1/\∀a∈(pB x l).1,a.length=(fT x).toNat:=by
 unfold pB;split
 ·simp
 ·refine⟨by simp[yC],fun a F=>?_⟩;obtain⟨k,_,rfl⟩:=Xbe.1 F;exact Ez E l k
def alU(x:Instance)(r:Route)(E:LoadB x)(hl:r.visits.length<=1048575)(Y:x.apart.length<=1048576)(V:x.before.length<=1048576):
  PC prog 260 [.agg (aC x),.agg (bT r)] (int (zQ x r)):=by
 refine pcd func260 rfl rfl ?_;simp only[go_sem];apply aA <;> intro h1
 ·simp only[go_sem];exact bO (by unfold zQ;rw[if_pos (show cK r.type x.types.length=true from h1)])
 have h1:cK r.type x.types.length=false:=h1;have I:¬cK r.type x.types.length=true:=by rw[h1];simp
 simp only[go_sem];refine aG (aeP x r E (by omega) Y V) ?_;simp only[go_sem];apply aA <;> intro O
 ·simp only[go_sem];exact bO (by unfold zQ;rw[if_neg I,if_pos O])
 have J:¬((pB x r.visits).2 != 0)=true:=by rw[O];simp
 obtain⟨Z,X⟩:=VF E (l:=r.visits);have hd:=E.dims;simp only[go_sem];refine aG (Hg (p:=fun a=> !iW a (F9 x r.type)) (pB x r.visits).1 (by omega) rfl fun a F=>amR x r a (by rw[X a F];omega) h1) ?_;simp only[go_sem];apply aA <;> intro U
 ·simp only[go_sem];exact bO (by unfold zQ;rw[if_neg I,if_neg J,if_pos U])
 ·simp only[go_sem];exact bO (by unfold zQ;rw[if_neg I,if_neg J,if_neg (by rw[U];simp)])
def aqR{H:aH}{a b:ByteArray}(h:a=b):Conv H (.v (.string a)) (.v (.string b)):=h▸.refl _
def akW(n:Nat)(O:n<20):PC prog 316 [int n] (str (lG n)):=by
 refine pcd func316 rfl rfl ?_;simp only[go_sem];apply aA <;> intro F
 ·simp only[go_sem,aQ n];have E:n=0\/n=1\/n=2\/n=3\/n=4\/n=5\/n=6\/n=7\/n=8\/n=9:=by simp at F;omega
  rcases E with rfl|rfl|rfl|rfl|rfl|rfl|rfl|rfl|rfl|rfl <;> exact⟨by decide,aqR (by rw[yY (by omega)];rfl)⟩
 ·have I:10<=n:=by simp at F;omega
  have w1:IntKind.i64.wrap ((n:Int)*2)=((n*2:Nat):Int):=by rw[aW (by omega)];omega
  have J:IntKind.i64.wrap (((n*2:Nat):Int)+2)=((n*2+2:Nat):Int):=by rw[aW (by omega)];omega
  simp only[go_sem,w1,J];have E:n=10\/n=11\/n=12\/n=13\/n=14\/n=15\/n=16\/n=17\/n=18\/n=19:=by omega
  rcases E with rfl|rfl|rfl|rfl|rfl|rfl|rfl|rfl|rfl|rfl <;> exact⟨by decide,aqR (by rw[Cg (by omega),yY (by omega)];rfl)⟩
def Tu(n:Nat)(F:n<20):PC prog 273 [int n,int 10] (str (lG n)):=by refine pcd func273 rfl rfl ?_;simp only[go_sem];refine aA (fun _=>?_) (fun E=>by simp at E);simp only[go_sem];refine aA (fun E=>?_) (fun E=>by simp at E;omega);simp only[go_sem];refine aG (akW n F) ?_;simp only[go_sem];exact .refl _
def anG(n:Nat)(E:n<20):PC prog 234 [int n] (str (lG n)):=by refine pcd func234 rfl rfl ?_;simp only[go_sem];refine aG (Tu n E) ?_;simp only[go_sem];exact .refl _
def UR(n:Nat)(E:n<20):PC prog 194 [int n] (str (lG n)):=by refine pcd func194 rfl rfl ?_;simp only[go_sem];refine aG (anG n E) ?_;simp only[go_sem];exact .refl _
def lY{n:Int}(h: -9223372036854775808<=n/\n<=9223372036854775807):W n=n:=aW h
def Pu(n a b:Int):PC prog 347 [int n,int a,int b] (boo (decide (n>=a)&&decide (n<=b))):=by refine pcd func347 rfl rfl ?_;simp only[go_sem];exact .refl _
structure TravB(l:List Point):Prop where
 len:1<=l.length/\l.length<=16
 pt:∀p∈l,0<=p.t/\p.t<=4096/\p.t<=p.a/\p.a<=p.t+4096
 mono:∀i,i+1<l.length->(eQ l i).t<(eQ l (i+1)).t/\(eQ l i).a<=(eQ l (i+1)).a
def gX{α:Type}{b:Bool}{f:α}(h:opt b f=[]):b=false:=by
 cases b with
 | false=>rfl
 | true=>simp[opt]at h
def ON{l:List Point}(h:jT l=[]):TravB l:=by
 unfold jT at h;rw[Xbr]at h;have h1:=gX h.1;unfold DB at h1;simp only[Xag,decide_eq_false_iff_not]at h1;have F:∀i,i<l.length->iU l i=[]:=fun i hi=>List.flatMap_eq_nil_iff.1 h.2 i (Xar.2 hi)
 have J:∀p∈l,0<=p.t/\p.t<=4096/\p.t<=p.a/\p.a<=p.t+4096:=fun p I=>by obtain⟨i,hi,rfl⟩:=List.getElem_of_mem I;have:=F i hi;unfold iU at this;rw[Xbr]at this;have E:=gX this.1;rw[dX (List.getElem?_eq_getElem hi)]at E;unfold tT at E;simp only[Xag,decide_eq_false_iff_not]at E;have w:=aW (n:=l[i].t+4096) (by omega);omega
 refine⟨by omega,J,fun i hi=>?_⟩;have:=F (i+1) hi;unfold iU at this;rw[Xbr]at this;have E:=gX this.2;unfold Pd at E;have e:i+1-1=i:=rfl;rw[e]at E;simp at E;exact E
def NE{l:List Point}(h:TravB l):∀(i j:Nat),i<j->j<l.length->(eQ l i).t<(eQ l j).t
 | i,0,hij,_=>by omega
 | i,j+1,hij,hj=>by
  have h1:=(h.mono j hj).1;by_cases e:i=j
  ·subst e;exact h1
  ·have:=NE h i j (by omega) (by omega);omega
def ahJ(l:List Point)(h:TravB l):PC prog 371 [.sl (l.map cC)] (.sl []):=by
 have hl:=h.len;refine pcd func371 rfl rfl ?_;simp only[go_sem];refine aA (fun I=>by exfalso;simp only[Xbu,Xat,decide_eq_true_eq]at I;omega) (fun _=>?_);simp only[go_sem];refine⟨fun ρ _=>∃k:Nat,k<=l.length/\ρ 0=.sl (l.map cC)/\ρ 19=.sl (l.map cC)/\ρ 20=int l.length/\ρ 21=int k/\ρ 3=.sl [],fun ρ _=>l.length-aR (ρ 21),⟨0,Xaa _,rfl,rfl,rfl,rfl,rfl⟩,?_⟩;rintro ρ H ⟨k,hk,h0,V,U,F,h3⟩;simp only[go_sem,U,F];refine aA (fun E=>?_) (fun ab=>?_)
 ·have E:=aT E;obtain⟨p,hp⟩:=aK E;have b1:=inB E;have ae:=h.pt p (Xac hp);simp only[go_sem,V,F,aD hp,b1];refine aL fun X aa=>?_
  simp only[go_sem];refine aI (aB _ _ _) (by simp[fX]) ?_;generalize O:aM (aM _ X _) X _=HGi5;have Y:HGi5 X=some (⟨85,2,[cC p]⟩):=by rw[<-O,aB];rfl
  simp only[go_sem];refine aG (UR k (by omega)) ?_;simp only[go_sem,Y];refine aG (Pu _ _ _) ?_;simp only[go_sem,Y];have w:=aW (n:=p.t+4096) (by omega);refine aA (fun I=>by exfalso;rw[w]at I;simp at I;omega) (fun _=>?_);simp only[go_sem];refine gU [X] [(0,false),(1,false),(2,false),(3,true),(4,true),(5,true),(6,false),(7,false),(8,false),(9,false),(10,false),(11,false),(12,false),(13,true),(14,true),(15,true),(16,false),(17,false),(18,false),(19,false),(20,false),(21,false),(22,false),(23,false)] (by simp[Y]) (by kernel_rfl) fun Hp Hr Z hr _ ac=>?_
  have P5:=(Z X (by simp)).trans Y;obtain⟨q,hq⟩:=aK (show k-1<l.length by omega);have J:decide ((k:Int)>0)=true->(0<=IntKind.i64.wrap ((k:Int)-1)/\IntKind.i64.wrap ((k:Int)-1)<(l.length:Int)):=fun hg=>by simp at hg;rw[vH (show k<=4611686018427387904 by omega)];omega
  simp only[go_sem,h0,P5,aiB (show k<=4611686018427387904 by omega),aD hq];refine⟨J,fun hg=>J hg.1,jK fun _ Hm _ _=>?_⟩;simp only[go_sem];have hm:0<k->q.t<p.t/\q.a<=p.a:=fun ad=>by have:=h.mono (k-1) (by omega);rw[show k-1+1=k by omega,dX hp,dX hq]at this;exact this
  apply aA <;> intro I
  ·exfalso;simp only[Xbu,Xai,decide_eq_true_eq]at I;have:=hm (by omega);omega
  simp only[go_sem,h0,V,U,F,h3,aQ k];exact⟨⟨k+1,E,rfl⟩,msr E⟩
 ·simp only[go_sem,h3];exact .refl _
def Pa(l:List Point)(h:TravB l):PC prog 348 [.sl (l.map cC)] (boo true):=by refine pcd func348 rfl rfl ?_;simp only[go_sem];refine aG (ahJ l h) ?_;simp only[go_sem];exact .refl _
def Mh(p:Point)(t:Int):PC prog 373 [.agg (cC p),int t] (int (W (p.t-t))):=by refine pcd func373 rfl rfl ?_;simp only[go_sem];exact .refl _
def bs(l:List Point)(t:Int):Nat:=(l.takeWhile fun p=>decide (p.t<t)).length
def BG(l:List Point)(t:Int):Bool:=decide ((bs l t:Int)<(l.length:Int))&&((eQ l (bs l t)).t-t == 0)
def aeV{α:Type}{p:α->Bool}:∀(l:List α) (i:Nat),i<=l.length->(∀c x,c<i->l[c]?=some x->p x=true)->(∀x,l[i]?=some x->p x=false)->(l.takeWhile p).length=i
 | [],i,hi,_,_=>by simp at hi;simp[hi]
 | a::r,0,_,_,h2=>by have:=h2 a rfl;simp[List.takeWhile,this]
 | a::r,i+1,hi,h1,h2=>by have F:=h1 0 a (by omega) rfl;rw[Xca,if_pos F,Xah,aeV r i (by simpa using hi) (fun c x I E=>h1 (c+1) x (by omega) (by simpa using E)) (fun x E=>h2 x (by simpa using E))]
def avV{l:List Point}{t:Int}{i:Nat}(hi:i<=l.length)(h1:∀c,c<i->(eQ l c).t<t)(F:i<l.length->t<=(eQ l i).t):bs l t=i:=by
 refine aeV l i hi (fun c x I E=>?_) (fun x E=>?_)
 ·have:=h1 c I;rw[dX E]at this;simpa using this
 ·have:=F (List.getElem?_eq_some_iff.1 E).1;rw[dX E]at this;simp;omega
def aaI(l:List Point)(t:Int)(h:TravB l)(ht:0<=t/\t<=1073741824):PC prog 372 [.sl (l.map cC),int t,.v (.func (.func 373) #[] #[])] (.tup [int (bs l t),boo (BG l t)]):=by
 have hl:=h.len;refine pcd func372 rfl rfl ?_;simp only[go_sem];have aa:aE prog 373=true:=by kernel_rfl
 refine⟨fun ρ _=>∃i j:Nat,i<=j/\j<=l.length/\ρ 0=.sl (l.map cC)/\ρ 1=int t/\ρ 2=.v (.func (.func 373) #[] #[])/\ρ 8=int l.length/\ρ 9=int i/\ρ 10=int j/\(∀c,c<i->(eQ l c).t<t)/\(j<l.length->t<=(eQ l j).t),fun ρ _=>aR (ρ 10)-aR (ρ 9),⟨0,l.length,Xaa _,Xaf _,rfl,rfl,rfl,rfl,rfl,rfl,fun c hc=>by omega,fun hc=>by omega⟩,?_⟩;rintro ρ H ⟨i,j,ae,hj,h0,h1,h2,h8,h9,V,hz,hy⟩;simp only[go_sem,h9,V];refine aA (fun F=>?_) (fun U=>?_)
 ·have F:i<j:=by simp at F;omega
  have w1:IntKind.i64.wrap ((i:Int)+(j:Int))=((i+j:Nat):Int):=by rw[aW (by omega)];omega
  have w2:IntKind.u64.wrap ((i+j:Nat):Int)=((i+j:Nat):Int):=FE (by omega);have w3:shV .shr .u64 ((i+j:Nat):Int) 1=(((i+j)/2:Nat):Int):=by show((i+j:Nat):Int).fdiv (2^min (1:Int).toNat 64)=_;rw[Int.fdiv_eq_ediv_of_nonneg _ (by decide)];rfl
  have w4:IntKind.i64.wrap (((i+j)/2:Nat):Int)=(((i+j)/2:Nat):Int):=aW (by omega);have hm:(i+j)/2<l.length:=by omega
  generalize ag:(i+j)/2=m at w3 w4 hm;have af:i<=m/\m<j:=by omega
  obtain⟨p,X⟩:=aK hm;have b1:=inB hm;have ac:=h.pt p (Xac X);have e:W (p.t-t)=p.t-t:=lY (by omega);simp only[go_sem,h0,h1,h2,h9,V,w1,w2,w3,w4,aD X,b1,aa];refine⟨by decide,PC.use (Mh p t) ?_⟩;simp only[go_sem,e];refine gP (fun E _=>∃Y O:Nat,Y<=O/\O<=l.length/\O-Y<j-i/\E 0=.sl (l.map cC)/\E 1=int t/\E 2=.v (.func (.func 373) #[] #[])/\E 8=int l.length/\E 9=int Y/\E 10=int O/\(∀c,c<Y->(eQ l c).t<t)/\(O<l.length->t<=(eQ l O).t)) ?_ fun K hK _ _=>aA (fun hb=>?_) (fun hb=>?_)
  ·rintro E H' ⟨Y,O,a1,a2,a3,c0,c1,c2,c8,c9,ab,cz,cy⟩;exact⟨⟨Y,O,a1,a2,c0,c1,c2,c8,c9,ab,cz,cy⟩,by rw[c9,ab];simp only[aN];omega⟩
  ·have hb:p.t-t<0:=by simpa using hb
   simp only[go_sem,aQ m];refine hK _ _ ⟨m+1,j,by omega,hj,by omega,h0,h1,h2,h8,rfl,V,fun c hc=>?_,hy⟩;have e2:=dX X;by_cases e3:c=m
   ·subst e3;rw[e2];omega
   ·have:=NE h c m (by omega) hm;rw[e2]at this;omega
  ·have hb:¬p.t-t<0:=by simpa using hb
   simp only[go_sem];refine hK _ _ ⟨i,m,by omega,by omega,by omega,h0,h1,h2,h8,h9,rfl,hz,fun _=>?_⟩;rw[dX X];omega
 ·have U:i=j:=by simp at U;omega
  subst U;have Z:bs l t=i:=avV hj hz hy;simp only[go_sem,h0,h1,h2,h8,h9,aa];have I:decide ((i:Int)<(l.length:Int))=true->(l.map cC).getD i []=cC (eQ l i):=fun J=>by
   have F:i<l.length:=by simp at J;omega
   obtain⟨p,X⟩:=aK F;rw[aD X,dX X]
  have ad:decide ((i:Int)<(l.length:Int))=true->0<=(i:Int)/\(i:Int)<(l.length:Int):=fun J=>by simp at J;omega
  refine⟨fun J=>⟨ad J,by rw[I J];rfl⟩,fun J=>by rw[I J];exact Xaf _,int (W ((eQ l i).t-t)),fun J=>by rw[I J,DJ];exact(Mh _ t).q rfl,?_⟩;simp only[go_sem];have e:BG l t=(decide ((i:Int)<(l.length:Int))&&(W ((eQ l i).t-t) == 0)):=by
   unfold BG;rw[Z];by_cases F:i<l.length
   ·have ac:=h.pt _ (Xac (aK F).choose_spec);rw[<-dX (aK F).choose_spec]at ac;rw[lY (by omega)]
   ·have:decide ((i:Int)<(l.length:Int))=false:=by simp;omega
    rw[this];rfl
  rw[Z,e];exact .refl _
def ahT(p q:Point)(t:Int):Int:=W (p.a+IntKind.i64.wrap (Int.tdiv (W (W (W (W (t-p.t)*W (q.a-p.a))+W (q.t-p.t))-1)) (W (q.t-p.t))))
def KO(l:List Point)(t:Int):Int:=
 if BG l t=true then(eQ l (bs l t)).a else if((bs l t:Int) == 0)=true then AE (eQ l 0) t
 else if((bs l t:Int) == (l.length:Int))=true then AE (eQ l (bs l t-1)) t else ahT (eQ l (bs l t-1)) (eQ l (bs l t)) t
def apZ(l:List Point)(t:Int):bs l t<=l.length:=by have:=congrArg List.length (List.takeWhile_append_dropWhile (p:=fun p:Point=>decide (p.t<t)) (l:=l));rw[Xae]at this;unfold bs;omega
def aaK(l:List Point)(t:Int)(h:TravB l)(ht:0<=t/\t<=1073741824):PC prog 349 [.sl (l.map cC),int t] (int (KO l t)):=by
 have hl:=h.len;have hb:=apZ l t;refine pcd func349 rfl rfl ?_;simp only[go_sem];refine aG (aaI l t h ht) ?_;simp only[go_sem];obtain⟨i,hi⟩:∃i,bs l t=i:=⟨_,rfl⟩;have aa:KO l t=if BG l t=true then(eQ l i).a else if((i:Int) == 0)=true then AE (eQ l 0) t else if((i:Int) == (l.length:Int))=true then AE (eQ l (i-1)) t else ahT (eQ l (i-1)) (eQ l i) t:=by unfold KO;rw[hi]
 rw[hi]at hb |-;rw[aa];apply aA <;> intro h1
 ·have ab:i<l.length:=by unfold BG at h1;rw[hi]at h1;simp at h1;omega
  obtain⟨p,J⟩:=aK ab;have b1:=inB ab;simp only[go_sem,aD J,b1];rw[if_pos h1,dX J];exact .refl _
 simp only[go_sem];apply aA <;> intro Z
 ·obtain⟨p,J⟩:=aK (show 0<l.length by omega);simp only[go_sem];refine dR ?_;simp only[go_sem,aD J];rw[if_neg (by rw[h1];simp),if_pos Z,dX J];have b0:(0:Int)<=0/\(0:Int)<(l.length:Int):=by omega
  exact⟨b0,b0,.refl _⟩
 simp only[go_sem];apply aA <;> intro h3
 ·have ac:i≠0:=by simpa using Z
  obtain⟨p,J⟩:=aK (show i-1<l.length by omega);simp only[go_sem];refine dR ?_;have w:IntKind.i64.wrap ((i:Int)-1)=((i-1:Nat):Int):=by rw[aW (by omega)];omega
  have b1:=inB (show i-1<l.length by omega);simp only[go_sem,w,aD J,b1];rw[if_neg (by rw[h1];simp),if_neg (by rw[Z];simp),if_pos h3,dX J];exact .refl _
 have ac:i≠0:=by simpa using Z
 have ag:i≠l.length:=by simp at h3;omega
 obtain⟨p,J⟩:=aK (show i-1<l.length by omega);obtain⟨q,hq⟩:=aK (show i<l.length by omega);have w:IntKind.i64.wrap ((i:Int)-1)=((i-1:Nat):Int):=by rw[aW (by omega)];omega
 have b1:=inB (show i-1<l.length by omega);have b2:=inB (show i<l.length by omega);have V:=(h.mono (i-1) (by omega)).1;rw[show i-1+1=i by omega,dX J,dX hq]at V;have af:=h.pt p (Xac J);have ae:=h.pt q (Xac hq);rw[if_neg (by rw[h1];simp),if_neg (by rw[Z];simp),if_neg (by rw[h3];simp),dX J,dX hq];simp only[go_sem];refine Dq (fun U H'=>U 1=int t/\∃E I,U 7=.op E 0 0/\U 8=.op I 0 0/\H' E=some (⟨85,2,[cC p]⟩:Row)/\H' I=some (⟨85,2,[cC q]⟩:Row)/\E≠I) ?_ fun K hK=>?_
 ·rintro ρ H ⟨h1,E,I,X,Y,R7,R8,F⟩;simp only[go_sem,X,Y,R7,R8];refine gU [E,I] [(0,true),(1,true),(2,true),(3,true),(4,true),(5,true),(6,true),(7,true),(8,true),(9,true),(10,true),(11,true),(12,true),(13,true),(14,true),(15,false),(16,false),(17,false),(18,false)] (by simp[R7,R8]) (by kernel_rfl) fun Hp O J hr _ ah=>?_
  have P7:=(J E (by simp)).trans R7;have P8:=(J I (by simp)).trans R8;simp only[go_sem,h1,X,Y,P7,P8];refine⟨Yb (by omega),jK fun _ Hm _ _=>?_⟩;simp only[go_sem];exact .refl _
 ·refine HE [] (.q 0 (.q 1 (.q 2 (.q 3 (.q 4 (.q 5 (.q 6 (.q 7 (.q 8 (.a2 9 (.a1 10 (.a1 11 (.a1 12 .nil))) 10 (.a1 9 (.a1 11 (.a1 12 .nil))))))))))))) (by simp) (by kernel_rfl) fun Hp O _ ai _ _=>?_
  simp only[go_sem,w,aD J,aD hq,b1,b2];have rP:∀{a b:Nat} {G:aH} {z:List AV} {y:List AV},a≠b->G a=some (⟨85,2,[z]⟩:Row)->aM G b (some (⟨85,2,[y]⟩:Row)) a=some (⟨85,2,[z]⟩:Row):=fun ad hG=>by rw[aJ _ _ _ _ ad];exact hG
  refine yM ?_ ?_
  ·simp only[go_sem];refine aL fun E X=>?_
   simp only[go_sem];refine aL fun I Y=>?_
   have F:=bE (aB _ _ _) Y;have S7:=eY (r':=(⟨85,2,[[int 0,int 0]]⟩:Row)) (aB O E (some (⟨85,2,[[int 0,int 0]]⟩:Row))) Y;have S8:=aB (aM O E (some (⟨85,2,[[int 0,int 0]]⟩:Row))) I (some (⟨85,2,[[int 0,int 0]]⟩:Row));generalize aM (aM O E _) I _=G at S7 S8 |-;simp only[go_sem];refine aI S7 (by simp[fX]) ?_;simp only[go_sem];refine aI (pO S8 F.symm) (by simp[fX]) ?_;simp only[go_sem];refine jK fun _ Hm _ V=>hK _ _ ⟨rfl,E,I,rfl,rfl,?_,?_,F⟩
   ·rw[V E (by simp),aJ _ _ _ _ F,aB]
   ·rw[V I (by simp),aB]
  ·simp only[go_sem];refine aL fun I Y=>?_
   simp only[go_sem];refine aL fun E X=>?_
   have F:=(bE (aB _ _ _) X).symm;have S8:=eY (r':=(⟨85,2,[[int 0,int 0]]⟩:Row)) (aB O I (some (⟨85,2,[[int 0,int 0]]⟩:Row))) X;have S7:=aB (aM O I (some (⟨85,2,[[int 0,int 0]]⟩:Row))) E (some (⟨85,2,[[int 0,int 0]]⟩:Row));generalize aM (aM O I _) E _=G at S7 S8 |-;simp only[go_sem];refine aI S7 (by simp[fX]) ?_;simp only[go_sem];refine aI (pO S8 F.symm) (by simp[fX]) ?_;simp only[go_sem];refine jK fun _ Hm _ V=>hK _ _ ⟨rfl,E,I,rfl,rfl,?_,?_,F⟩
   ·rw[V E (by simp),aJ _ _ _ _ F,aB]
   ·rw[V I (by simp),aB]
def Ya{α:Type}{p:α->Bool}:∀l:List α,(∀c x,c<(l.takeWhile p).length->l[c]?=some x->p x=true)/\(∀x,l[(l.takeWhile p).length]?=some x->p x=false)
 | []=>⟨fun c x h _=>by simp at h,fun x h=>by simp at h⟩
 | a::r=>by
  obtain⟨h1,J⟩:=Ya (p:=p) r;by_cases F:p a=true
  ·rw[Xca,if_pos F];refine⟨fun c x I E=>?_,fun x E=>J x (by simpa using E)⟩;cases c with
   | zero=>simp at E;subst E;exact F
   | succ c=>exact h1 c x (by simpa using I) (by simpa using E)
  ·rw[Xca,if_neg F];refine⟨fun c x I _=>by simp at I,fun x E=>?_⟩;simp at E;subst E;simpa using F
def XG{p:Point}{t:Int}(E:0<=p.t/\p.t<=4096/\p.t<=p.a/\p.a<=p.t+4096)(e:p.t=t):AE p t=p.a:=by unfold AE;subst e;rw[lY (n:=p.t+p.a) (by omega),lY (by omega)];omega
def anD{p q:Point}{t:Int}(F:0<=p.t/\p.t<=4096/\p.t<=p.a/\p.a<=p.t+4096)(I:0<=q.t/\q.t<=4096/\q.t<=q.a/\q.a<=q.t+4096)(E:p.t<q.t)(e:p.t=t):Kh p q t=p.a:=by
 unfold Kh;subst e;rw[Int.sub_self,show W 0=0 from rfl,Int.zero_mul,show W 0=0 from rfl,Int.zero_add,lY (n:=q.t) (by omega),lY (n:=q.t-p.t) (by omega),lY (n:=q.t-p.t-1) (by omega),
  Xbz (by omega),Int.ediv_eq_zero_of_lt (by omega) (by omega)]
 rw[show IntKind.i64.wrap 0=0 from rfl,Int.add_zero,lY (by omega)]
def asV{p q:Point}{t:Int}(V:0<=p.t/\p.t<=4096/\p.t<=p.a/\p.a<=p.t+4096)(X:0<=q.t/\q.t<=4096/\q.t<=q.a/\q.a<=q.t+4096)(O:p.a<=q.a)(h1:p.t<=t)(U:t<q.t):Kh p q t=ahT p q t:=by
 unfold Kh ahT;have J:0<=t-p.t/\t-p.t<=4096:=by omega
 have I:0<=q.a-p.a/\q.a-p.a<=8192:=by omega
 have E:0<=(t-p.t)*(q.a-p.a):=Int.mul_nonneg J.1 I.1;have F:(t-p.t)*(q.a-p.a)<=4096*8192:=Int.mul_le_mul J.2 I.2 I.1 (by omega);rw[lY (n:=t-p.t) (by omega),lY (n:=q.a-p.a) (by omega),lY (n:=(t-p.t)*(q.a-p.a)) (by omega),lY (n:=q.t-p.t) (by omega)];generalize (t-p.t)*(q.a-p.a)=m at E F;rw[lY (n:=m+q.t) (by omega),lY (n:=m+q.t-p.t) (by omega),lY (n:=m+(q.t-p.t)) (by omega),show m+q.t-p.t=m+(q.t-p.t)by omega]
def Wr(l:List Point)(t:Int):Int:=match (List.range (l.length-1)).find? (nK l t)with
 | some k=>Kh (eQ l k) (eQ l (k+1)) t
 | none=>if decide (t>(eQ l 0).t)=true then AE (eQ l (l.length-1)) t else AE (eQ l 0) t
def LS{l:List Point}{t:Int}{k:Nat}(h:(List.range (l.length-1)).find? (nK l t)=some k):Wr l t=Kh (eQ l k) (eQ l (k+1)) t:=by unfold Wr;rw[h]
def Ts{l:List Point}{t:Int}(h:(List.range (l.length-1)).find? (nK l t)=none)(E:t>(eQ l 0).t):Wr l t=AE (eQ l (l.length-1)) t:=by unfold Wr;rw[h];exact if_pos (by simpa using E)
def PH{l:List Point}{t:Int}(h:(List.range (l.length-1)).find? (nK l t)=none)(E:¬t>(eQ l 0).t):Wr l t=AE (eQ l 0) t:=by unfold Wr;rw[h];exact if_neg (by simpa using E)
def asM{l:List Point}{t:Int}{i:Nat}(hi:bs l t=i)(h:i<l.length/\(eQ l i).t=t):KO l t=(eQ l i).a:=by unfold KO BG;rw[hi];exact if_pos (by simp;omega)
def arF{l:List Point}{t:Int}{i:Nat}(hi:bs l t=i)(h:¬(i<l.length/\(eQ l i).t=t)):KO l t=if((i:Int) == 0)=true then AE (eQ l 0) t
 else if((i:Int) == (l.length:Int))=true then AE (eQ l (i-1)) t else ahT (eQ l (i-1)) (eQ l i) t:=by
 unfold KO BG;rw[hi];exact if_neg (by simp;intro E;omega)
def agY{l:List Point}{t:Int}(h:TravB l)(hr:jT l=[])(ht:0<=t/\t<=1073741824):gQ l t=KO l t:=by
 have hl:=h.len;have hb:=apZ l t;obtain⟨ad,af⟩:=Ya (p:=fun p:Point=>decide (p.t<t)) l;have I:∀c,c<bs l t->(eQ l c).t<t:=fun c X=>by obtain⟨x,hx⟩:=aK (show c<l.length by omega);have:=ad c x X hx;rw[dX hx];simpa using this
 have U:bs l t<l.length->t<=(eQ l (bs l t)).t:=fun ag=>by obtain⟨x,hx⟩:=aK ag;have:=af x hx;rw[dX hx];simpa using this
 have Y:∀c,c<l.length->0<=(eQ l c).t/\(eQ l c).t<=4096/\(eQ l c).t<=(eQ l c).a/\(eQ l c).a<=(eQ l c).t+4096:=fun c X=>by obtain⟨x,hx⟩:=aK X;rw[dX hx];exact h.pt x (Xac hx)
 unfold gQ;have ab:tV l t=false:=by unfold tV;rw[hr];simp;omega
 rw[if_neg (by rw[ab];simp)];show Wr l t=KO l t;obtain⟨i,hi⟩:∃i,bs l t=i:=⟨_,rfl⟩;rw[hi]at hb I U;have E:(∀c,c+1<l.length->nK l t c=false)->(List.range (l.length-1)).find? (nK l t)=none:=fun hn=>Ce fun c X=>hn c (by have:=Xar.1 X;omega)
 have J:∀k,k+1<l.length->(∀c,c<k->nK l t c=false)->nK l t k=true->(List.range (l.length-1)).find? (nK l t)=some k:=fun k hk hn hy=>DQ (k:=k) (fun y ac=>by rw[List.take_range]at ac;exact hn y (by have:=Xar.1 ac;omega)) (iA (by omega)) hy
 have F:∀c,c+1<l.length->(eQ l (c+1)).t<=t->nK l t c=false:=fun c _ X=>by unfold nK;simp;omega
 by_cases Z:i<l.length/\(eQ l i).t=t
 ·rw[asM hi Z];obtain⟨O,he⟩:=Z;have aa:∀c,c+1<l.length->c+1<=i->nK l t c=false:=fun c X ai=>F c X (by
   by_cases e:c+1=i
   ·rw[e];omega
   ·have:=I (c+1) (by omega);omega)
  by_cases V:i+1<l.length
  ·have hm:=h.mono i V;rw[LS (J i V (fun c X=>aa c (by omega) (by omega)) (by unfold nK;simp;omega))];exact anD (Y i O) (Y (i+1) V) hm.1 he
  ·have hn:=E fun c X=>aa c X (by omega)
   have ae:i=l.length-1:=by omega
   by_cases h0:i=0
   ·rw[h0]at he O |-;rw[PH hn (by omega)];exact XG (Y 0 O) he
   ·have:=I 0 (by omega);rw[Ts hn this,<-ae];exact XG (Y i O) he
 ·rw[arF hi Z];by_cases h0:i=0
  ·subst h0;have hh:=U (by omega);have ah:(eQ l 0).t≠t:=fun e=>Z ⟨by omega,e⟩
   rw[PH (E fun c X=>by
    have:(eQ l 0).t<=(eQ l c).t:=by
     by_cases e:c=0
     ·rw[e];omega
     ·have:=NE h 0 c (by omega) (by omega);omega
    unfold nK;simp;omega) (by omega),if_pos (by simp)]
  ·rw[if_neg (by simp;omega)];by_cases hn:i=l.length
   ·have:=I 0 (by omega);rw[Ts (E fun c X=>F c X (by have:=I (c+1) (by omega);omega)) this,if_pos (by simp;omega),hn]
   ·have O:i<l.length:=by omega
    have hh:=U O;have ah:(eQ l i).t≠t:=fun e=>Z ⟨O,e⟩
    have aj:=I (i-1) (by omega);have e1:i-1+1=i:=by omega
    rw[LS (J (i-1) (by omega) (fun c X=>F c (by omega) (by have:=I (c+1) (by omega);omega)) (by unfold nK;rw[e1];simp;omega)),if_neg (by simp;omega)];rw[e1];have hm:=h.mono (i-1) (by omega);rw[e1]at hm;exact asV (Y (i-1) (by omega)) (Y i O) hm.2 (by omega) (by omega)
def aaB(l:List Point)(t:Int)(F:jT l=[]):PC prog 315 [.sl (l.map cC),int t] (int (gQ l t)):=by
 have h:=ON F;refine pcd func315 rfl rfl ?_;simp only[go_sem];refine aG (Pu _ _ _) ?_;simp only[go_sem];refine⟨_,fun _=>(Pa l h).q rfl,?_⟩;simp only[go_sem];have E:tV l t=(!(decide (t>=0)&&decide (t<=1073741824))|| !true):=by unfold tV;rw[F,Xap];simp
 rw[<-E];apply aA <;> intro I
 ·simp only[go_sem];exact bO (by unfold gQ;rw[if_pos I])
 have J:0<=t/\t<=1073741824:=by unfold tV at I;simp at I;omega
 simp only[go_sem];refine aG (aaK l t h J) ?_;simp only[go_sem];exact bO (agY h F J).symm
def Sl(n:Network)(i:Int):PC prog 267 [.agg (bD n),int i] (boo (HC n i)):=by refine pcd func267 rfl rfl ?_;simp only[go_sem];exact .refl _
def Rv(a:Arc):List AV:=[int a.src,int a.dst,int a.profile]
def alK(a:Arc):PC prog 314 [.agg (gD a)] (.agg (Rv a)):=by
 refine pcb (fun t=>t == 2) func314 rfl rfl ?_;simp only[go_sem];refine aL fun j E=>?_
 simp only[go_sem];refine aI (aB _ _ _) (by simp) ?_;simp only[go_sem];exact .refl _
structure NetOk(n:Network):Prop where
 arcs:n.arcs.length<=1048576
 travel:∀a∈n.arcs,jT a.travel=[]
 slow:∀a∈n.arcs,a.slow.length<=1048576
def Wo(a:Arc)(t:Int)(ha:jT a.travel=[])(ab:a.slow.length<=1048576):PC prog 269 [.agg (gD a),int t] (int (tS a t)):=by
 refine pcd func269 rfl rfl ?_;simp only[go_sem];refine aG (aaB a.travel t ha) ?_;simp only[go_sem];refine⟨fun ρ _=>∃k:Nat,k<=a.slow.length/\ρ 1=int t/\ρ 13=.sl (a.slow.map cC)/\ρ 14=int a.slow.length/\ρ 5=int ((a.slow.take k).foldl (pJ t) (gQ a.travel t))/\ρ 15=int k,fun ρ _=>a.slow.length-aR (ρ 15),⟨0,Xaa _,rfl,rfl,rfl,rfl,rfl⟩,?_⟩;rintro ρ H ⟨k,hk,h1,I,F,V,E⟩;simp only[go_sem,F,E];refine aA (fun J=>?_) (fun U=>?_)
 ·have J:=aT J;obtain⟨p,hp⟩:=aK J;have b1:=inB J;have hs:(a.slow.take (k+1)).foldl (pJ t) (gQ a.travel t)=pJ t ((a.slow.take k).foldl (pJ t) (gQ a.travel t)) p:=by rw[bA hp,Xbn];rfl
  simp only[go_sem,I,E,aD hp,b1];refine aL fun Z aa=>?_
  simp only[go_sem];refine aI (aB _ _ _) (by simp[fX]) ?_;generalize X:aM (aM _ Z _) Z _=HGi7;have R7:HGi7 Z=some (⟨85,2,[cC p]⟩):=by rw[<-X,aB];rfl
  simp only[go_sem,h1,R7];refine gP (fun O _=>O 1=int t/\O 13=.sl (a.slow.map cC)/\O 14=int a.slow.length/\O 5=int ((a.slow.take (k+1)).foldl (pJ t) (gQ a.travel t))/\O 15=int k) ?_ fun K hK _ _=>aA (fun Y=>?_) (fun Y=>?_)
  ·clear h1 I F V E;rintro ρ H ⟨h1,I,F,V,E⟩;simp only[go_sem,h1,I,F,V,E,aQ k];exact⟨⟨k+1,J,rfl,rfl⟩,msr J⟩
  ·simp only[go_sem,V,R7];refine hK _ _ ⟨h1,I,F,?_,E⟩;simp only[go_sem];rw[hs,pJ,if_pos Y];rfl
  ·simp only[go_sem];refine hK _ _ ⟨h1,I,F,?_,E⟩;simp only[go_sem,V];rw[hs,pJ,if_neg (by rw[Y];simp)]
 ·have U:=aV hk U;subst U;simp only[go_sem,V];rw[Xad];exact .refl _
def amF(n:Network)(p f t:Int)(hl:n.arcs.length<=1048576):PC prog 268 [.agg (bD n),int p,int f,int t] (.tup [.agg (gD ((pX n p f t).getD Ch)),boo (pX n p f t).isSome]):=by
 refine pcd func268 rfl rfl ?_;simp only[go_sem];refine aL fun j8 ap=>?_
 generalize af:aM _ j8 _=HGj8;have R8:HGj8 j8=some (⟨88,6,[gD Ch]⟩):=by rw[<-af,aB];rfl
 simp only[go_sem];refine aL fun J ab=>?_
 have I:j8≠J:=bE R8 ab;simp only[go_sem];refine aI (aB _ _ _) (by simp[]) ?_;generalize Y:aM (aM _ J _) J _=HGj10;replace R8:=kpR Y I I R8;have X:HGj10 J=some (⟨337,3,[[int f,int t,int p]]⟩):=by rw[<-Y,aB];rfl
 simp only[go_sem];refine⟨fun ρ H=>∃k:Nat,k<=n.arcs.length/\ρ 8=.op j8 0 0/\ρ 10=.op J 0 0/\ρ 18=.sl (n.arcs.map gD)/\ρ 19=int n.arcs.length/\ρ 20=int k/\H j8=some (⟨88,6,[gD Ch]⟩:Row)/\H J=some (⟨337,3,[[int f,int t,int p]]⟩:Row)/\∀a∈n.arcs.take k,Jb p f t a=false,fun ρ _=>n.arcs.length-aR (ρ 20),⟨0,Xaa _,rfl,rfl,rfl,rfl,rfl,R8,X,by simp⟩,?_⟩;rintro ρ H ⟨k,hk,h8,aj,ah,ai,ac,R8,X,hz⟩;simp only[go_sem,ai,ac];refine aA (fun V=>?_) (fun aa=>?_)
 ·have V:=aT V;obtain⟨a,ae⟩:=aK V;have b1:=inB V;simp only[go_sem,ah,ac,aD ae,b1];refine aL fun O Z=>?_
  have F:j8≠O:=bE R8 Z;have E:J≠O:=bE X Z;simp only[go_sem];refine aI (aB _ _ _) (by simp[jJ]) ?_;generalize U:aM (aM _ O _) O _=HGi12;replace R8:=kpR U F F R8;replace X:=kpR U E E X;have ad:HGi12 O=some (⟨88,6,[gD a]⟩):=by rw[<-U,aB];rfl
  simp only[go_sem];refine gU [O] [(0,true),(1,true),(2,false),(3,false)] (by simp[ad]) (by kernel_rfl) fun Hp Hr hp hr _ aq=>?_
  have al:=(hp O (by simp)).trans ad;have ag:=(hr J (by simp[E])).trans X;simp only[go_sem,al];refine⟨_,(alK a).q rfl,?_⟩;simp only[go_sem,aj,ag,Rv];refine jK fun _ Hm an ak=>?_
  have M8:Hm j8=some (⟨88,6,[gD Ch]⟩:Row):=by
   have n1:j8∉[O]:=by simp[F]
   rw[ak j8 n1];exact(hr j8 n1).trans R8
  have am:=(an O (by simp)).trans ad;have ao:Hm J=_:=(ak J (by simp[E])).trans ag;simp only[go_sem];have ea:(a.src == f&&(a.dst == t&&(a.profile == p&&true)))=Jb p f t a:=by unfold Jb;rw[Xbm,Bool.and_assoc]
  rw[ea];apply aA <;> intro hb
  ·simp only[go_sem,h8,am];refine aI M8 (by simp[jJ]) ?_;simp only[go_sem,h8,jJ];have:pX n p f t=some a:=DQ hz ae hb;rw[this];exact .refl _
  ·simp only[go_sem,h8,aj,ah,ai,ac,aQ k];exact⟨⟨k+1,V,rfl,M8,ao,aO (p:=fun a=>Jb p f t a=false) ae hb hz⟩,msr V⟩
 ·have aa:=aV hk aa;subst aa;rw[Xad]at hz;simp only[go_sem,h8];refine aI R8 (by simp) ?_;simp only[go_sem,h8];have:pX n p f t=none:=Ce hz;rw[this];exact .refl _
def ajO(n:Network)(p f t time:Int)(U:NetOk n):PC prog 228 [.agg (bD n),int p,int f,int t,int time] (.tup [int (fP n p f t time).1,int (fP n p f t time).2.1,int (fP n p f t time).2.2]):=by
 refine pcd func228 rfl rfl ?_;simp only[go_sem];refine aG (Sl n f) ?_;simp only[go_sem];refine⟨_,fun _=>(Sl n t).q rfl,?_⟩;simp only[go_sem];apply aA <;> intro h1
 ·simp only[go_sem];have:fP n p f t time=(0,0,11):=by unfold fP;rw[if_pos h1]
  rw[this];exact .refl _
 simp only[go_sem];apply aA <;> intro X
 ·simp only[go_sem];have:fP n p f t time=(time,0,0):=by unfold fP;rw[if_neg (by rw[h1];simp),if_pos X]
  rw[this];exact .refl _
 have Z:fP n p f t time=match pX n p f t with|some a=>(tS a time,a.miles,0)|none=>(0,0,12):=by unfold fP;rw[if_neg (by rw[h1];simp),if_neg (by rw[X];simp)];rfl
 rw[Z];simp only[go_sem];refine aG (amF n p f t U.arcs) ?_;simp only[go_sem];refine aL fun F V=>?_
 simp only[go_sem];refine aI (aB _ _ _) (by simp[jJ]) ?_;generalize E:aM (aM _ F _) F _=HGj13;have I:HGj13 F=some (⟨88,6,[gD ((pX n p f t).getD Ch)]⟩):=by rw[<-E,aB];rfl
 simp only[go_sem];cases Y:pX n p f t with
 | none=>refine aA (fun _=>?_) (fun O=>by simp at O);simp only[go_sem];exact .refl _
 | some a=>have J:=List.mem_of_find?_eq_some Y;refine aA (fun O=>by simp at O) (fun _=>?_);rw[Y]at I;simp only[go_sem,Xbo];refine dR ?_;simp only[go_sem,Xbo,I];refine⟨_,(Wo a time (U.travel a J) (U.slow a J)).q rfl,?_⟩;simp only[go_sem,Xbo,I];exact .refl _
def Yi(s:Stop)(a:Int):PC prog 270 [.agg (eN s),int a] (.tup [int (if eV a s.start>s.close then 0 else eV a s.start),int (if eV a s.start>s.close then 14 else 0)]):=by
 refine pcd func270 rfl rfl ?_;simp only[go_sem];apply aA <;> intro E
 ·have E:eV a s.start>s.close:=by simpa using E
  simp only[go_sem];rw[if_pos E,if_pos E];exact .refl _
 ·have E:¬eV a s.start>s.close:=by simpa using E
  simp only[go_sem];rw[if_neg E,if_neg E];exact .refl _
end Go.Proofs.YtpagaknmdfgfkaaGreatDoor.Sq
end
