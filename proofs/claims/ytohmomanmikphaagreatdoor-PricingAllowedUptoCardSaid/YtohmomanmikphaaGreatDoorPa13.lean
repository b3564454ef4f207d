import Derived.Test.YtohmomanmikphaaGreatDoorPa12
set_option linter.unusedSimpArgs false
set_option linter.unusedVariables false
set_option maxRecDepth 100000
namespace Go.Proofs.YtohmomanmikphaaGreatDoor
open Go.Aw Go.Aw.D Go.Proofs Ty
namespace Sq
open Go.Proofs.Tryz(prog)
open Mv (bJ bR aM)
def pP(s i:Int):Bool:=decide (s>=0)&&decide (i>=0)&&decide (i<=62)&&((shV .shr .i64 s (IntKind.u64.wrap i)).tmod 2 == 1)
theorem A4(s i:Int):PC prog 247 [int s,int i] (boo (pP s i)):=by
 refine pcd Tryz.func247 ?_;unfold Tryz.f247;simp only[gdS];simp only[go_sem];refine⟨fun _=>by decide,?_⟩;exact .refl _
def TF(s n:Int):Int:=if pP s n=true then s else IntKind.i64.wrap (s+shV .shl .i64 1 (IntKind.u64.wrap n))
def xW(v:Visit):Bool:=decide (v.order<0)||decide (v.order>62)
def EQ(l:List Visit):Int:=l.foldl (fun s v=>TF s v.order) 0
theorem Hv{l:List Visit}{k:Nat}{v:Visit}(h:l[k]?=some v):EQ (l.take (k+1))=TF (EQ (l.take k)) v.order:=by unfold EQ;rw[bQ h,Xbh];rfl
def cK(l:List Visit):Int×Int:=if l.any xW=true then(0,2)else(EQ l,0)
theorem GD(r:Route)(hr:r.visits.length<=1048576):PC prog 196 [.agg (bT r)] (.tup [int (cK r.visits).1,int (cK r.visits).2]):=by
 refine pcd Tryz.func196 ?_;unfold Tryz.f196;simp only[gdS];simp only[go_sem];refine⟨fun ρ _=>∃k:Nat,k<=r.visits.length/\ρ 1=.rp (bT r) 0/\ρ 5=int k/\ρ 4=int (EQ (r.visits.take k))/\∀v∈r.visits.take k,xW v=false,fun ρ _=>r.visits.length-aV (ρ 5),⟨0,Xab _,rfl,rfl,rfl,by simp⟩,?_⟩;rintro ρ H ⟨k,hk,h1,I,E,Y⟩;simp only[go_sem,h1,I,E];refine aB (fun F=>?_) (fun U=>?_)
 . have F:=aQ F
   obtain⟨v,V⟩:=aN F;have b1:=inB F;simp only[go_sem,h1,I,E,aC V,b1];refine aB (fun X=>?_) (fun X=>?_)
   . simp only[go_sem]
     have:cK r.visits=(0,2):=by unfold cK;rw[if_pos (Xan.2 ⟨v,Xac V,X⟩)]
     rw[this];exact .refl _
   simp only[go_sem,h1,I,E];refine PC.use (A4 _ _) ?_;simp only[go_sem,h1,I,E];refine gA (fun O _=>O 1=.rp (bT r) 0/\O 5=int k/\O 4=int (EQ (r.visits.take (k+1)))) ?_ fun K Z _ _=>aB (fun J=>?_) (fun J=>?_)
   . clear h1 I E
     rintro ρ H ⟨h1,I,E⟩;simp only[go_sem,h1,I,E,aT (show k<=4611686018427387904 by omega)];exact⟨⟨k+1,F,rfl,rfl,aM (p:=fun v=>xW v=false) V X Y⟩,by simp only[aE];omega⟩
   . simp only[go_sem,h1,I,E]
     refine Z _ _ ⟨by simp only[go_sem,h1],by simp only[go_sem,I],?_⟩;simp only[go_sem];rw[Hv V,TF,if_neg (by simpa using J)]
   . simp only[go_sem]
     refine Z _ _ ⟨by simp only[go_sem,h1],by simp only[go_sem,I],?_⟩;simp only[go_sem,E];rw[Hv V,TF,if_pos (by simpa using J)]
 . have U:=aR hk U
   subst U;simp only[go_sem,E];rw[Xag]at Y E |-;have:cK r.visits=(EQ r.visits,0):=by
     unfold cK;rw[if_neg];intro h;obtain⟨v,V,X⟩:=Xan.1 h;rw[Y v V]at X;cases X
   rw[this];exact .refl _
def mV(v u:Visit):Bool:=u.order == v.order&&(u.drop == v.drop&&true)
def nQ{α:Type}(p:α->Bool):List α->Int->Int
 | [],_=> -1
 | x::r,n=>if p x=true then n else nQ p r (n+1)
theorem kW{α:Type}{p:α->Bool}{l:List α}{k:Nat}{x:α}(h:∀y∈l.take k,p y=false)(E:l[k]?=some x)(I:p x=true):∀n,nQ p l n=n+k:=by
 induction l generalizing k with
 | nil=>simp at E
 | cons a r ih=>
   intro n;cases k with
   | zero=>simp at E;subst E;simp only[nQ];rw[if_pos I];simp
   | succ k=>
     have h0:=h a (by simp);simp only[nQ];rw[if_neg (by rw[h0];simp),ih (k:=k) (fun y F=>h y (by simp[F])) (by simpa using E)];omega
theorem jP{α:Type}{p:α->Bool}{l:List α}(h:∀y∈l,p y=false):∀n,nQ p l n= -1:=by
 induction l with
 | nil=>intro n;rfl
 | cons a r ih=>intro n;simp only[nQ];rw[if_neg (by rw[h a (by simp)];simp)];exact ih (fun y E=>h y (by simp[E])) _
def bD(l:List Visit)(v:Visit):Int:=nQ (mV v) l 0
theorem qF(l:List Visit)(v:Visit)(Z:l.length<=1048576):PC prog 250 [.sl (l.map aJ),.agg (aJ v)] (int (bD l v)):=by
 refine pcd Tryz.func250 ?_;unfold Tryz.f250;simp only[gdS];simp only[go_sem];refine⟨fun ρ _=>∃k:Nat,k<=l.length/\ρ 0=.sl (l.map aJ)/\ρ 3=.rp (aJ v) 0/\ρ 5=int k/\∀u∈l.take k,mV v u=false,fun ρ _=>l.length-aV (ρ 5),⟨0,Xab _,rfl,rfl,rfl,by simp⟩,?_⟩;rintro ρ H ⟨k,Y,h0,V,J,I⟩;simp only[go_sem,h0,V,J];refine aB (fun E=>?_) (fun F=>?_)
 . have E:=aQ E
   obtain⟨u,U⟩:=aN E;have X:=inB E;simp only[go_sem];refine cN (by rfl) (by kernel_rfl) ?_;simp only[go_sem,h0,V,J,aC U,X];refine aB (fun O=>?_) (fun O=>?_)
   . simp only[go_sem,J]
     exact bJ (by rw[bD,kW I U O];omega)
   . simp only[go_sem,h0,V,J,aT (show k<=4611686018427387904 by omega)]
     exact⟨⟨k+1,E,rfl,aM (p:=fun u=>mV v u=false) U O I⟩,by simp only[aE];omega⟩
 . have F:=aR Y F
   subst F;rw[Xag]at I;simp only[go_sem];exact bJ (by rw[bD,jP I])
def gJ(l s:List Visit):Bool:=s.all fun v=> !decide (bD l v<0)
theorem Cv(l s:List Visit)(Y:l.length<=1048576)(Z:s.length<=1048576):PC prog 286 [.sl (l.map aJ),.sl (s.map aJ)] (boo (gJ l s)):=by
 refine pcd Tryz.func286 ?_;unfold Tryz.f286;simp only[gdS];simp only[go_sem];refine⟨fun ρ _=>∃k:Nat,k<=s.length/\ρ 0=.sl (l.map aJ)/\ρ 1=.sl (s.map aJ)/\ρ 5=int k/\∀u∈s.take k,decide (bD l u<0)=false,fun ρ _=>s.length-aV (ρ 5),⟨0,Xab _,rfl,rfl,rfl,by simp⟩,?_⟩;rintro ρ H ⟨k,X,h0,h1,J,O⟩;simp only[go_sem,h0,h1,J];refine aB (fun E=>?_) (fun F=>?_)
 . have E:=aQ E
   obtain⟨u,I⟩:=aN E;have V:=inB E;simp only[go_sem,h0,h1,J,aC I,V];refine PC.use (qF l u Y) ?_;simp only[go_sem,h0,h1,J];refine aB (fun U=>?_) (fun U=>?_)
   . simp only[go_sem]
     refine bR ?_;unfold gJ
     symm
     rw[List.all_eq_false];exact⟨u,Xac I,by rw[U];simp⟩
   . simp only[go_sem,h0,h1,J,aT (show k<=4611686018427387904 by omega)]
     exact⟨⟨k+1,E,rfl,aM (p:=fun u=>decide (bD l u<0)=false) I U O⟩,by simp only[aE];omega⟩
 . have F:=aR X F
   subst F;rw[Xag]at O;simp only[go_sem];refine bR ?_;unfold gJ
   symm
   rw[Xaj];intro u I;rw[O u I];rfl
def cG(o:Order)(i:Int):List Visit:=(if(o.pick.place != -1)=true then[⟨i,false⟩]else[])++(if(o.drop.place != -1)=true then[⟨i,true⟩]else[])
theorem Ly(o:Order)(i:Int):(cG o i).length<=2:=by unfold cG;split <;> split <;> simp
theorem GV(x:Instance)(i:Int)(o:Order)(hi:0<=i/\i<(x.orders.length:Int))(I:x.orders[i.toNat]?=some o):
   PC prog 249 [.agg (aD x),int i] (.sl ((cG o i).map aJ)):=by
 have F:0<=i/\i<(x.orders.length:Int):=hi;refine pcb (fun t=>t == 5) Tryz.func249 ?_;unfold Tryz.f249;simp only[gdS];simp only[go_sem];refine aL fun j X=>?_
 simp only[go_sem,aC I,F];refine aB (fun h1=>?_) (fun h1=>?_)
 . simp only[go_sem,aC I,F]
   refine aZ (aA _ _ _) ⟨rfl,rfl⟩ ⟨rfl,trivial⟩ (by simp) (fun V U=>?_);simp only[go_sem,aC I,F];refine aB (fun E=>?_) (fun E=>?_)
   . simp only[go_sem,aC I,F]
     refine aZ (aA _ _ _) ⟨rfl,rfl⟩ ⟨rfl,trivial⟩ (by simp) (fun O J=>?_);simp only[go_sem];have e:cG o i=[⟨i,false⟩,⟨i,true⟩]:=by unfold cG;rw[if_pos h1,if_pos E];rfl
     rw[e];exact .row _ _ _ (aA _ _ _) (ConvE.refl _)
   . simp only[go_sem]
     have e:cG o i=[⟨i,false⟩]:=by unfold cG;rw[if_pos h1,if_neg (by rw[E];simp)];rfl
     rw[e];exact .row _ _ _ (aA _ _ _) (ConvE.refl _)
 . simp only[go_sem,aC I,F]
   refine aB (fun E=>?_) (fun E=>?_)
   . simp only[go_sem,aC I,F]
     refine aZ (aA _ _ _) ⟨rfl,rfl⟩ ⟨rfl,trivial⟩ (by simp) (fun O J=>?_);simp only[go_sem];have e:cG o i=[⟨i,true⟩]:=by unfold cG;rw[if_neg (by rw[h1];simp),if_pos E];rfl
     rw[e];exact .row _ _ _ (aA _ _ _) (ConvE.refl _)
   . simp only[go_sem]
     have e:cG o i=[]:=by unfold cG;rw[if_neg (by rw[h1];simp),if_neg (by rw[E];simp)];rfl
     rw[e];exact .row _ _ _ (aA _ _ _) (ConvE.refl _)
def Bl(x:Instance)(s:Int):Bool:=x.apart.all fun q=> !(pP s q.a&&pP s q.b)
theorem XQ(x:Instance)(s:Int)(hl:x.apart.length<=1048576):PC prog 329 [.agg (aD x),int s] (boo (Bl x s)):=by
 refine pcd Tryz.func329 ?_;unfold Tryz.f329;simp only[gdS];simp only[go_sem];refine⟨fun ρ _=>∃k:Nat,k<=x.apart.length/\ρ 1=int s/\ρ 2=.rp (aD x) 0/\ρ 5=int k/\∀q∈x.apart.take k,(pP s q.a&&pP s q.b)=false,fun ρ _=>x.apart.length-aV (ρ 5),⟨0,Xab _,rfl,rfl,rfl,by simp⟩,?_⟩;rintro ρ H ⟨k,Z,h1,I,J,U⟩;simp only[go_sem,h1,I,J];refine aB (fun E=>?_) (fun F=>?_)
 . have E:=aQ E
   obtain⟨q,O⟩:=aN E;have X:=inB E;simp only[go_sem,h1,I,J,aC O,X];refine⟨by decide,PC.use (A4 s q.a) ?_⟩;simp only[go_sem,h1,I,J,aC O,X];refine⟨fun _=>by decide,_,fun _=>(A4 s q.b).q rfl,?_⟩;simp only[go_sem,h1,I,J];refine aB (fun V=>?_) (fun V=>?_)
   . simp only[go_sem]
     refine bR ?_;unfold Bl
     symm
     rw[List.all_eq_false];exact⟨q,Xac O,by rw[V];simp⟩
   . simp only[go_sem,h1,I,J,aT (show k<=4611686018427387904 by omega)]
     exact⟨⟨k+1,E,rfl,aM (p:=fun q:Pair=>(pP s q.a&&pP s q.b)=false) O V U⟩,by simp only[aE];omega⟩
 . have F:=aR Z F
   subst F;rw[Xag]at U;simp only[go_sem];refine bR ?_;unfold Bl
   symm
   rw[Xaj];intro u Y;rw[U u Y];rfl
def lU(l vs:List Visit)(v:Visit):Bool:=decide (bD vs v<0)|| !gJ l vs||((vs.length:Int) == 2&&decide (bD l (vs.getD 0 ⟨0,false⟩)>bD l (vs.getD 1 ⟨0,false⟩)))
def Bu(x:Instance)(i:Int):List Visit:=match x.orders[i.toNat]? with|some o=>cG o i|none=>[]
def wK(x:Instance)(l:List Visit):Bool:=l.all fun v=> !lU l (Bu x v.order) v
theorem Ta(x:Instance)(l:List Visit)(hl:l.length<=1048576)(hi:∀v∈l,0<=v.order/\v.order<(x.orders.length:Int)):PC prog 328 [.agg (aD x),.sl (l.map aJ)] (boo (wK x l)):=by
 refine pcd Tryz.func328 ?_;unfold Tryz.f328;simp only[gdS];simp only[go_sem];refine⟨fun ρ _=>∃k:Nat,k<=l.length/\ρ 1=.sl (l.map aJ)/\ρ 2=.rp (aD x) 0/\ρ 5=int k/\∀v∈l.take k,lU l (Bu x v.order) v=false,fun ρ _=>l.length-aV (ρ 5),⟨0,Xab _,rfl,rfl,rfl,by simp⟩,?_⟩;rintro ρ H ⟨k,hk,h1,I,J,Z⟩;simp only[go_sem,h1,I,J];refine aB (fun F=>?_) (fun O=>?_)
 . have F:=aQ F
   obtain⟨v,Y⟩:=aN F;have b1:=inB F;have aa:=hi v (Xac Y);obtain⟨o,ho⟩:=aN (show v.order.toNat<x.orders.length by omega);have ev:Bu x v.order=cG o v.order:=by unfold Bu;rw[ho]
   have X:=Ly o v.order;simp only[go_sem];refine xM [(0,true),(1,true),(2,false),(3,false),(4,false),(5,false),(6,false),(7,false)] (by kernel_rfl) ?_;simp only[go_sem,h1,I,J,aC Y,b1];refine PC.use (GV x v.order o aa ho) ?_;simp only[go_sem,h1,I,J];rw[<-ev]at X |-;generalize V:Bu x v.order=vs at X;refine xM [(0,true),(1,true),(2,false),(3,false),(4,false),(5,false),(6,false),(7,false),(8,true),(9,false),(10,false),(11,false),(12,false),(13,false),(14,false),(15,false),(16,false),(17,false),(18,true),(19,true),(20,true),(21,true),(22,true),(23,true),(24,false),(25,false),(26,false),(27,false),(28,false),(29,false),(30,false)] (by kernel_rfl) ?_;simp only[go_sem,h1,I,J,aC Y,b1];refine PC.use (qF vs v (by omega)) ?_;simp only[go_sem,h1,I,J];refine⟨_,fun _=>(Cv l vs hl (by omega)).q rfl,?_⟩;simp only[go_sem,h1,I,J];have U:((vs.length:Int) == 2)=true->∃a b,vs=[a,b]:=fun h=>by
     have h:vs.length=2:=by simp at h;omega
     match vs,h with
     | [a,b],_=>exact⟨a,b,rfl⟩
   refine⟨fun E=>by obtain⟨a,b,rfl⟩:=U E.2;exact⟨by simp,rfl⟩,fun E=>by obtain⟨a,b,rfl⟩:=U E.2;exact Xah _,int (bD l (vs.getD 0 ⟨0,false⟩)),fun E=>by obtain⟨a,b,rfl⟩:=U E.2;exact(qF l a hl).q rfl,?_⟩;simp only[go_sem,h1,I,J];refine⟨fun E=>by obtain⟨a,b,rfl⟩:=U E.2;exact⟨by simp,rfl⟩,fun E=>by obtain⟨a,b,rfl⟩:=U E.2;exact Xah _,int (bD l (vs.getD 1 ⟨0,false⟩)),fun E=>by obtain⟨a,b,rfl⟩:=U E.2;exact(qF l b hl).q rfl,?_⟩;simp only[go_sem,h1,I,J];refine aB (fun hb=>?_) (fun hb=>?_)
   . simp only[go_sem]
     refine bR ?_;unfold wK
     symm
     rw[List.all_eq_false];refine⟨v,Xac Y,?_⟩;rw[V,show lU l vs v=true from hb];simp
   . simp only[go_sem,h1,I,J,aT (show k<=4611686018427387904 by omega)]
     exact⟨⟨k+1,F,rfl,aM (p:=fun v=>lU l (Bu x v.order) v=false) Y (by rw[V];exact hb) Z⟩,by simp only[aE];omega⟩
 . have O:=aR hk O
   subst O;rw[Xag]at Z;simp only[go_sem];refine bR ?_;unfold wK
   symm
   rw[Xaj];intro u hu;rw[Z u hu];rfl
def dB(l:List Visit)(j:Nat):Int:=(l.getD j ⟨0,false⟩).order
theorem fZ{l:List Visit}{j:Nat}{v:Visit}(h:l[j]?=some v):dB l j=v.order:=by simp[dB,List.getD,h]
def uN(l:List Visit)(a b:Int)(j k:Nat):Bool:=dB l j == a&&dB l k == b
def EB(l:List Visit)(a b:Int):Bool:=(List.range l.length).any fun j=>(List.range j).any fun k=>uN l a b j k
def zQ(s:Int)(l:List Visit)(q:Pair):Bool:= !pP s q.b||(pP s q.a&& !EB l q.a q.b)
def tS(x:Instance)(s:Int)(l:List Visit):Bool:=x.before.all (zQ s l)
theorem CP{x:Instance}{s:Int}{l:List Visit}{q:Pair}(E:q∈x.before)(h:zQ s l q=false):tS x s l=false:=by
 unfold tS;rw[List.all_eq_false];exact⟨q,E,by rw[h];simp⟩
theorem RU(x:Instance)(s:Int)(l:List Visit)(hb:x.before.length<=1048576)(hl:l.length<=1048576):PC prog 330 [.agg (aD x),int s,.sl (l.map aJ)] (boo (tS x s l)):=by
 refine pcd Tryz.func330 ?_;unfold Tryz.f330;simp only[gdS];simp only[go_sem];refine⟨fun ρ _=>∃i:Nat,i<=x.before.length/\ρ 1=int s/\ρ 2=.sl (l.map aJ)/\ρ 3=.rp (aD x) 0/\ρ 7=int i/\∀q∈x.before.take i,zQ s l q=true,fun ρ _=>x.before.length-aV (ρ 7),⟨0,Xab _,rfl,rfl,rfl,rfl,by simp⟩,?_⟩;rintro ρ H ⟨i,hi,h1,J,F,I,hz⟩;simp only[go_sem,h1,J,F,I];refine aB (fun V=>?_) (fun ac=>?_)
 . have V:=aQ V
   obtain⟨q,hq⟩:=aN V;have b1:=inB V;have ad:=Xac hq;simp only[go_sem,h1,J,F,I,aC hq,b1];refine⟨by decide,?_⟩;refine⟨by decide,?_⟩;refine PC.use (A4 s q.b) ?_;simp only[go_sem,h1,J,F,I];refine aB (fun hn=>?_) (fun hn=>?_)
   . simp only[go_sem,h1,J,F,I,aT (show i<=4611686018427387904 by omega)]
     have aa:zQ s l q=true:=by unfold zQ;rw[hn];rfl
     exact⟨⟨i+1,V,rfl,aM (p:=fun q=>zQ s l q=true) hq aa hz⟩,by simp only[aE];omega⟩
   simp only[go_sem,h1,J,F,I];refine PC.use (A4 s q.a) ?_;simp only[go_sem,h1,J,F,I];refine aB (fun hm=>?_) (fun hm=>?_)
   . simp only[go_sem]
     refine bR (CP ad ?_).symm;unfold zQ;rw[hn,show pP s q.a=false by simpa using hm];rfl
   simp only[go_sem,h1,J,F,I];refine⟨fun ρ _=>∃j:Nat,j<=l.length/\ρ 1=int s/\ρ 2=.sl (l.map aJ)/\ρ 3=.rp (aD x) 0/\ρ 7=int i/\ρ 8=int q.a/\ρ 9=int q.b/\ρ 10=int j/\∀c∈(List.range l.length).take j,(List.range c).any (fun k=>uN l q.a q.b c k)=false,fun ρ _=>l.length-aV (ρ 10),⟨0,Xab _,by simp only[go_sem,h1],by simp only[go_sem,J],by simp only[go_sem,F],by simp only[go_sem,I],by simp only[go_sem],by simp only[go_sem],by simp only[go_sem];rfl,by simp⟩,?_⟩;clear h1 J F I;rintro ρ H ⟨j,hj,h1,J,F,I,h8,Z,O,hy⟩;simp only[go_sem,h1,J,F,I,h8,Z,O];refine aB (fun E=>?_) (fun Y=>?_)
   . have E:=aQ E
     obtain⟨v,hv⟩:=aN E;have b2:=inB E;simp only[go_sem,h1,J,F,I,h8,Z,O];refine⟨fun ρ _=>∃k:Nat,k<=j/\ρ 1=int s/\ρ 2=.sl (l.map aJ)/\ρ 3=.rp (aD x) 0/\ρ 7=int i/\ρ 8=int q.a/\ρ 9=int q.b/\ρ 10=int j/\ρ 11=int k/\∀c∈(List.range j).take k,uN l q.a q.b j c=false,fun ρ _=>j-aV (ρ 11),⟨0,Xab _,by simp only[go_sem,h1],by simp only[go_sem,J],by simp only[go_sem,F],by simp only[go_sem,I],by simp only[go_sem,h8],by simp only[go_sem,Z],by simp only[go_sem,O],by simp only[go_sem];rfl,by simp⟩,?_⟩;clear h1 J F I h8 Z O;rintro ρ H ⟨k,hk,h1,J,F,I,h8,Z,O,ab,hw⟩;simp only[go_sem,h1,J,F,I,h8,Z,O,ab];refine aB (fun U=>?_) (fun X=>?_)
     . have U:k<j:=by simpa using U
       obtain⟨u,hu⟩:=aN (show k<l.length by omega);have b3:=inB (show k<l.length by omega);simp only[go_sem,h1,J,F,I,h8,Z,O,ab,aC hv,aC hu,b2,b3];have hc:uN l q.a q.b j k=(v.order == q.a&&u.order == q.b):=by unfold uN;rw[fZ hv,fZ hu]
       rw[<-hc];refine aB (fun hb=>?_) (fun hb=>?_)
       . simp only[go_sem]
         refine bR (CP ad ?_).symm;have:EB l q.a q.b=true:=Xan.2 ⟨j,Xam.2 E,Xan.2 ⟨k,Xam.2 U,hb⟩⟩;unfold zQ;rw[hn,this];simp
       . simp only[go_sem,h1,J,F,I,h8,Z,O,ab,aT (show k<=4611686018427387904 by omega)]
         exact⟨⟨k+1,U,rfl,aM (p:=fun c=>uN l q.a q.b j c=false) (gL U) hb hw⟩,by simp only[aE];omega⟩
     . have X:k=j:=by simp at X;omega
       subst X;simp only[go_sem,h1,J,F,I,h8,Z,O,aT (show k<=4611686018427387904 by omega)];refine⟨⟨k+1,E,rfl,aM (p:=fun c=>(List.range c).any (fun k=>uN l q.a q.b c k)=false) (gL E) ?_ hy⟩,by simp only[aE];omega⟩;rw[Xay];intro c hc;rw[hw c (by rw[Xap (by simp)];exact hc)];simp
   . have Y:=aR hj Y
     subst Y;simp only[go_sem,h1,J,F,I,aT (show i<=4611686018427387904 by omega)];have ae:EB l q.a q.b=false:=by
       unfold EB;rw[Xay];intro c hc;rw[hy c (by rw[Xap (by simp)];exact hc)];simp
     have aa:zQ s l q=true:=by unfold zQ;rw[ae,show pP s q.a=true by simpa using hm];simp
     exact⟨⟨i+1,V,rfl,aM (p:=fun q=>zQ s l q=true) hq aa hz⟩,by simp only[aE];omega⟩
 . have ac:=aR hi ac
   subst ac;rw[Xag]at hz;simp only[go_sem];refine bR ?_;unfold tS
   symm
   rw[Xaj];exact hz
def tW(x:Instance)(i:Int):Bool:=match x.orders[i.toNat]? with|some o=>o.off|none=>false
def AX(l:List Visit)(i:Nat):Bool:=bD l (l.getD i ⟨0,false⟩) != (i:Int)
def eI(x:Instance)(l:List Visit):Int:=
 if(l.any fun v=>cC v.order x.orders.length)=true then 2
 else if((cK l).2 != 0||(l.length:Int) == 0)=true then 2
 else if(l.any fun v=>tW x v.order)=true then 9
 else if((List.range l.length).any (AX l))=true then 6
 else if(!wK x l)=true then 19
 else if(!Bl x (cK l).1)=true then 20
 else if(!tS x (cK l).1 l)=true then 21 else 0
theorem pF{α:Type}{p:α->Bool}{l:List α}(h:∀x∈l,p x=false):l.any p=false:=by
 rw[Xay];intro x E;rw[h x E];simp
theorem KA(x:Instance)(r:Route)(hl:r.visits.length<=1048576)(ha:x.apart.length<=1048576)(U:x.before.length<=1048576):
   PC prog 287 [.agg (aD x),.agg (bT r)] (int (eI x r.visits)):=by
 refine pcd Tryz.func287 ?_;unfold Tryz.f287;simp only[gdS];simp only[go_sem];refine⟨fun ρ _=>∃k:Nat,k<=r.visits.length/\ρ 2=.rp (aD x) 0/\ρ 3=.rp (bT r) 0/\ρ 5=.sl (r.visits.map aJ)/\ρ 6=int k/\∀v∈r.visits.take k,cC v.order x.orders.length=false,fun ρ _=>r.visits.length-aV (ρ 6),⟨0,Xab _,rfl,rfl,rfl,rfl,by simp⟩,?_⟩;rintro ρ H ⟨k,hk,F,h3,I,h6,hz⟩;simp only[go_sem,F,h3,I,h6];refine aB (fun E=>?_) (fun J=>?_)
 . have E:=aQ E
   obtain⟨v,V⟩:=aN E;have b1:=inB E;simp only[go_sem];refine cN (by rfl) (by kernel_rfl) ?_;simp only[go_sem,F,h3,I,h6,aC V,b1];refine aB (fun U=>?_) (fun U=>?_)
   . simp only[go_sem]
     exact bJ (by unfold eI;rw[if_pos (Xan.2 ⟨v,Xac V,U⟩)])
   . simp only[go_sem,F,h3,I,h6,aT (show k<=4611686018427387904 by omega)]
     exact⟨⟨k+1,E,rfl,aM (p:=fun v=>cC v.order x.orders.length=false) V (show cC v.order x.orders.length=false from U) hz⟩,by simp only[aE];omega⟩
 have J:=aR hk J;subst J;rw[Xag]at hz;have c1:¬(r.visits.any fun v=>cC v.order x.orders.length)=true:=by rw[pF hz];simp
 have ae:∀v∈r.visits,0<=v.order/\v.order<(x.orders.length:Int):=fun v V=>by
   have:=hz v V;simp only[cC,Xaf,decide_eq_false_iff_not]at this;omega
 simp only[go_sem,F,h3,I,sA];refine PC.use (GD r hl) ?_;simp only[go_sem,F,h3,I];refine aB (fun ab=>?_) (fun ab=>?_)
 . simp only[go_sem]
   exact bJ (by unfold eI;rw[if_neg c1,if_pos ab])
 have c2:¬((cK r.visits).2 != 0||(r.visits.length:Int) == 0)=true:=by rw[ab];simp
 generalize hS:(cK r.visits).1=s;simp only[go_sem,F,h3,I];refine⟨fun ρ _=>∃k:Nat,k<=r.visits.length/\ρ 2=.rp (aD x) 0/\ρ 5=.sl (r.visits.map aJ)/\ρ 7=int s/\ρ 9=int k/\∀v∈r.visits.take k,tW x v.order=false,fun ρ _=>r.visits.length-aV (ρ 9),⟨0,Xab _,by simp only[go_sem,F],by simp only[go_sem,I],by simp only[go_sem],by simp only[go_sem];rfl,by simp⟩,?_⟩;clear F h3 I h6 hk;rintro ρ H ⟨k,hk,F,I,O,h9,ac⟩;simp only[go_sem,F,I,O,h9];refine aB (fun E=>?_) (fun J=>?_)
 . have E:=aQ E
   obtain⟨v,V⟩:=aN E;have b1:=inB E;have af:=ae v (Xac V);obtain⟨o,ho⟩:=aN (show v.order.toNat<x.orders.length by omega);have eo:tW x v.order=o.off:=by unfold tW;rw[ho]
   simp only[go_sem];refine cN (by rfl) (by kernel_rfl) ?_;simp only[go_sem,F,I,O,h9,aC V,b1,aC ho,af];refine aB (fun U=>?_) (fun U=>?_)
   . simp only[go_sem]
     exact bJ (by unfold eI;rw[if_neg c1,if_neg c2,if_pos (Xan.2 ⟨v,Xac V,eo.trans U⟩)])
   . simp only[go_sem,F,I,O,h9,aT (show k<=4611686018427387904 by omega)]
     exact⟨⟨k+1,E,rfl,aM (p:=fun v=>tW x v.order=false) V (eo.trans U) ac⟩,by simp only[aE];omega⟩
 have J:=aR hk J;subst J;rw[Xag]at ac;have c3:¬(r.visits.any fun v=>tW x v.order)=true:=by rw[pF ac];simp
 simp only[go_sem,F,I,O];refine⟨fun ρ _=>∃k:Nat,k<=r.visits.length/\ρ 2=.rp (aD x) 0/\ρ 5=.sl (r.visits.map aJ)/\ρ 7=int s/\ρ 10=int k/\∀c∈(List.range r.visits.length).take k,AX r.visits c=false,fun ρ _=>r.visits.length-aV (ρ 10),⟨0,Xab _,by simp only[go_sem,F],by simp only[go_sem,I],by simp only[go_sem,O],by simp only[go_sem];rfl,by simp⟩,?_⟩;clear F I O h9 hk;rintro ρ H ⟨k,hk,F,I,O,Z,ad⟩;simp only[go_sem,F,I,O,Z];refine aB (fun E=>?_) (fun J=>?_)
 . have E:=aQ E
   obtain⟨v,V⟩:=aN E;have b1:=inB E;have ed:AX r.visits k=(bD r.visits v != (k:Int)):=by simp[AX,List.getD,V]
   simp only[go_sem,F,I,O,Z,aC V,b1];refine PC.use (qF r.visits v hl) ?_;simp only[go_sem,F,I,O,Z];refine aB (fun U=>?_) (fun U=>?_)
   . simp only[go_sem]
     exact bJ (by unfold eI;rw[if_neg c1,if_neg c2,if_neg c3,if_pos (Xan.2 ⟨k,Xam.2 E,ed.trans U⟩)])
   . simp only[go_sem,F,I,O,Z,aT (show k<=4611686018427387904 by omega)]
     exact⟨⟨k+1,E,rfl,aM (p:=fun c=>AX r.visits c=false) (gL E) (ed.trans U) ad⟩,by simp only[aE];omega⟩
 have J:=aR hk J;subst J;have c4:¬((List.range r.visits.length).any (AX r.visits))=true:=by
   rw[pF fun c hc=>ad c (by rw[Xap (by simp)];exact hc)];simp
 simp only[go_sem,F,I,O];refine PC.use (Ta x r.visits hl ae) ?_;simp only[go_sem,F,I,O];refine aB (fun X=>?_) (fun X=>?_)
 . simp only[go_sem]
   exact bJ (by unfold eI;rw[if_neg c1,if_neg c2,if_neg c3,if_neg c4,if_pos X])
 simp only[go_sem,F,I,O];refine PC.use (XQ x s ha) ?_;simp only[go_sem,F,I,O];refine aB (fun Y=>?_) (fun Y=>?_)
 . simp only[go_sem]
   exact bJ (by unfold eI;rw[if_neg c1,if_neg c2,if_neg c3,if_neg c4,if_neg (by rw[X];simp),if_pos (by rw[hS];exact Y)])
 simp only[go_sem,F,I,O];refine PC.use (RU x s r.visits U hl) ?_;simp only[go_sem,F,I,O];refine aB (fun aa=>?_) (fun aa=>?_)
 . simp only[go_sem]
   exact bJ (by unfold eI;rw[if_neg c1,if_neg c2,if_neg c3,if_neg c4,if_neg (by rw[X];simp),if_neg (by rw[hS,Y];simp),if_pos (by rw[hS];exact aa)])
 . simp only[go_sem]
   exact bJ (by unfold eI;rw[if_neg c1,if_neg c2,if_neg c3,if_neg c4,if_neg (by rw[X];simp),if_neg (by rw[hS,Y];simp),if_neg (by rw[hS,aa];simp)])
def iA(a c:List Int):Bool:=((a.length:Int) == (c.length:Int))&&(List.range a.length).all fun i=> !decide (a.getD i 0>c.getD i 0)
theorem acJ(a c:List Int)(hl:a.length<=1048576):PC prog 332 [.sl (a.map bW),.sl (c.map bW)] (boo (iA a c)):=by
 refine pcd Tryz.func332 ?_;unfold Tryz.f332;simp only[gdS];simp only[go_sem];refine aB (fun F=>?_) (fun F=>?_)
 . simp only[go_sem]
   refine bR ?_;have:((a.length:Int) == (c.length:Int))=false:=by simpa using F
   unfold iA;rw[this];rfl
 have Z:a.length=c.length:=by simp at F;omega
 have Y:iA a c=(List.range a.length).all fun i=> !decide (a.getD i 0>c.getD i 0):=by unfold iA;rw[Z];simp
 rw[Y];simp only[go_sem];refine⟨fun ρ _=>∃k:Nat,k<=a.length/\ρ 0=.sl (a.map bW)/\ρ 1=.sl (c.map bW)/\ρ 5=int k/\∀i∈(List.range a.length).take k,decide (a.getD i 0>c.getD i 0)=false,fun ρ _=>a.length-aV (ρ 5),⟨0,Xab _,rfl,rfl,rfl,by simp⟩,?_⟩;rintro ρ H ⟨k,hk,h0,h1,J,O⟩;simp only[go_sem,h0,h1,J];refine aB (fun E=>?_) (fun I=>?_)
 . have E:=aQ E
   obtain⟨u,U⟩:=aN E;obtain⟨v,X⟩:=aN (show k<c.length by omega);have b1:=inB E;have b2:=inB (show k<c.length by omega);have V:decide (a.getD k 0>c.getD k 0)=decide (u>v):=by simp[List.getD,U,X]
   simp only[go_sem];refine cN (by rfl) (by kernel_rfl) ?_;simp only[go_sem,h0,h1,J,aC U,aC X,b1,b2];refine aB (fun F=>?_) (fun F=>?_)
   . simp only[go_sem]
     refine bR ?_
     symm
     rw[List.all_eq_false];exact⟨k,Xam.2 E,by rw[V,F];simp⟩
   . simp only[go_sem,h0,h1,J,aT (show k<=4611686018427387904 by omega)]
     exact⟨⟨k+1,E,rfl,aM (p:=fun i=>decide (a.getD i 0>c.getD i 0)=false) (gL E) (V.trans F) O⟩,by simp only[aE];omega⟩
 . have I:=aR hk I
   subst I;simp only[go_sem];refine bR ?_
   symm
   rw[Xaj];intro i hi;rw[O i (by rw[Xap (by simp)];exact hi)];rfl
def fI(x:Instance):Int:=match x.types[0]? with|some t=>t.cap.length|none=>0
theorem Yr(x:Instance):PC prog 380 [.agg (aD x)] (int (fI x)):=by
 refine pcd Tryz.func380 ?_;unfold Tryz.f380;simp only[gdS];simp only[go_sem];refine aB (fun E=>?_) (fun E=>?_)
 . simp only[go_sem]
   have:x.types=[]:=by cases h:x.types with|nil=>rfl|cons a l=>rw[h]at E;simp at E;omega
   exact bJ (by unfold fI;rw[this];rfl)
 . have F:0<x.types.length:=by simp at E;cases h:x.types with|nil=>exact absurd h E|cons a l=>simp
   obtain⟨t,I⟩:=aN F;simp only[go_sem,aC I];refine⟨⟨by decide,by omega⟩,?_⟩;exact bJ (by unfold fI;rw[I])
def hU(l:List Int):List AV:=[.sl (l.map bW)]
def oH(ll:List (List Int))(d:Int):Bool:= !(decide (d<0)||decide (d>3))&&ll.all fun l=> !((l.length:Int) != d)
theorem acW(ll:List (List Int))(d:Int)(V:ll.length<=1048576):PC prog 267 [.sl (ll.map hU),int d] (boo (oH ll d)):=by
 refine pcd Tryz.func267 ?_;unfold Tryz.f267;simp only[gdS];simp only[go_sem];refine aB (fun F=>?_) (fun F=>?_)
 . simp only[go_sem]
   exact bR (by unfold oH;rw[F];rfl)
 have X:oH ll d=ll.all fun l=> !((l.length:Int) != d):=by unfold oH;rw[F];rfl
 rw[X];simp only[go_sem];refine⟨fun ρ _=>∃k:Nat,k<=ll.length/\ρ 0=.sl (ll.map hU)/\ρ 1=int d/\ρ 5=int k/\∀l∈ll.take k,((l.length:Int) != d)=false,fun ρ _=>ll.length-aV (ρ 5),⟨0,Xab _,rfl,rfl,rfl,by simp⟩,?_⟩;rintro ρ H ⟨k,Z,h0,h1,O,J⟩;simp only[go_sem,h0,h1,O];refine aB (fun E=>?_) (fun I=>?_)
 . have E:=aQ E
   obtain⟨u,U⟩:=aN E;have Y:=inB E;simp only[go_sem,h0,h1,O,aC U,Y,hU];refine aB (fun F=>?_) (fun F=>?_)
   . simp only[go_sem]
     refine bR ?_
     symm
     rw[List.all_eq_false];exact⟨u,Xac U,by rw[F];simp⟩
   . simp only[go_sem,h0,h1,O,aT (show k<=4611686018427387904 by omega)]
     exact⟨⟨k+1,E,rfl,aM (p:=fun l:List Int=>((l.length:Int) != d)=false) U F J⟩,by simp only[aE];omega⟩
 . have I:=aR Z I
   subst I;rw[Xag]at J;simp only[go_sem];refine bR ?_
   symm
   rw[Xaj];intro l V;rw[J l V];rfl
def uF(ll:List (List Int))(i:Nat):Int:=ll.foldl (fun s l=>IntKind.i64.wrap (s+l.getD i 0)) 0
theorem Sz{ll:List (List Int)}{k i:Nat}{l:List Int}(h:ll[k]?=some l):uF (ll.take (k+1)) i=IntKind.i64.wrap (uF (ll.take k) i+l.getD i 0):=by unfold uF;rw[bQ h,Xbh];rfl
def Hz(ll:List (List Int))(d:Int):List Int×Int:=if oH ll d=true then((List.range d.toNat).map (uF ll),0)else([],2)
theorem KT{ll:List (List Int)}{d:Int}(h:oH ll d=true):0<=d/\d<=3/\∀l∈ll,(l.length:Int)=d:=by
 simp only[oH,Xak,Xbb,Xaf,decide_eq_false_iff_not,Xaj]at h;refine⟨by omega,by omega,fun l E=>?_⟩;have:=h.2 l E;simpa using this
theorem alH(H0:aK)(K:AV->aK->Prop)(V:Nat)(ll:List (List Int))(d:Int)(hl:ll.length<=1048576)(X:H0 V=some (⟨86,1,ll.map hU⟩:Row))
   (hK:oH ll d=false->K (.tup [.sl [],int 2]) H0)
   (ac:oH ll d=true->∀j H,H j=some (⟨3,1,((List.range d.toNat).map (uF ll)).map bW⟩:Row)->K (.tup [.os j,int 0]) H):
   bF prog 231 [.os V,int d] H0 K:=by
 refine bF.body (c:=Tryz.f231.body.getD .skip) (fun t=>t == 6) mixed Tryz.func231 rfl (by kernel_rfl) ?_;unfold Tryz.f231;simp only[gdS];simp only[go_sem];refine dP.use ⟨[.sl (ll.map hU),int d],.cons _ _ _ _ (.row _ _ _ X (ConvE.refl _)) (ConvL.refl _),acW ll d hl,rfl⟩ ?_;simp only[go_sem];refine aB (fun hb=>?_) (fun hb=>?_)
 . simp only[go_sem]
   exact hK (by simpa using hb)
 have ab:oH ll d=true:=by simpa using hb
 obtain⟨d0,d3,hd⟩:=KT ab;simp only[go_sem];refine aL fun j U=>?_
 have F:V≠j:=aP X U;simp only[go_sem];refine⟨fun ρ H=>∃i:Nat,i<=d.toNat/\ρ 0=.os V/\ρ 1=int d/\ρ 7=int i/\H V=some (⟨86,1,ll.map hU⟩:Row)/\∃j,V≠j/\ρ 6=.os j/\H j=some (⟨3,1,((List.range i).map (uF ll)).map bW⟩:Row),fun ρ _=>d.toNat-aV (ρ 7),⟨0,Xab _,rfl,rfl,rfl,by rw[aF _ _ _ _ F];exact X,j,F,rfl,aA _ _ _⟩,?_⟩;clear U F;rintro ρ H ⟨i,hi,h0,h1,J,R,j,F,O,U⟩;simp only[go_sem,h0,h1,J,O];refine aB (fun Y=>?_) (fun Z=>?_)
 . have Y:i<d.toNat:=by simp at Y;omega
   simp only[go_sem,h0,h1,J,O];refine⟨fun ρ H=>∃k:Nat,k<=ll.length/\ρ 0=.os V/\ρ 1=int d/\ρ 6=.os j/\ρ 7=int i/\ρ 8=int (uF (ll.take k) i)/\ρ 9=int k/\H V=some (⟨86,1,ll.map hU⟩:Row)/\H j=some (⟨3,1,((List.range i).map (uF ll)).map bW⟩:Row),fun ρ _=>ll.length-aV (ρ 9),⟨0,Xab _,by simp only[go_sem,h0],by simp only[go_sem,h1],by simp only[go_sem,O],by simp only[go_sem,J],by simp only[go_sem];rfl,by simp only[go_sem];rfl,R,U⟩,?_⟩;clear h0 h1 J O U R;rintro ρ H ⟨k,hk,h0,h1,O,J,h8,h9,R,U⟩;simp only[go_sem,h0,h1,O,J,h8,h9,R];refine aB (fun E=>?_) (fun I=>?_)
   . have E:k<ll.length:=by simpa using E
     obtain⟨u,hu⟩:=aN E;have b1:=inB E;have ae:=hd u (Xac hu);obtain⟨v,hv⟩:=aN (show i<u.length by omega);have b2:=inB (show i<u.length by omega);have ad:u.getD i 0=v:=by simp[List.getD,hv]
     simp only[go_sem,h0,h1,O,J,h8,h9,R,aC hu,b1,hU,aC hv,b2,aT (show k<=4611686018427387904 by omega)];refine⟨E,⟨k+1,E,by rw[Sz hu,ad],rfl,U⟩,by simp only[aE];omega⟩
   . have I:k=ll.length:=by simp at I;omega
     subst I;rw[Xag]at h8;simp only[go_sem,h0,h1,O,J,h8];refine aZ U ⟨rfl,rfl⟩ ⟨rfl,trivial⟩ (by simp only[Xaa,Xaz,Xad,List.length_nil];omega) (fun j' aa=>?_);simp only[go_sem,h0,h1,J,aT (show i<=4611686018427387904 by omega)];refine⟨⟨i+1,Y,rfl,dF R F.symm aa,j',aP R aa,rfl,?_⟩,by simp only[aE];omega⟩;rw[Xbg,Xar,Xar];exact aA _ _ _
 . have Z:i=d.toNat:=by simp at Z;omega
   subst Z;simp only[go_sem,O];exact ac ab j H U
end Sq
namespace Sq
open Go.Proofs.Tryz(prog)
open Mv (bJ bR aM)
open Mv (bJ bR aM)
def onS(i n:Int)(s:Bool×Bool)(kv:Nat×Visit):Bool×Bool:=
 if(kv.2.order != i)=true then s else(if decide ((kv.1:Int)<n)=true then !kv.2.drop else s.1,true)
def anO(l:List Visit)(i n:Int)(b:Bool):Bool×Bool:=((List.range l.length).map fun k=>(k,l.getD k ⟨0,false⟩)).foldl (onS i n) (b,false)
def Cd(l:List Visit)(i n:Int)(b:Bool)(k:Nat):Bool×Bool:=((List.range k).map fun k=>(k,l.getD k ⟨0,false⟩)).foldl (onS i n) (b,false)
theorem Kn{l:List Visit}{i n:Int}{b:Bool}{k:Nat}{v:Visit}(h:l[k]?=some v):Cd l i n b (k+1)=onS i n (Cd l i n b k) (k,v):=by
 unfold Cd;rw[Xbg,Xar,Xbh];simp[List.getD,h]
def onB(l:List Visit)(n:Int)(i:Nat)(o:Order):Bool:=(anO l i n (decide (o.pick.place<0))).1&&(anO l i n (decide (o.pick.place<0))).2
def jE(os:List Order)(l:List Visit)(n:Int)(k:Nat):List (List Int):=(List.range k).flatMap fun i=>match os[i]? with|some o=>if onB l n i o=true then[o.load]else[]|none=>[]
theorem yO{os:List Order}{l:List Visit}{n:Int}{k:Nat}{o:Order}(h:os[k]?=some o):jE os l n (k+1)=jE os l n k++(if onB l n k o=true then[o.load]else[]):=by
 unfold jE;rw[Xbg,Xbu];simp[h]
theorem Ew(os:List Order)(l:List Visit)(n:Int)(k:Nat):(jE os l n k).length<=k:=by
 induction k with
 | zero=>simp[jE]
 | succ k ih=>
   have:(jE os l n (k+1)).length<=(jE os l n k).length+1:=by
     unfold jE;rw[Xbg,Xbu,Xae];simp only[List.flatMap_cons,List.flatMap_nil,Xai];split
     . split <;> simp
     . simp
   omega
def mA(x:Instance)(l:List Visit)(n:Int):List Int×Int:=Hz (jE x.orders l n x.orders.length) (fI x)
abbrev JS(ll:List (List Int)):Row:=⟨86,1,ll.map hU⟩
theorem WE(x:Instance)(l:List Visit)(n:Int)(ho:x.orders.length<=1048576)(hl:l.length<=1048576):
   PC prog 362 [.agg (aD x),.sl (l.map aJ),int n] (.tup [.sl ((mA x l n).1.map bW),int (mA x l n).2]):=by
 refine pcb (fun t=>t == 8) Tryz.func362 ?_;unfold Tryz.f362;simp only[gdS];simp only[go_sem];refine aL fun j Z=>?_
 simp only[go_sem];refine⟨fun ρ H=>∃i:Nat,i<=x.orders.length/\ρ 1=.sl (l.map aJ)/\ρ 2=int n/\ρ 3=.rp (aD x) 0/\ρ 9=int i/\∃j,ρ 8=.os j/\H j=some (JS (jE x.orders l n i)),fun ρ _=>x.orders.length-aV (ρ 9),⟨0,Xab _,rfl,rfl,rfl,rfl,j,rfl,aA _ _ _⟩,?_⟩;clear Z;rintro ρ H ⟨i,hi,h1,U,F,O,j,J,Z⟩;simp only[go_sem,h1,U,F,O,J];refine aB (fun ab=>?_) (fun af=>?_)
 . have ab:=aQ ab
   obtain⟨o,ad⟩:=aN ab;have b1:=inB ab;simp only[go_sem,h1,U,F,O,J,aC ad,b1];refine⟨fun ρ H=>∃k:Nat,k<=l.length/\ρ 1=.sl (l.map aJ)/\ρ 2=int n/\ρ 3=.rp (aD x) 0/\ρ 8=.os j/\ρ 9=int i/\ρ 10=boo (Cd l i n (decide (o.pick.place<0)) k).1/\ρ 11=boo (Cd l i n (decide (o.pick.place<0)) k).2/\ρ 12=int k/\H j=some (JS (jE x.orders l n i)),fun ρ _=>l.length-aV (ρ 12),⟨0,Xab _,by simp only[go_sem,h1],by simp only[go_sem,U],by simp only[go_sem,F],by simp only[go_sem,J],by simp only[go_sem,O],by simp only[go_sem];rfl,by simp only[go_sem];rfl,by simp only[go_sem];rfl,Z⟩,?_⟩;clear h1 U F O J Z;rintro ρ H ⟨k,hk,h1,U,F,J,O,I,X,V,Z⟩;simp only[go_sem,h1,U,F,J,O,I,X,V];refine aB (fun Y=>?_) (fun ac=>?_)
   . have Y:=aQ Y
     obtain⟨v,hv⟩:=aN Y;have b2:=inB Y;have aa:=Kn (i:=i) (n:=n) (b:=decide (o.pick.place<0)) hv;simp only[go_sem,h1,U,F,J,O,I,X,V,aC hv,b2];refine aB (fun hb=>?_) (fun hb=>?_)
     . simp only[go_sem,h1,U,F,J,O,I,X,V,aT (show k<=4611686018427387904 by omega)]
       have e:Cd l i n (decide (o.pick.place<0)) (k+1)=Cd l i n (decide (o.pick.place<0)) k:=by rw[aa];unfold onS;rw[if_pos hb]
       exact⟨⟨k+1,Y,by rw[e],by rw[e],rfl,Z⟩,by simp only[aE];omega⟩
     . simp only[go_sem,h1,U,F,J,O,I,X,V,aC hv,b2]
       have e:Cd l i n (decide (o.pick.place<0)) (k+1)=(if decide ((k:Int)<n)=true then !v.drop else(Cd l i n (decide (o.pick.place<0)) k).1,true):=by rw[aa];unfold onS;rw[if_neg (by rw[hb];simp)]
       refine gA (fun E H'=>E 1=.sl (l.map aJ)/\E 2=int n/\E 3=.rp (aD x) 0/\E 8=.os j/\E 9=int i/\E 10=boo (Cd l i n (decide (o.pick.place<0)) (k+1)).1/\E 11=boo (Cd l i n (decide (o.pick.place<0)) (k+1)).2/\E 12=int k/\H' j=some (JS (jE x.orders l n i))) ?_ fun K hK _ _=>aB (fun ae=>?_) (fun ae=>?_)
       . clear h1 U F J O I X V Z
         rintro ρ H ⟨h1,U,F,J,O,I,X,V,Z⟩;simp only[go_sem,h1,U,F,J,O,I,X,V,aT (show k<=4611686018427387904 by omega)];exact⟨⟨k+1,Y,rfl,rfl,rfl,Z⟩,by simp only[aE];omega⟩
       . simp only[go_sem,h1,U,F,J,O,I,X,V,aC hv,b2]
         refine hK _ _ ⟨by simp only[go_sem,h1],by simp only[go_sem,U],by simp only[go_sem,F],by simp only[go_sem,J],by simp only[go_sem,O],?_,?_,by simp only[go_sem,V],Z⟩
         . simp only[go_sem];rw[e,if_pos ae]
         . simp only[go_sem];rw[e]
       . simp only[go_sem]
         refine hK _ _ ⟨by simp only[go_sem,h1],by simp only[go_sem,U],by simp only[go_sem,F],by simp only[go_sem,J],by simp only[go_sem,O],?_,?_,by simp only[go_sem,V],Z⟩
         . simp only[go_sem,I];rw[e,if_neg (by rw[ae];simp)]
         . simp only[go_sem];rw[e]
   . have ac:=aR hk ac
     subst ac;have ai:onB l n i o=((Cd l i n (decide (o.pick.place<0)) l.length).1&&(Cd l i n (decide (o.pick.place<0)) l.length).2):=rfl;have ah:=Ew x.orders l n i;simp only[go_sem,h1,U,F,J,O,I,X];rw[<-ai];refine gA (fun E H'=>E 1=.sl (l.map aJ)/\E 2=int n/\E 3=.rp (aD x) 0/\E 9=int i/\∃j,E 8=.os j/\H' j=some (JS (jE x.orders l n (i+1)))) ?_ fun K hK _ _=>aB (fun hb=>?_) (fun hb=>?_)
     . clear h1 U F J O I X Z
       rintro ρ H ⟨h1,U,F,O,j,J,Z⟩;simp only[go_sem,h1,U,F,O,J,aT (show i<=4611686018427387904 by omega)];exact⟨⟨i+1,ab,rfl,j,rfl,Z⟩,by simp only[aE];omega⟩
     . simp only[go_sem,h1,U,F,J,O,aC ad,b1]
       refine aZ Z ⟨rfl,rfl⟩ ⟨rfl,trivial⟩ (by simp only[Xaa,Xad,List.length_nil];omega) (fun j' ag=>?_);simp only[go_sem];refine hK _ _ ⟨by simp only[go_sem,h1],by simp only[go_sem,U],by simp only[go_sem,F],by simp only[go_sem,O],j',by simp only[go_sem],?_⟩;rw[yO ad,if_pos hb,aA];simp[hU]
     . simp only[go_sem]
       refine hK _ _ ⟨by simp only[go_sem,h1],by simp only[go_sem,U],by simp only[go_sem,F],by simp only[go_sem,O],j,by simp only[go_sem,J],?_⟩;rw[yO ad,if_neg (by rw[hb];simp),Xai];exact Z
 . have af:=aR hi af
   subst af;have ah:=Ew x.orders l n x.orders.length;simp only[go_sem,F,J];refine PC.use (Yr x) ?_;simp only[go_sem,F,J];refine alH H _ j (jE x.orders l n x.orders.length) (fI x) (by omega) Z (fun he=>?_) (fun he j' H' ag=>?_)
   . simp only[go_sem]
     have:mA x l n=([],2):=by unfold mA Hz;rw[if_neg (by rw[he];simp)]
     rw[this];exact .refl _
   . simp only[go_sem]
     have:mA x l n=((List.range (fI x).toNat).map (uF (jE x.orders l n x.orders.length)),0):=by unfold mA Hz;rw[if_pos he]
     rw[this];exact .tup _ _ (.cons _ _ _ _ (.row _ _ _ ag (ConvE.refl _)) (ConvL.refl _))
def xX:List Int->Int
 | []=>0
 | e::r=>if(e != 0)=true then e else xX r
theorem QH{l:List Int}{k:Nat}{e:Int}(h:∀e∈l.take k,(e != 0)=false)(E:l[k]?=some e)(I:(e != 0)=true):xX l=e:=by
 induction l generalizing k with
 | nil=>simp at E
 | cons a r ih=>
   cases k with
   | zero=>simp at E;subst E;simp only[xX];rw[if_pos I]
   | succ k=>
     have h0:=h a (by simp);simp only[xX];rw[if_neg (by rw[h0];simp)];exact ih (k:=k) (fun e F=>h e (by simp[F])) (by simpa using E)
theorem EM{l:List Int}(h:∀e∈l,(e != 0)=false):xX l=0:=by
 induction l with
 | nil=>rfl
 | cons a r ih=>simp only[xX];rw[if_neg (by rw[h a (by simp)];simp)];exact ih fun e E=>h e (by simp[E])
def GJ(x:Instance)(l:List Visit)(k:Nat):List (List Int):=(List.range k).map fun n:Nat=>(mA x l n).1
def K3(x:Instance)(l:List Visit):List Int:=(List.range (l.length+1)).map fun n:Nat=>(mA x l n).2
theorem Pq{x:Instance}{l:List Visit}{k:Nat}(h:k<=l.length):(K3 x l)[k]?=some (mA x l k).2:=by
 have:k<l.length+1:=by omega
 simp[K3,this]
def jG(x:Instance)(l:List Visit):List (List Int)×Int:=
 if(eI x l != 0)=true then([],eI x l)else if(xX (K3 x l) != 0)=true then([],xX (K3 x l))else(GJ x l (l.length+1),0)
theorem WP(x:Instance)(r:Route)(ho:x.orders.length<=1048576)(hl:r.visits.length<=1048576)(ha:x.apart.length<=1048576)(hb:x.before.length<=1048576):
   PC prog 331 [.agg (aD x),.agg (bT r)] (.tup [.sl ((jG x r.visits).1.map hU),int (jG x r.visits).2]):=by
 refine pcb (fun t=>t == 7) Tryz.func331 ?_;unfold Tryz.f331;simp only[gdS];simp only[go_sem];refine PC.use (KA x r hl ha hb) ?_;simp only[go_sem];refine aB (fun Y=>?_) (fun Y=>?_)
 . simp only[go_sem]
   have:jG x r.visits=([],eI x r.visits):=by unfold jG;rw[if_pos Y]
   rw[this];exact .refl _
 simp only[go_sem];refine aL fun j Z=>?_
 simp only[go_sem];refine⟨fun ρ H=>∃k:Nat,k<=r.visits.length+1/\ρ 2=.rp (aD x) 0/\ρ 3=.rp (bT r) 0/\ρ 8=int k/\(∀e∈(K3 x r.visits).take k,(e != 0)=false)/\∃j,ρ 7=.os j/\H j=some (JS (GJ x r.visits k)),fun ρ _=>r.visits.length+1-aV (ρ 8),⟨0,Xab _,rfl,rfl,rfl,by simp,j,rfl,aA _ _ _⟩,?_⟩;clear Z;rintro ρ H ⟨k,hk,I,J,U,V,j,O,Z⟩;simp only[go_sem,I,J,U,O];refine aB (fun E=>?_) (fun F=>?_)
 . have E:k<=r.visits.length:=by simp at E;omega
   simp only[go_sem,I,J,U,O];refine PC.use (WE x r.visits k ho hl) ?_;simp only[go_sem,I,J,U,O];refine aB (fun X=>?_) (fun X=>?_)
   . simp only[go_sem]
     have e:=QH V (Pq E) X;have:jG x r.visits=([],(mA x r.visits k).2):=by
       unfold jG;rw[if_neg (by rw[Y];simp),e,if_pos X]
     rw[this];exact .refl _
   . simp only[go_sem,I,J,U,O]
     refine aZ Z ⟨rfl,rfl⟩ ⟨rfl,trivial⟩ (by simp only[GJ,Xaa,Xaz,Xad,List.length_nil];omega) (fun j' aa=>?_);simp only[go_sem,I,J,U,aT (show k<=4611686018427387904 by omega)];refine⟨⟨k+1,by omega,rfl,?_,j',rfl,?_⟩,by simp only[aE];omega⟩
     . exact aM (p:=fun e:Int=>(e != 0)=false) (Pq E) X V
     . have:GJ x r.visits (k+1)=GJ x r.visits k++[(mA x r.visits k).1]:=by unfold GJ;rw[Xbg,Xar];rfl
       rw[this];show _=some (⟨86,1,(GJ x r.visits k++[(mA x r.visits k).1]).map hU⟩:Row);rw[Xar];exact aA _ _ _
 . have F:k=r.visits.length+1:=by simp at F;omega
   subst F;simp only[go_sem,O];have e:=EM (l:=K3 x r.visits) (by rw[Xap (by simp[K3])]at V;exact V);have:jG x r.visits=(GJ x r.visits (r.visits.length+1),0):=by
     unfold jG;rw[if_neg (by rw[Y];simp),e];rfl
   rw[this];exact .tup _ _ (.cons _ _ _ _ (.row _ _ _ Z (ConvE.refl _)) (ConvL.refl _))
def ES(x:Instance)(t:Int):List Int:=match x.types[t.toNat]? with|some t=>t.cap|none=>[]
def xJ(x:Instance)(r:Route):Int:=
 if cC r.type x.types.length=true then 2 else if((jG x r.visits).2 != 0)=true then(jG x r.visits).2
 else if((jG x r.visits).1.any fun l=> !iA l (ES x r.type))=true then 17 else 0
theorem aiR{ll:List (List Int)}{d:Int}:(Hz ll d).1.length<=3:=by
 unfold Hz;by_cases h:oH ll d=true
 . rw[if_pos h]
   have:=KT h;simp;omega
 . rw[if_neg h];simp
theorem VW{x:Instance}{l:List Visit}:(jG x l).1.length<=l.length+1/\∀a∈(jG x l).1,a.length<=3:=by
 unfold jG;split
 . simp
 . split
   . simp
   . refine⟨by simp[GJ],fun a E=>?_⟩
     simp only[GJ,Xbd,Xam]at E;obtain⟨n,_,rfl⟩:=E;exact aiR
theorem YD(x:Instance)(r:Route)(ho:x.orders.length<=1048576)(hl:r.visits.length<=1048576)(ha:x.apart.length<=1048576)(J:x.before.length<=1048576):
   PC prog 289 [.agg (aD x),.agg (bT r)] (int (xJ x r)):=by
 refine pcd Tryz.func289 ?_;unfold Tryz.f289;simp only[gdS];simp only[go_sem];refine aB (fun h1=>?_) (fun h1=>?_)
 . simp only[go_sem]
   exact bJ (by unfold xJ;rw[if_pos (show cC r.type x.types.length=true from h1)])
 have Z:0<=r.type/\r.type<(x.types.length:Int):=by
   simp only[Xaf,decide_eq_false_iff_not]at h1;omega
 obtain⟨t,ht⟩:=aN (show r.type.toNat<x.types.length by omega);have ec:ES x r.type=t.cap:=by unfold ES;rw[ht]
 simp only[go_sem];refine PC.use (WP x r ho hl ha J) ?_;simp only[go_sem];refine aB (fun F=>?_) (fun F=>?_)
 . simp only[go_sem]
   exact bJ (by unfold xJ;rw[if_neg (by rw[show cC r.type x.types.length=false from h1];simp),if_pos F])
 have hf:xJ x r=if((jG x r.visits).1.any fun l=> !iA l t.cap)=true then 17 else 0:=by
   unfold xJ;rw[if_neg (by rw[show cC r.type x.types.length=false from h1];simp),if_neg (by rw[F];simp),ec]
 rw[hf];obtain⟨ln,la⟩:=VW (x:=x) (l:=r.visits);generalize (jG x r.visits).1=ll at ln la;simp only[go_sem];refine⟨fun ρ _=>∃k:Nat,k<=ll.length/\ρ 2=.rp (aD x) 0/\ρ 3=.rp (bT r) 0/\ρ 5=.sl (ll.map hU)/\ρ 7=int k/\∀l∈ll.take k,(!iA l t.cap)=false,fun ρ _=>ll.length-aV (ρ 7),⟨0,Xab _,rfl,rfl,rfl,rfl,by simp⟩,?_⟩;rintro ρ H ⟨k,hk,F,V,O,X,Y⟩;simp only[go_sem,F,V,O,X];refine aB (fun E=>?_) (fun I=>?_)
 . have E:=aQ E
   obtain⟨u,U⟩:=aN E;have b1:=inB E;have aa:=la u (Xac U);simp only[go_sem];refine cN (by rfl) (by kernel_rfl) ?_;simp only[go_sem,F,V,O,X,aC U,b1,hU,aC ht,Z];refine⟨_,(acJ u t.cap (by omega)).q rfl,?_⟩;simp only[go_sem,F,V,O,X];refine aB (fun J=>?_) (fun J=>?_)
   . simp only[go_sem]
     exact bJ (by rw[if_pos (Xan.2 ⟨u,Xac U,J⟩)])
   . simp only[go_sem,F,V,O,X,aT (show k<=4611686018427387904 by omega)]
     exact⟨⟨k+1,E,rfl,aM (p:=fun l=>(!iA l t.cap)=false) U J Y⟩,by simp only[aE];omega⟩
 . have I:=aR hk I
   subst I;rw[Xag]at Y;simp only[go_sem];exact bJ (by rw[if_neg (by rw[pF Y];simp)])
def Fs(n:Network)(i:Int):Bool:=decide (i>=0)&&decide (i<(n.places.length:Int))
theorem J9(n:Network)(i:Int):PC prog 387 [.agg (aY n),int i] (boo (Fs n i)):=by
 refine pcd Tryz.func387 ?_;unfold Tryz.f387;simp only[gdS];simp only[go_sem];exact .refl _
def Bg:Arc:=⟨0,0,0,0,[],[]⟩
def GR(p f t:Int)(a:Arc):Bool:=a.src == f&&a.dst == t&&a.profile == p
def oE(n:Network)(p f t:Int):Option Arc:=n.arcs.find? (GR p f t)
theorem C9{α:Type}{p:α->Bool}{l:List α}{k:Nat}{x:α}(h:∀y∈l.take k,p y=false)(E:l[k]?=some x)(I:p x=true):l.find? p=some x:=by
 induction l generalizing k with
 | nil=>simp at E
 | cons a r ih=>
   cases k with
   | zero=>simp at E;subst E;simp[List.find?,I]
   | succ k=>
     have h0:=h a (by simp);rw[List.find?_cons,h0];exact ih (k:=k) (fun y F=>h y (by simp[F])) (by simpa using E)
theorem AZ{α:Type}{p:α->Bool}{l:List α}(h:∀y∈l,p y=false):l.find? p=none:=List.find?_eq_none.2 fun y E=>by rw[h y E];simp
theorem acN(n:Network)(p f t:Int)(hl:n.arcs.length<=1048576):PC prog 388 [.agg (aY n),int p,int f,int t] (.tup [.agg (fK ((oE n p f t).getD Bg)),boo (oE n p f t).isSome]):=by
 refine pcd Tryz.func388 ?_;unfold Tryz.f388;simp only[gdS];simp only[go_sem];refine aL fun j U=>?_
 simp only[go_sem];refine⟨fun ρ H=>∃k:Nat,k<=n.arcs.length/\ρ 1=int p/\ρ 2=int f/\ρ 3=int t/\ρ 4=.rp (aY n) 0/\ρ 8=.op j 0 0/\ρ 10=int k/\H j=some ⟨107,6,[[int 0,int 0,int 0,int 0,.sl [],.sl []]]⟩/\∀a∈n.arcs.take k,GR p f t a=false,fun ρ _=>n.arcs.length-aV (ρ 10),⟨0,Xab _,rfl,rfl,rfl,rfl,rfl,rfl,aA _ _ _,by simp⟩,?_⟩;clear U;rintro ρ H ⟨k,hk,h1,V,h3,Y,J,E,U,hz⟩;simp only[go_sem,h1,V,h3,Y,J,E];refine aB (fun I=>?_) (fun O=>?_)
 . have I:=aQ I
   obtain⟨a,F⟩:=aN I;have b1:=inB I;simp only[go_sem,h1,V,h3,Y,J,E,aC F,b1];refine aL fun i hi=>?_
   have Z:j≠i:=aP U hi;simp only[go_sem,h1,V,h3,Y,J,E,aC F,b1];refine aH (aA _ _ _) (by simp[eF]) ?_;simp only[go_sem,h1,V,h3,Y,J,E,aC F,b1];generalize hG:aI (aI H i _) i _=HG;have X:HG j=some ⟨107,6,[[int 0,int 0,int 0,int 0,.sl [],.sl []]]⟩:=by rw[<-hG,aF _ _ _ _ Z,aF _ _ _ _ Z];exact U
   have aa:HG i=some ⟨107,6,[fK a]⟩:=by rw[<-hG,aA]
   clear hG U hi;refine aB (fun hb=>?_) (fun hb=>?_)
   . simp only[go_sem,J,aa,eF]
     refine aH X (by simp[eF]) ?_;simp only[go_sem,J,eF];have:oE n p f t=some a:=C9 hz F hb;rw[this];exact .refl _
   . simp only[go_sem,h1,V,h3,Y,J,E,aT (show k<=4611686018427387904 by omega)]
     exact⟨⟨k+1,I,rfl,X,aM (p:=fun a=>GR p f t a=false) F hb hz⟩,by simp only[aE];omega⟩
 . have O:=aR hk O
   subst O;rw[Xag]at hz;simp only[go_sem,J];refine aH U (by simp) ?_;simp only[go_sem,J];have:oE n p f t=none:=AZ hz;rw[this];exact .refl _
def W(n:Int):Int:=IntKind.i64.wrap n
def lT(l:List Point)(t:Int)(k:Nat):Bool:=decide ((eA l k).t<=t)&&decide (t<(eA l (k+1)).t)
def Gf(p q:Point)(t:Int):Int:=W (p.a+IntKind.i64.wrap (Int.tdiv (W (W (W (W (W (t-p.t)*W (q.a-p.a))+q.t)-p.t)-1)) (W (q.t-p.t))))
def yP(e:Point)(t:Int):Int:=W (W (t+e.a)-e.t)
def rR(l:List Point)(t:Int):Bool:=decide (((iJ l).length:Int)>0)||decide (t<0)||decide (t>1073741824)
def fV(l:List Point)(t:Int):Int:=
 if rR l t=true then 0 else match (List.range (l.length-1)).find? (lT l t)with
 | some k=>Gf (eA l k) (eA l (k+1)) t
 | none=>if decide (t>(eA l 0).t)=true then yP (eA l (l.length-1)) t else yP (eA l 0) t
def ahY(n:Int):Prop:= -9223372036854775808<=n/\n<=9223372036854775807
theorem Vz{n:Int}(h:0<n/\n<18446744073709551616):¬IntKind.i64.wrap n=0:=by
 show ¬(if(true&&decide (n%18446744073709551616>=9223372036854775808))=true then n%18446744073709551616-18446744073709551616 else n%18446744073709551616)=0;by_cases h1:n%18446744073709551616>=9223372036854775808
 . rw[if_pos (by simpa using h1)];omega
 . rw[if_neg (by simpa using h1)];omega
theorem QK(l:List Point)(t:Int)(hl:l.length<=1048576)(hp:∀p∈l,ahY p.t):PC prog 390 [.sl (l.map bY),int t] (int (fV l t)):=by
 refine pcd Tryz.func390 ?_;unfold Tryz.f390;simp only[gdS];simp only[go_sem];refine PC.use (Jf l hl) ?_;simp only[go_sem];refine aB (fun X=>?_) (fun X=>?_)
 . simp only[go_sem]
   exact bJ (by unfold fV;rw[if_pos (show rR l t=true by simpa[rR]using X)])
 have I:rR l t=false:=by simpa[rR]using X
 have af:0<l.length:=by
   simp only[rR,Xaf,decide_eq_false_iff_not]at I;have h0:iJ l=[]:=Xco (by omega);simp only[iJ,Xat]at h0;have h1:=h0.1;cases aa:B3 l.length 1 16 with
   | true=>rw[aa]at h1;simp[opt]at h1
   | false=>simp only[B3,Xaf,decide_eq_false_iff_not]at aa;omega
 have ht:0<=t/\t<=1073741824:=by
   simp only[rR,Xaf,decide_eq_false_iff_not]at I;omega
 have ad:fV l t=match (List.range (l.length-1)).find? (lT l t)with
   | some k=>Gf (eA l k) (eA l (k+1)) t
   | none=>if decide (t>(eA l 0).t)=true then yP (eA l (l.length-1)) t else yP (eA l 0) t:=by
   unfold fV;rw[if_neg (by rw[I];simp)]
 rw[ad];simp only[go_sem];refine⟨fun ρ _=>∃k:Nat,k<=l.length-1/\ρ 0=.sl (l.map bY)/\ρ 1=int t/\ρ 5=int k/\∀c∈(List.range (l.length-1)).take k,lT l t c=false,fun ρ _=>l.length-1-aV (ρ 5),⟨0,Xab _,rfl,rfl,rfl,by simp⟩,?_⟩;rintro ρ H ⟨k,hk,h0,h1,V,hz⟩;simp only[go_sem,h0,h1,V,aT (show k<=4611686018427387904 by omega)];refine aB (fun U=>?_) (fun Y=>?_)
 . have U:k<l.length-1:=by simp at U;omega
   obtain⟨p,E⟩:=aN (show k<l.length by omega);obtain⟨q,F⟩:=aN (show k+1<l.length by omega);have b1:=inB (show k<l.length by omega);have b2:=inB (show k+1<l.length by omega);have pb:=hp p (Xac E);have qb:=hp q (Xac F);have es:lT l t k=(decide (p.t<=t)&&decide (t<q.t)):=by unfold lT;rw[dH E,dH F]
   simp only[go_sem,h0,h1,V,aC E,b1];refine aL fun i1 ag=>?_
   simp only[go_sem,h0,h1,V,aC E,b1];refine aH (aA _ _ _) (by simp[eQ]) ?_;simp only[go_sem,h0,h1,V,aC F,b2,aT (show k<=4611686018427387904 by omega)];generalize O:aI (aI H i1 _) i1 _=H1;have J:H1 i1=some ⟨104,2,[bY p]⟩:=by rw[<-O,aA]
   clear O ag;refine aL fun i2 ac=>?_
   have ab:i1≠i2:=aP J ac;simp only[go_sem,h0,h1,V,aC F,b2,aT (show k<=4611686018427387904 by omega)];refine aH (aA _ _ _) (by simp[eQ]) ?_;generalize O:aI (aI H1 i2 _) i2 _=H2;have R2:H2 i2=some ⟨104,2,[bY q]⟩:=by rw[<-O,aA];rfl
   have J:H2 i1=some ⟨104,2,[bY p]⟩:=by rw[<-O,aF _ _ _ _ ab,aF _ _ _ _ ab];exact J
   clear O ac;simp only[go_sem,h0,h1,V,J,R2];rw[<-es];refine aB (fun hs=>?_) (fun hs=>?_)
   . have ae:=hs
     rw[es]at ae;simp only[Xak,decide_eq_true_eq]at ae;simp only[go_sem];refine cN (by rfl) (by kernel_rfl) ?_;simp only[go_sem,h0,h1,V,J,R2];have hf:(List.range (l.length-1)).find? (lT l t)=some k:=C9 hz (gL U) hs;rw[hf];simp only;rw[dH E,dH F];unfold ahY at pb qb;exact⟨Vz (by omega),.refl _⟩
   . simp only[go_sem,h0,h1,V,aT (show k<=4611686018427387904 by omega)]
     exact⟨⟨k+1,by omega,rfl,aM (p:=fun c=>lT l t c=false) (gL U) hs hz⟩,by simp only[aE];omega⟩
 . have Y:k=l.length-1:=by simp at Y;omega
   subst Y;have hf:(List.range (l.length-1)).find? (lT l t)=none:=AZ fun c hc=>hz c (by rw[Xap (by simp)];exact hc)
   rw[hf];obtain⟨p,E⟩:=aN af;obtain⟨q,F⟩:=aN (show l.length-1<l.length by omega);have e0:=dH E;have e1:=dH F;have wl:IntKind.i64.wrap ((l.length:Int)-1)=((l.length-1:Nat):Int):=by rw[bH (by omega)];omega
   simp only[go_sem,h0,h1,aC E];refine⟨⟨by decide,by omega⟩,?_⟩;refine aL fun i hi=>?_
   simp only[go_sem,h0,h1,aC E];refine aH (aA _ _ _) (by simp[eQ]) ?_;generalize O:aI (aI H i _) i _=H1;have J:H1 i=some ⟨104,2,[bY p]⟩:=by rw[<-O,aA];rfl
   clear O hi;simp only[go_sem,h0,h1,J];rw[e0];refine gA (fun Z H'=>Z 1=int t/\Z 8=.op i 0 0/\H' i=some ⟨104,2,[bY (if decide (t>p.t)=true then q else p)]⟩) ?_ fun K hK _ _=>aB (fun X=>?_) (fun X=>?_)
   . clear h0 h1 V J
     rintro ρ H ⟨h1,h8,R⟩;simp only[go_sem,h1,h8,R];rw[e1];refine bJ ?_;cases decide (t>p.t) <;> rfl
   . simp only[go_sem,h0,h1,wl,aC F]
     refine⟨⟨by omega,by omega⟩,?_⟩;refine aH J (by simp[eQ]) ?_;simp only[go_sem];refine hK _ _ ⟨by simp only[go_sem,h1],by simp only[go_sem],?_⟩;rw[aA,if_pos X];rfl
   . simp only[go_sem]
     refine hK _ _ ⟨by simp only[go_sem,h1],by simp only[go_sem],?_⟩;rw[if_neg (by rw[X];simp)];exact J
end Sq
namespace Sq
open Go.Proofs.Tryz(prog)
open Mv (bJ bR aM)
def nN(t:Int)(s:Int)(p:Point):Int:=if decide (p.t<=t)=true then W (s+p.a)else s
def rH(a:Arc)(t:Int):Int:=a.slow.foldl (nN t) (fV a.travel t)
structure ArcB(a:Arc):Prop where
 travel:a.travel.length<=1048576
 slow:a.slow.length<=1048576
 time:∀p∈a.travel,ahY p.t
theorem TE(a:Arc)(t:Int)(X:ArcB a):PC prog 389 [.agg (fK a),int t] (int (rH a t)):=by
 have aa:=X.slow;refine pcd Tryz.func389 ?_;unfold Tryz.f389;simp only[gdS];simp only[go_sem];refine PC.use (QK a.travel t X.travel X.time) ?_;simp only[go_sem];refine⟨fun ρ _=>∃k:Nat,k<=a.slow.length/\ρ 1=int t/\ρ 2=.rp (fK a) 0/\ρ 5=int ((a.slow.take k).foldl (nN t) (fV a.travel t))/\ρ 6=int k,fun ρ _=>a.slow.length-aV (ρ 6),⟨0,Xab _,rfl,rfl,rfl,rfl⟩,?_⟩;rintro ρ H ⟨k,hk,h1,I,J,O⟩;simp only[go_sem,h1,I,J,O];refine aB (fun E=>?_) (fun U=>?_)
 . have E:=aQ E
   obtain⟨p,Y⟩:=aN E;have b1:=inB E;have Z:(a.slow.take (k+1)).foldl (nN t) (fV a.travel t)=nN t ((a.slow.take k).foldl (nN t) (fV a.travel t)) p:=by rw[bQ Y,Xbh];rfl
   simp only[go_sem,h1,I,J,O,aC Y,b1];refine gA (fun F _=>F 1=int t/\F 2=.rp (fK a) 0/\F 5=int ((a.slow.take (k+1)).foldl (nN t) (fV a.travel t))/\F 6=int k) ?_ fun K hK _ _=>aB (fun V=>?_) (fun V=>?_)
   . clear h1 I J O
     rintro ρ H ⟨h1,I,J,O⟩;simp only[go_sem,h1,I,J,O,aT (show k<=4611686018427387904 by omega)];exact⟨⟨k+1,E,rfl,rfl⟩,by simp only[aE];omega⟩
   . simp only[go_sem,h1,I,J,O,aC Y,b1]
     refine hK _ _ ⟨by simp only[go_sem,h1],by simp only[go_sem,I],?_,by simp only[go_sem,O]⟩;simp only[go_sem];rw[Z,nN,if_pos V];rfl
   . simp only[go_sem]
     refine hK _ _ ⟨by simp only[go_sem,h1],by simp only[go_sem,I],?_,by simp only[go_sem,O]⟩;simp only[go_sem,J];rw[Z,nN,if_neg (by rw[V];simp)]
 . have U:=aR hk U
   subst U;simp only[go_sem,J];rw[Xag];exact .refl _
structure NetB(n:Network):Prop where
 arcs:n.arcs.length<=1048576
 arc:∀a∈n.arcs,ArcB a
def eU(n:Network)(p f t time:Int):Int×Int×Int:=
 if(!Fs n f|| !Fs n t)=true then(0,0,11)else if(f == t)=true then(time,0,0)
 else match oE n p f t with|some a=>(rH a time,a.miles,0)|none=>(0,0,12)
theorem anL(n:Network)(p f t time:Int)(I:NetB n):PC prog 386 [.agg (aY n),int p,int f,int t,int time] (.tup [int (eU n p f t time).1,int (eU n p f t time).2.1,int (eU n p f t time).2.2]):=by
 refine pcd Tryz.func386 ?_;unfold Tryz.f386;simp only[gdS];simp only[go_sem];refine PC.use (J9 n f) ?_;simp only[go_sem];refine⟨_,fun _=>(J9 n t).q rfl,?_⟩;simp only[go_sem];refine aB (fun h1=>?_) (fun h1=>?_)
 . simp only[go_sem]
   have:eU n p f t time=(0,0,11):=by unfold eU;rw[if_pos h1]
   rw[this];exact .refl _
 simp only[go_sem];refine aB (fun F=>?_) (fun F=>?_)
 . simp only[go_sem]
   have:eU n p f t time=(time,0,0):=by unfold eU;rw[if_neg (by rw[h1];simp),if_pos F]
   rw[this];exact .refl _
 have U:eU n p f t time=match oE n p f t with|some a=>(rH a time,a.miles,0)|none=>(0,0,12):=by unfold eU;rw[if_neg (by rw[h1];simp),if_neg (by rw[F];simp)]
 rw[U];simp only[go_sem];refine PC.use (acN n p f t I.arcs) ?_;simp only[go_sem];refine aL fun j V=>?_
 simp only[go_sem];refine aH (aA _ _ _) (by simp[eF]) ?_;simp only[go_sem,eF];cases O:oE n p f t with
 | none=>
   refine aB (fun _=>?_) (fun E=>by simp at E);simp only[go_sem];exact .refl _
 | some a=>
   have J:ArcB a:=I.arc a (List.mem_of_find?_eq_some O);refine aB (fun E=>by simp at E) (fun _=>?_);simp only[go_sem,Option.getD_some,eF];refine cN (by rfl) (by kernel_rfl) ?_;simp only[go_sem,eF];refine⟨_,(TE a time J).q rfl,?_⟩;simp only[go_sem,eF];exact .refl _
theorem aeC(x:Instance)(p f t time:Int)(E:NetB x.net):PC prog 385 [.agg (aD x),int p,int f,int t,int time] (.tup [int (eU x.net p f t time).1,int (eU x.net p f t time).2.1,boo ((eU x.net p f t time).2.2 == 0)]):=by
 refine pcd Tryz.func385 ?_;unfold Tryz.f385;simp only[gdS];simp only[go_sem];refine PC.use (anL x.net p f t time E) ?_;simp only[go_sem];exact .refl _
structure Score where
 cost:Int
 moved:Int
 other:Int
 work:Int
def cD(s:Score):List AV:=[int s.cost,int s.moved,int s.other,int s.work]
def mC(l:List Visit)(n:Nat):Bool:=(List.range n).all fun i=> !(dB l i == dB l n)
theorem SP(l:List Visit)(n:Nat)(hl:l.length<=1048576)(V:n<l.length):PC prog 336 [.sl (l.map aJ),int n] (boo (mC l n)):=by
 obtain⟨u,U⟩:=aN V;have Z:=inB V;refine pcd Tryz.func336 ?_;unfold Tryz.f336;simp only[gdS];simp only[go_sem];refine⟨fun ρ _=>∃k:Nat,k<=n/\ρ 0=.sl (l.map aJ)/\ρ 1=int n/\ρ 5=int k/\∀i∈(List.range n).take k,(dB l i == dB l n)=false,fun ρ _=>n-aV (ρ 5),⟨0,Xab _,rfl,rfl,rfl,by simp⟩,?_⟩;rintro ρ H ⟨k,hk,h0,h1,J,O⟩;simp only[go_sem,h0,h1,J];refine aB (fun E=>?_) (fun F=>?_)
 . have E:k<n:=by simpa using E
   obtain⟨v,X⟩:=aN (show k<l.length by omega);have Y:=inB (show k<l.length by omega);have e:(dB l k == dB l n)=(v.order == u.order):=by rw[fZ X,fZ U]
   simp only[go_sem];refine cN (by rfl) (by kernel_rfl) ?_;simp only[go_sem,h0,h1,J,aC X,aC U,Y,Z];rw[<-e];refine aB (fun I=>?_) (fun I=>?_)
   . simp only[go_sem]
     refine bR ?_
     symm
     unfold mC;rw[List.all_eq_false];exact⟨k,Xam.2 E,by rw[I];simp⟩
   . simp only[go_sem,h0,h1,J,aT (show k<=4611686018427387904 by omega)]
     exact⟨⟨k+1,E,rfl,aM (p:=fun i=>(dB l i == dB l n)=false) (gL E) I O⟩,by simp only[aE];omega⟩
 . have F:k=n:=by simp at F;omega
   subst F;simp only[go_sem];refine bR ?_
   symm
   unfold mC;rw[Xaj];intro i hi;rw[O i (by rw[Xap (by simp)];exact hi)];rfl
def yV(c s:Int)(i:Nat):Bool:=(IntKind.i64.wrap (Int.tdiv s (2^i:Nat))).tmod 2 == 1&&(IntKind.i64.wrap (Int.tdiv c (2^i:Nat))).tmod 2 == 0
def qW(c s:Int):Bool:= !(decide (c<0)||decide (s<0))&&(List.range 63).all fun i=> !yV c s i
theorem Zb(t:VType)(s:Int):PC prog 288 [.agg (bC t),int s] (boo (qW t.skills s)):=by
 refine pcd Tryz.func288 ?_;unfold Tryz.f288;simp only[gdS];simp only[go_sem];refine aB (fun h1=>?_) (fun h1=>?_)
 . simp only[go_sem]
   exact bR (by unfold qW;rw[h1];rfl)
 have ha:qW t.skills s=(List.range 63).all fun i=> !yV t.skills s i:=by unfold qW;rw[h1];rfl
 rw[ha];simp only[go_sem];refine⟨fun ρ _=>∃k:Nat,k<=63/\ρ 1=int s/\ρ 2=.rp (bC t) 0/\ρ 5=int (IntKind.i64.wrap (2^k:Nat))/\∀i∈(List.range 63).take k,yV t.skills s i=false,fun ρ _=>if aV (ρ 5)=0 then 0 else 9223372036854775809-aV (ρ 5),⟨0,Xab _,rfl,rfl,rfl,by simp⟩,?_⟩;rintro ρ H ⟨k,hk,h1,X,F,hz⟩;by_cases J:k=63
 . subst J
   have hw:IntKind.i64.wrap ((2^63:Nat):Int)= -9223372036854775808:=by decide +kernel
   rw[hw]at F;simp only[go_sem,h1,X,F];refine aB (fun E=>by simp at E) (fun _=>?_);simp only[go_sem];refine bR ?_
   symm
   rw[Xaj];intro i hi;rw[hz i (by rw[Xap (by simp)];exact hi)];rfl
 . have V:k<63:=by omega
   have hp:2^k<=2^62:=Xav (by decide) (by omega);have aa:0<2^k:=Nat.two_pow_pos k;have hw:IntKind.i64.wrap ((2^k:Nat):Int)=((2^k:Nat):Int):=bH (by omega);have ab:((2^k:Nat):Int)*2=((2^(k+1):Nat):Int):=by rw[Xbj];push_cast;rfl
   rw[hw]at F;simp only[go_sem,h1,X,F];have I:decide (((2^k:Nat):Int)>0)=true:=decide_eq_true (by exact_mod_cast aa);have O:¬(((2^k:Nat):Int)=0):=fun h=>absurd (by exact_mod_cast h:2^k=0) (by omega)
   refine aB (fun _=>?_) (fun E=>by rw[I]at E;cases E);simp only[go_sem,h1,X,F];refine⟨O,by decide,fun _=>O,fun _=>by decide,?_⟩;refine aB (fun E=>?_) (fun E=>?_)
   . simp only[go_sem]
     refine bR ?_
     symm
     rw[List.all_eq_false];exact⟨k,Xam.2 V,by rw[show yV t.skills s k=true from E];simp⟩
   . simp only[go_sem,h1,X,F,ab]
     refine⟨⟨k+1,by omega,rfl,aM (p:=fun i=>yV t.skills s i=false) (gL V) E hz⟩,?_⟩;have Z:aV (int ((2^k:Nat):Int))=2^k:=aE.trans (Xaq _);have U:(if aV (int ((2^k:Nat):Int))=0 then 0 else 9223372036854775809-aV (int ((2^k:Nat):Int)))=9223372036854775809-2^k:=by rw[Z,if_neg (by omega)]
     rw[U];by_cases e:k=62
     . subst e
       have:aV (AV.v (Value.int IntKind.i64 (IntKind.i64.wrap ((2^(62+1):Nat):Int))))=0:=by decide +kernel
       rw[this];simp
     . have ac:2^(k+1)<=2^62:=Xav (by decide) (by omega)
       have ad:IntKind.i64.wrap ((2^(k+1):Nat):Int)=((2^(k+1):Nat):Int):=bH (by omega);have Y:aV (int ((2^(k+1):Nat):Int))=2^(k+1):=aE.trans (Xaq _);rw[ad,Y];rw[if_neg (by have:=Nat.two_pow_pos (k+1);omega),Xbj];rw[Xbj]at ac;omega
def cH:Score:=⟨0,0,0,0⟩
def jU:Stop:=⟨0,0,0,0⟩
def mW(o:Order)(v:Visit):Stop:=if v.drop=true then o.drop else o.pick
def bA(x:Instance)(v:Visit):Stop×Bool:=if cC v.order x.orders.length=true then(jU,false)else
 match x.orders[v.order.toNat]? with
 | some o=>(mW o v,decide ((mW o v).place>=0))
 | none=>(jU,false)
theorem Qi(x:Instance)(v:Visit):PC prog 363 [.agg (aD x),.agg (aJ v)] (.tup [.agg (dV (bA x v).1),boo (bA x v).2]):=by
 refine pcd Tryz.func363 ?_;unfold Tryz.f363;simp only[gdS];simp only[go_sem];refine aL fun j hj=>?_
 have R:=aA bV j (some (⟨109,4,[[int 0,int 0,int 0,int 0]]⟩:Row));generalize aI bV j _=H0 at R |-;clear hj;simp only[go_sem];refine aB (fun h1=>?_) (fun h1=>?_)
 . have e:bA x v=(jU,false):=if_pos h1
   rw[e];simp only[go_sem];refine aH R (by simp) ?_;simp only[go_sem];exact .refl _
 have J:0<=v.order/\v.order<(x.orders.length:Int):=by
   simp only[Xaf,decide_eq_false_iff_not]at h1;omega
 obtain⟨o,V⟩:=aN (show v.order.toNat<x.orders.length by omega);have e:bA x v=(mW o v,decide ((mW o v).place>=0)):=by unfold bA;rw[if_neg (by rw[show cC v.order x.orders.length=false from h1];simp),V]
 rw[e];simp only[go_sem,aC V,J];refine aL fun i hi=>?_
 have E:j≠i:=aP R hi;simp only[go_sem];refine aH (aA _ _ _) (by simp[gO]) ?_;generalize U:aI (aI H0 i _) i _=H1;have F:H1 i=some ⟨109,4,[dV o.pick]⟩:=by rw[<-U,aA];rfl
 have R:H1 j=some ⟨109,4,[[int 0,int 0,int 0,int 0]]⟩:=by rw[<-U,aF _ _ _ _ E,aF _ _ _ _ E];exact R
 clear U hi;simp only[go_sem];refine bK (fun I H'=>I 4=.op j 0 0/\I 6=.op i 0 0/\H' j=some ⟨109,4,[[int 0,int 0,int 0,int 0]]⟩/\H' i=some ⟨109,4,[dV (mW o v)]⟩) ?_ fun K X=>aB (fun O=>?_) (fun O=>?_)
 . clear R F
   rintro ρ H ⟨Y,h6,R,F⟩;simp only[go_sem];refine gB [i] [(0,true),(1,true),(2,true),(3,true),(4,false),(5,false)] (by simp[F]) (by kernel_rfl) fun Hp Hr hp hr _ _=>?_
   have Rp:Hp i=some ⟨109,4,[dV (mW o v)]⟩:=by rw[hp i (by simp)];exact F
   have Rr:Hr j=some ⟨109,4,[[int 0,int 0,int 0,int 0]]⟩:=by rw[hr j (by simpa using E)];exact R
   simp only[go_sem,Y,h6,Rp];refine aH Rr (by simp[gO]) ?_;simp only[go_sem];refine iO fun _ Hm _ hm=>?_
   have Z:Hm j=some ⟨109,4,[dV (mW o v)]⟩:=by rw[hm j (by simpa using E),aA]
   simp only[go_sem,Y,Z];exact .refl _
 . simp only[go_sem,aC V,J]
   refine aH F (by simp[gO]) ?_;simp only[go_sem];refine X _ _ ⟨by simp only[go_sem],by simp only[go_sem],by rw[aF _ _ _ _ E];exact R,?_⟩;rw[aA,mW,if_pos O];rfl
 . simp only[go_sem]
   refine X _ _ ⟨by simp only[go_sem],by simp only[go_sem],R,?_⟩;rw[mW,if_neg (by rw[O];simp)];exact F
def bX(x:Instance)(r:Route):Bool:=
 !(cC r.type x.types.length||decide (r.start<0)||decide (r.start>4096)||decide ((r.visits.length:Int)>20))&&r.visits.all fun v=>(bA x v).2
theorem Cn(x:Instance)(r:Route)(hr:r.visits.length<=1048576):PC prog 333 [.agg (aD x),.agg (bT r)] (boo (bX x r)):=by
 refine pcd Tryz.func333 ?_;unfold Tryz.f333;simp only[gdS];simp only[go_sem];refine aB (fun h1=>?_) (fun h1=>?_)
 . simp only[go_sem]
   refine bR ?_;unfold bX;rw[show(cC r.type x.types.length||decide (r.start<0)||decide (r.start>4096)||decide ((r.visits.length:Int)>20))=true from h1];rfl
 have Y:bX x r=r.visits.all fun v=>(bA x v).2:=by unfold bX;rw[show(cC r.type x.types.length||decide (r.start<0)||decide (r.start>4096)||decide ((r.visits.length:Int)>20))=false from h1];rfl
 rw[Y];simp only[go_sem];refine⟨fun ρ _=>∃k:Nat,k<=r.visits.length/\ρ 2=.rp (aD x) 0/\ρ 3=.rp (bT r) 0/\ρ 5=int k/\∀v∈r.visits.take k,(bA x v).2=true,fun ρ _=>r.visits.length-aV (ρ 5),⟨0,Xab _,rfl,rfl,rfl,by simp⟩,?_⟩;rintro ρ H ⟨k,hk,O,V,U,X⟩;simp only[go_sem,O,V,U];refine aB (fun E=>?_) (fun F=>?_)
 . have E:=aQ E
   obtain⟨v,I⟩:=aN E;have Z:=inB E;simp only[go_sem];refine xM [(0,true),(1,true),(2,true),(3,true),(4,true),(5,true),(6,true),(7,true),(8,true),(9,true),(10,false),(11,false),(12,false)] (by kernel_rfl) ?_;simp only[go_sem,O,V,U,aC I,Z,cX];refine⟨_,(Qi x v).q rfl,?_⟩;simp only[go_sem];refine aL fun j hj=>?_
   simp only[go_sem];refine aH (aA _ _ _) (by simp[gO]) ?_;simp only[go_sem];refine aB (fun J=>?_) (fun J=>?_)
   . simp only[go_sem]
     refine bR ?_
     symm
     rw[List.all_eq_false];exact⟨v,Xac I,by simpa using J⟩
   . simp only[go_sem,O,V,U,aT (show k<=4611686018427387904 by omega)]
     exact⟨⟨k+1,E,rfl,aM (p:=fun v=>(bA x v).2=true) I (by simpa using J) X⟩,by simp only[aE];omega⟩
 . have F:=aR hk F
   subst F;simp only[go_sem];refine bR ?_
   symm
   rw[Xaj];intro v I;exact X v (by rw[Xag];exact I)
structure St8 where
 place:Int
 time:Int
 driven:Int
 miles:Int
def kU(s:St8):List AV:=[int s.place,int s.time,int s.driven,int s.miles]
theorem Q8(s:St8):(kU s).length=4:=(rfl)
theorem YR(s:St8):(kU s).getD 0 .any=int s.place:=(rfl)
theorem ZA(s:St8):(kU s).getD 1 .any=int s.time:=(rfl)
theorem adI(s:St8):(kU s).getD 2 .any=int s.driven:=(rfl)
theorem adA(s:St8):(kU s).getD 3 .any=int s.miles:=(rfl)
theorem SX(s:St8):(kU s).take 4=kU s:=(rfl)
attribute [go_sem] YR ZA adI adA SX
def kI(t:VType)(s:St8)(yes:Bool):St8:=if yes=true then⟨s.place,W (s.time+t.rest),0,s.miles⟩else s
theorem PE(t:VType)(s:St8)(yes:Bool):PC prog 381 [.agg (bC t),.agg (kU s),boo yes] (.agg (kU (kI t s yes))):=by
 simp only[kU];refine pcb (fun t=>t == 4) Tryz.func381 ?_;unfold Tryz.f381;simp only[gdS];simp only[go_sem];refine aL fun j Y=>?_
 have R:=aA bV j (some (⟨386,4,[[int s.place,int s.time,int s.driven,int s.miles]]⟩:Row));generalize aI bV j _=H0 at R |-;clear Y;simp only[go_sem];refine aL fun i hi=>?_
 have E:j≠i:=aP R hi;have F:=aA H0 i (some (⟨386,4,[[int 0,int 0,int 0,int 0]]⟩:Row));have R:aI H0 i (some (⟨386,4,[[int 0,int 0,int 0,int 0]]⟩:Row)) j=_:=(aF _ _ _ _ E).trans R;generalize V:aI H0 i _=H1 at R F |-;clear hi V;simp only[go_sem];refine bK (fun I H'=>I 4=.op j 0 0/\I 6=.op i 0 0/\H' j=some ⟨386,4,[kU (kI t s yes)]⟩/\H' i=some ⟨386,4,[[int 0,int 0,int 0,int 0]]⟩) ?_ fun K U=>aB (fun J=>?_) (fun J=>?_)
 . clear R F
   rintro ρ H ⟨X,O,R,F⟩;simp only[go_sem,X,O,R];refine aH F (by simp[kU]) ?_;simp only[go_sem,O];exact .refl _
 . simp only[go_sem,R]
   refine dM so3 R ⟨by simp,rfl,by simp⟩ ?_;simp only[go_sem];refine dM so3 (aA _ _ _) ⟨by simp,rfl,by simp⟩ ?_;simp only[go_sem];refine U _ _ ⟨by simp only[go_sem],by simp only[go_sem],?_,by rw[aF _ _ _ _ E.symm,aF _ _ _ _ E.symm];exact F⟩;rw[aA,kI,if_pos J];rfl
 . simp only[go_sem]
   refine U _ _ ⟨by simp only[go_sem],by simp only[go_sem],?_,F⟩;rw[kI,if_neg (by rw[J];simp)];exact R
def fU(x:Instance)(t:VType)(s:St8)(to close late:Int):St8×Int:=
 if(!((eU x.net t.profile s.place to s.time).2.2 == 0))=true then(s,12)
 else if(eU x.net t.profile s.place to s.time).1>close then(s,late)
 else if W (W (s.driven+(eU x.net t.profile s.place to s.time).1)-s.time)>t.drive then(s,16)
 else(⟨to,(eU x.net t.profile s.place to s.time).1,W (W (s.driven+(eU x.net t.profile s.place to s.time).1)-s.time),W (s.miles+(eU x.net t.profile s.place to s.time).2.1)⟩,0)
theorem OR(x:Instance)(t:VType)(s:St8)(to close E:Int)(X:NetB x.net):PC prog 382 [.agg (aD x),.agg (bC t),.agg (kU s),int to,int close,int E] (.tup [.agg (kU (fU x t s to close E).1),int (fU x t s to close E).2]):=by
 simp only[kU];refine pcd Tryz.func382 ?_;unfold Tryz.f382;simp only[gdS];simp only[go_sem];refine aL fun j Y=>?_
 have R:=aA bV j (some (⟨386,4,[[int 0,int 0,int 0,int 0]]⟩:Row));generalize aI bV j _=H0 at R |-;clear Y;simp only[go_sem];refine PC.use (aeC x t.profile s.place to s.time X) ?_;simp only[go_sem];generalize J:eU x.net t.profile s.place to s.time=g;refine aB (fun h1=>?_) (fun h1=>?_)
 . simp only[go_sem]
   refine aH R (by simp) ?_;simp only[go_sem];rw[show fU x t s to close E=(s,12)by unfold fU;rw[J,if_pos h1]];exact .refl _
 simp only[go_sem];refine aB (fun I=>?_) (fun I=>?_)
 . simp only[go_sem]
   refine aH R (by simp) ?_;simp only[go_sem];rw[show fU x t s to close E=(s,E)by unfold fU;rw[J,if_neg (by rw[h1];simp),if_pos (of_decide_eq_true I)]];exact .refl _
 simp only[go_sem];refine aL fun i hi=>?_
 have F:j≠i:=aP R hi;simp only[go_sem];refine aH (aA _ _ _) (by simp) ?_;generalize O:aI (aI H0 i _) i _=H1;have V:H1 i=some ⟨386,4,[[int to,int g.1,int (W (W (s.driven+g.1)-s.time)),int (W (s.miles+g.2.1))]]⟩:=by rw[<-O,aA];rfl
 have R:H1 j=some ⟨386,4,[[int 0,int 0,int 0,int 0]]⟩:=by rw[<-O,aF _ _ _ _ F,aF _ _ _ _ F];exact R
 clear O hi;simp only[go_sem,V];refine aB (fun U=>?_) (fun U=>?_)
 . simp only[go_sem]
   refine aH R (by simp) ?_;simp only[go_sem];rw[show fU x t s to close E=(s,16)by unfold fU;rw[J,if_neg (by rw[h1];simp),if_neg (of_decide_eq_false I),if_pos (of_decide_eq_true U)]];exact .refl _
 . simp only[go_sem,V]
   refine aH R (by simp) ?_;simp only[go_sem];rw[show fU x t s to close E=(⟨to,g.1,W (W (s.driven+g.1)-s.time),W (s.miles+g.2.1)⟩,0)by unfold fU;rw[J,if_neg (by rw[h1];simp),if_neg (of_decide_eq_false I),if_neg (of_decide_eq_false U)]];exact .refl _
end Sq
end Go.Proofs.YtohmomanmikphaaGreatDoor
