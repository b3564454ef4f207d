import Derived.Test.YtkfhgjihlbilpaaGreatDoorVl09
set_option linter.unusedSimpArgs false
set_option linter.unusedVariables false
set_option linter.defProp false
set_option maxRecDepth 100000
namespace Go.Proofs.YtkfhgjihlbilpaaGreatDoor.Sq
open Go.Proofs.Tryz
open Go.Aw Go.Aw.D Go.Proofs Ty
open Mv (bS bU aS)
def azS{H:aM}{a b:ByteArray}(h:a=b):Conv H (.v (.string a)) (.v (.string b)):=h▸.refl _
def avZ(n:Nat)(J:n<20):PC prog 371 [int n] (str (nY n)):=by
 refine pcd func371 rfl rfl ?_;simp only[go_sem];apply aA <;> intro I
 ·simp only[go_sem,aQ n];have A:n=0\/n=1\/n=2\/n=3\/n=4\/n=5\/n=6\/n=7\/n=8\/n=9:=by grind
  rcases A with rfl|rfl|rfl|rfl|rfl|rfl|rfl|rfl|rfl|rfl <;> exact⟨by decide,azS (by rw[AY (by omega)];rfl)⟩
 ·have E:10<=n:=by grind
  have w1:IntKind.i64.wrap ((n:Int)*2)=((n*2:Nat):Int):=by grind[aW]
  have F:IntKind.i64.wrap (((n*2:Nat):Int)+2)=((n*2+2:Nat):Int):=by grind[aW]
  simp only[go_sem,w1,F];have A:n=10\/n=11\/n=12\/n=13\/n=14\/n=15\/n=16\/n=17\/n=18\/n=19:=by omega
  rcases A with rfl|rfl|rfl|rfl|rfl|rfl|rfl|rfl|rfl|rfl <;> exact⟨by decide,azS (by rw[DP (by omega),AY (by omega)];rfl)⟩
def Ul(n:Nat)(E:n<20):PC prog 334 [int n,int 10] (str (nY n)):=by refine pcd func334 rfl rfl ?_;simp only[go_sem];refine aA (fun _=>?_) (fun A=>by simp at A);simp only[go_sem];refine aA (fun A=>?_) (fun A=>by simp at A;omega);simp only[go_sem];refine aL (avZ n E) ?_;simp only[go_sem];exact .refl _
def awP(n:Nat)(A:n<20):PC prog 289 [int n] (str (nY n)):=by refine pcd func289 rfl rfl ?_;simp only[go_sem];refine aL (Ul n A) ?_;simp only[go_sem];exact .refl _
def YM(n:Nat)(A:n<20):PC prog 226 [int n] (str (nY n)):=by refine pcd func226 rfl rfl ?_;simp only[go_sem];refine aL (awP n A) ?_;simp only[go_sem];exact .refl _
theorem nT{n:Int}(h: -9223372036854775808<=n/\n<=9223372036854775807):W n=n:=aW h
def Tt(n a b:Int):PC prog 396 [int n,int a,int b] (boo (decide (n>=a)&&decide (n<=b))):=by refine pcd func396 rfl rfl ?_;simp only[go_sem];exact .refl _
structure TravB(l:List Point):Prop where
 len:1<=l.length/\l.length<=16
 pt:∀p∈l,0<=p.t/\p.t<=4096/\p.t<=p.a/\p.a<=p.t+4096
 mono:∀i,i+1<l.length->(fE l i).t<(fE l (i+1)).t/\(fE l i).a<=(fE l (i+1)).a
theorem iL{α:Type}{b:Bool}{f:α}(h:opt b f=[]):b=false:=by grind[opt]
def Q7{l:List Point}(h:jZ l=[]):TravB l:=by
 unfold jZ at h;rw[Xbf]at h;have h1:=iL h.1;unfold KR at h1;simp only[Xam,decide_eq_false_iff_not]at h1;have I:∀i,i<l.length->jH l i=[]:=fun i A=>List.flatMap_eq_nil_iff.1 h.2 i (Xan.2 A)
 have E:∀p∈l,0<=p.t/\p.t<=4096/\p.t<=p.a/\p.a<=p.t+4096:=fun p F=>by
  obtain⟨i,A,rfl⟩:=List.getElem_of_mem F;have:=I i A;unfold jH at this;rw[Xbf]at this;have J:=iL this.1;rw[fI (List.getElem?_eq_getElem A)]at J
  grind[Am,aW]
 refine⟨by omega,E,fun i A=>?_⟩
 grind[jH,Xbf,iL,V8]
def Qr{l:List Point}(h:TravB l):∀(i j:Nat),i<j->j<l.length->(fE l i).t<(fE l j).t
 | i,0,hij,_=>by omega
 | i,j+1,hij,hj=>by
  have h1:=(h.mono j hj).1;by_cases e:i=j
  ·subst e;exact h1
  ·have:=Qr h i j (by omega) (by omega);omega
def alJ(l:List Point)(h:TravB l):PC prog 403 [.sl (l.map cG)] (.sl []):=by
 have hl:=h.len;refine pcd func403 rfl rfl ?_;simp only[go_sem];refine aA (fun hb=>by exfalso;grind) (fun _=>?_);simp only[go_sem];refine⟨fun ρ _=>∃k:Nat,k<=l.length/\ρ 0=.sl (l.map cG)/\ρ 19=.sl (l.map cG)/\ρ 20=int l.length/\ρ 21=int k/\ρ 3=.sl [],fun ρ _=>l.length-aT (ρ 21),⟨0,Xaa _,rfl,rfl,rfl,rfl,rfl⟩,?_⟩;rintro ρ H ⟨k,hk,h0,O,J,F,h3⟩;simp only[go_sem,J,F];refine aA (fun A=>?_) (fun ac=>?_)
 ·have A:=aX A;obtain⟨p,hp⟩:=aK A;have b1:=inB A;have aa:=h.pt p (Xab hp);simp only[go_sem,O,F,aC hp,b1];refine aH fun I U=>?_
  simp only[go_sem];refine aG (aB _ _ _) (by simp[gH]) ?_;generalize E:aI (aI _ I _) I _=HGi5;have Y:HGi5 I=some (⟨90,2,[cG p]⟩):=by rw[<-E,aB];rfl
  clear E U;simp only[go_sem];refine aL (YM k (by omega)) ?_;simp only[go_sem,Y];refine aL (Tt _ _ _) ?_;simp only[go_sem,Y];have w:=aW (n:=p.t+4096) (by omega);refine aA (fun hb=>by exfalso;grind) (fun _=>?_);simp only[go_sem];refine gS [I] [(0,false),(1,false),(2,false),(3,true),(4,true),(5,true),(6,false),(7,false),(8,false),(9,false),(10,false),(11,false),(12,false),(13,true),(14,true),(15,true),(16,false),(17,false),(18,false),(19,false),(20,false),(21,false),(22,false),(23,false)] (by grind) (by kernel_rfl) fun Hp Hr X hr _ ae=>?_
  have P5:=(X I (by simp)).trans Y;obtain⟨q,hq⟩:=aK (show k-1<l.length by omega);have T:decide ((k:Int)>0)=true->(0<=IntKind.i64.wrap ((k:Int)-1)/\IntKind.i64.wrap ((k:Int)-1)<(l.length:Int)):=fun Z=>by grind[zE]
  simp only[go_sem,h0,P5,amW (show k<=4611686018427387904 by omega),aC hq];refine⟨T,fun Z=>T Z.1,dO fun _ Hm _ _=>?_⟩;simp only[go_sem];have hm:0<k->q.t<p.t/\q.a<=p.a:=fun ab=>by
   have:=h.mono (k-1) (by omega)
   grind[fI]
  apply aA <;> intro hb
  ·exfalso
   grind
  simp only[go_sem,h0,O,J,F,h3,aQ k];exact⟨⟨k+1,A,rfl⟩,msr A⟩
 ·simp only[go_sem,h3];exact .refl _
def FL(l:List Point)(h:TravB l):PC prog 397 [.sl (l.map cG)] (boo true):=by refine pcd func397 rfl rfl ?_;simp only[go_sem];refine aL (alJ l h) ?_;simp only[go_sem];exact .refl _
def N6(p:Point)(t:Int):PC prog 405 [.agg (cG p),int t] (int (W (p.t-t))):=by refine pcd func405 rfl rfl ?_;simp only[go_sem];exact .refl _
def bs(l:List Point)(t:Int):Nat:=(l.takeWhile fun p=>decide (p.t<t)).length
def Ci(l:List Point)(t:Int):Bool:=decide ((bs l t:Int)<(l.length:Int))&&((fE l (bs l t)).t-t == 0)
def apC{α:Type}{p:α->Bool}:∀(l:List α) (i:Nat),i<=l.length->(∀c x,c<i->l[c]?=some x->p x=true)->(∀x,l[i]?=some x->p x=false)->(l.takeWhile p).length=i
 | [],i,hi,_,_=>by simp_all
 | a::r,0,_,_,h2=>by simp_all
 | a::r,i+1,hi,h1,h2=>by have A:=h1 0 a (by omega) rfl;rw[List.takeWhile_cons,if_pos A,Xag,apC r i (by grind) (fun c x F E=>h1 (c+1) x (by omega) (by grind)) (fun x E=>h2 x (by grind))]
def aCq{l:List Point}{t:Int}{i:Nat}(A:i<=l.length)(h1:∀c,c<i->(fE l c).t<t)(I:i<l.length->t<=(fE l i).t):bs l t=i:=by
 refine apC l i A (fun c x F E=>?_) (fun x E=>?_)
 all_goals grind[fI]
def afW(l:List Point)(t:Int)(h:TravB l)(ht:0<=t/\t<=1073741824):PC prog 404 [.sl (l.map cG),int t,.v (.func (.func 405) #[] #[])] (.tup [int (bs l t),boo (Ci l t)]):=by
 have hl:=h.len;refine pcd func404 rfl rfl ?_;simp only[go_sem];have T:aE prog 405=true:=by rfl
 refine⟨fun ρ _=>∃i j:Nat,i<=j/\j<=l.length/\ρ 0=.sl (l.map cG)/\ρ 1=int t/\ρ 2=.v (.func (.func 405) #[] #[])/\ρ 8=int l.length/\ρ 9=int i/\ρ 10=int j/\(∀c,c<i->(fE l c).t<t)/\(j<l.length->t<=(fE l j).t),fun ρ _=>aT (ρ 10)-aT (ρ 9),⟨0,l.length,Xaa _,Xae _,rfl,rfl,rfl,rfl,rfl,rfl,fun c hc=>by omega,fun hc=>by omega⟩,?_⟩;rintro ρ H ⟨i,j,ae,hj,h0,h1,Z,h8,h9,J,hz,hy⟩;simp only[go_sem,h9,J];refine aA (fun I=>?_) (fun U=>?_)
 ·have I:i<j:=by grind
  have w1:IntKind.i64.wrap ((i:Int)+(j:Int))=((i+j:Nat):Int):=by grind[aW]
  have w2:IntKind.u64.wrap ((i+j:Nat):Int)=((i+j:Nat):Int):=GI (by omega);have w3:shV .shr .u64 ((i+j:Nat):Int) 1=(((i+j)/2:Nat):Int):=by
   show((i+j:Nat):Int).fdiv (2^min (1:Int).toNat 64)=_
   grind
  have w4:IntKind.i64.wrap (((i+j)/2:Nat):Int)=(((i+j)/2:Nat):Int):=aW (by omega);have Y:(i+j)/2<l.length:=by omega
  generalize af:(i+j)/2=m at w3 w4 Y;have ag:i<=m/\m<j:=by omega
  obtain⟨p,hp⟩:=aK Y;have b1:=inB Y;have aa:=h.pt p (Xab hp);have e:W (p.t-t)=p.t-t:=nT (by omega);simp only[go_sem,h0,h1,Z,h9,J,w1,w2,w3,w4,aC hp,b1,T];refine⟨by decide,PC.use (N6 p t) ?_⟩;simp only[go_sem,e];refine iO (fun A _=>∃O j':Nat,O<=j'/\j'<=l.length/\j'-O<j-i/\A 0=.sl (l.map cG)/\A 1=int t/\A 2=.v (.func (.func 405) #[] #[])/\A 8=int l.length/\A 9=int O/\A 10=int j'/\(∀c,c<O->(fE l c).t<t)/\(j'<l.length->t<=(fE l j').t)) ?_ fun K hK _ _=>aA (fun hb=>?_) (fun hb=>?_)
  ·rintro A H' ⟨O,j',a1,a2,a3,c0,c1,c2,c8,c9,ac,cz,cy⟩;exact⟨⟨O,j',a1,a2,c0,c1,c2,c8,c9,ac,cz,cy⟩,by grind[aJ]⟩
  ·have hb:p.t-t<0:=by grind
   simp only[go_sem,aQ m];refine hK _ _ ⟨m+1,j,by omega,hj,by omega,h0,h1,Z,h8,rfl,J,fun c hc=>?_,hy⟩;have e2:=fI hp;by_cases e3:c=m
   ·grind
   ·have:=Qr h c m (by omega) Y
    grind
  ·have hb:¬p.t-t<0:=by grind
   simp only[go_sem];refine hK _ _ ⟨i,m,by omega,by omega,by omega,h0,h1,Z,h8,h9,rfl,hz,fun _=>?_⟩
   grind[fI]
 ·have U:i=j:=by grind
  subst U;have X:bs l t=i:=aCq hj hz hy;simp only[go_sem,h0,h1,Z,h8,h9,T];have E:decide ((i:Int)<(l.length:Int))=true->(l.map cG).getD i []=cG (fE l i):=fun F=>by grind[fI]
  have ab:decide ((i:Int)<(l.length:Int))=true->0<=(i:Int)/\(i:Int)<(l.length:Int):=fun F=>by grind
  refine⟨fun F=>⟨ab F,by rw[E F];rfl⟩,fun F=>by rw[E F];exact Xae _,int (W ((fE l i).t-t)),fun F=>by rw[E F,Gh];exact(N6 _ t).q rfl,?_⟩;simp only[go_sem];have e:Ci l t=(decide ((i:Int)<(l.length:Int))&&(W ((fE l i).t-t) == 0)):=by
   unfold Ci;rw[X];by_cases I:i<l.length
   ·have aa:=h.pt _ (Xab (aK I).choose_spec)
    grind[fI,nT]
   grind
  rw[X,e];exact .refl _
def aqY(p q:Point)(t:Int):Int:=W (p.a+IntKind.i64.wrap (Int.tdiv (W (W (W (W (t-p.t)*W (q.a-p.a))+W (q.t-p.t))-1)) (W (q.t-p.t))))
def MF(l:List Point)(t:Int):Int:=
 if Ci l t=true then(fE l (bs l t)).a else if((bs l t:Int) == 0)=true then Bj (fE l 0) t
 else if((bs l t:Int) == (l.length:Int))=true then Bj (fE l (bs l t-1)) t else aqY (fE l (bs l t-1)) (fE l (bs l t)) t
def azD(l:List Point)(t:Int):bs l t<=l.length:=by
 have:=congrArg List.length (List.takeWhile_append_dropWhile (p:=fun p:Point=>decide (p.t<t)) (l:=l))
 grind[bs]
def agO(l:List Point)(t:Int)(h:TravB l)(ht:0<=t/\t<=1073741824):PC prog 398 [.sl (l.map cG),int t] (int (MF l t)):=by
 have hl:=h.len;have hb:=azD l t;refine pcd func398 rfl rfl ?_;simp only[go_sem];refine aL (afW l t h ht) ?_;simp only[go_sem];obtain⟨i,hi⟩:∃i,bs l t=i:=⟨_,rfl⟩;have Y:MF l t=if Ci l t=true then(fE l i).a else if((i:Int) == 0)=true then Bj (fE l 0) t else if((i:Int) == (l.length:Int))=true then Bj (fE l (i-1)) t else aqY (fE l (i-1)) (fE l i) t:=by grind[MF]
 rw[hi]at hb |-;rw[Y];apply aA <;> intro h1
 ·have aa:i<l.length:=by grind[Ci]
  obtain⟨p,A⟩:=aK aa;have X:=inB aa;simp only[go_sem,aC A,X];rw[if_pos h1,fI A];exact .refl _
 simp only[go_sem];apply aA <;> intro h2
 ·obtain⟨p,A⟩:=aK (show 0<l.length by omega);simp only[go_sem];refine dC ?_;simp only[go_sem,aC A];rw[if_neg (by grind),if_pos h2,fI A];have b0:(0:Int)<=0/\(0:Int)<(l.length:Int):=by omega
  exact⟨b0,b0,.refl _⟩
 simp only[go_sem];apply aA <;> intro h3
 ·have ab:i≠0:=by grind
  obtain⟨p,A⟩:=aK (show i-1<l.length by omega);simp only[go_sem];refine dC ?_;have w:IntKind.i64.wrap ((i:Int)-1)=((i-1:Nat):Int):=by grind[aW]
  have X:=inB (show i-1<l.length by omega);simp only[go_sem,w,aC A,X];rw[if_neg (by grind),if_neg (by grind),if_pos h3,fI A];exact .refl _
 have ab:i≠0:=by grind
 have ae:i≠l.length:=by grind
 obtain⟨p,A⟩:=aK (show i-1<l.length by omega);obtain⟨q,hq⟩:=aK (show i<l.length by omega);have w:IntKind.i64.wrap ((i:Int)-1)=((i-1:Nat):Int):=by grind[aW]
 have X:=inB (show i-1<l.length by omega);have b2:=inB (show i<l.length by omega);have hm:=(h.mono (i-1) (by omega)).1;rw[show i-1+1=i by omega,fI A,fI hq]at hm;have ah:=h.pt p (Xab A);have ac:=h.pt q (Xab hq);rw[if_neg (by grind),if_neg (by grind),if_neg (by grind),fI A,fI hq];simp only[go_sem];refine xD (fun O H'=>O 1=int t/\∃E F,O 7=.op E 0 0/\O 8=.op F 0 0/\H' E=some (⟨90,2,[cG p]⟩:Row)/\H' F=some (⟨90,2,[cG q]⟩:Row)/\E≠F) ?_ fun K hK=>?_
 ·rintro ρ H ⟨h1,E,F,U,T,R7,R8,I⟩;simp only[go_sem,U,T,R7,R8];refine gS [E,F] [(0,true),(1,true),(2,true),(3,true),(4,true),(5,true),(6,true),(7,true),(8,true),(9,true),(10,true),(11,true),(12,true),(13,true),(14,true),(15,false),(16,false),(17,false),(18,false)] (by grind) (by kernel_rfl) fun Hp J A hr _ ai=>?_
  have P7:=(A E (by simp)).trans R7;have P8:=(A F (by simp)).trans R8;simp only[go_sem,h1,U,T,P7,P8];refine⟨aaH (by omega),dO fun _ Hm _ _=>?_⟩;simp only[go_sem];exact .refl _
 ·refine uB [] (.q 0 (.q 1 (.q 2 (.q 3 (.q 4 (.q 5 (.q 6 (.q 7 (.q 8 (.a2 9 (.a1 10 (.a1 11 (.a1 12 .nil))) 10 (.a1 9 (.a1 11 (.a1 12 .nil))))))))))))) (by simp) (by kernel_rfl) fun Hp J _ ag _ _=>?_
  simp only[go_sem,w,aC A,aC hq,X,b2];have rP:∀{a b:Nat} {G:aM} {z:List AV} {y:List AV},a≠b->G a=some (⟨90,2,[z]⟩:Row)->aI G b (some (⟨90,2,[y]⟩:Row)) a=some (⟨90,2,[z]⟩:Row):=fun af hG=>by grind[aF]
  refine jG ?_ ?_
  ·simp only[go_sem];refine aH fun E U=>?_
   simp only[go_sem];refine aH fun F T=>?_
   have I:=aV (aB _ _ _) T;have Z:=fA (r':=(⟨90,2,[[int 0,int 0]]⟩:Row)) (aB J E (some (⟨90,2,[[int 0,int 0]]⟩:Row))) T;have S8:=aB (aI J E (some (⟨90,2,[[int 0,int 0]]⟩:Row))) F (some (⟨90,2,[[int 0,int 0]]⟩:Row));generalize aI (aI J E _) F _=G at Z S8 |-;simp only[go_sem];refine aG Z (by simp[gH]) ?_;simp only[go_sem];refine aG (rC S8 I.symm) (by simp[gH]) ?_;simp only[go_sem];refine dO fun _ Hm _ hm=>hK _ _ ⟨rfl,E,F,rfl,rfl,?_,?_,I⟩
   all_goals grind[aB]
  ·simp only[go_sem];refine aH fun F T=>?_
   simp only[go_sem];refine aH fun E U=>?_
   have I:=(aV (aB _ _ _) U).symm;have S8:=fA (r':=(⟨90,2,[[int 0,int 0]]⟩:Row)) (aB J F (some (⟨90,2,[[int 0,int 0]]⟩:Row))) U;have Z:=aB (aI J F (some (⟨90,2,[[int 0,int 0]]⟩:Row))) E (some (⟨90,2,[[int 0,int 0]]⟩:Row));generalize aI (aI J F _) E _=G at Z S8 |-;simp only[go_sem];refine aG Z (by simp[gH]) ?_;simp only[go_sem];refine aG (rC S8 I.symm) (by simp[gH]) ?_;simp only[go_sem];refine dO fun _ Hm _ hm=>hK _ _ ⟨rfl,E,F,rfl,rfl,?_,?_,I⟩
   all_goals grind[aB]
def Z3{α:Type}{p:α->Bool}:∀l:List α,(∀c x,c<(l.takeWhile p).length->l[c]?=some x->p x=true)/\(∀x,l[(l.takeWhile p).length]?=some x->p x=false)
 | []=>⟨fun c x h _=>by grind,fun x h=>by grind⟩
 | a::r=>by
  obtain⟨h1,E⟩:=Z3 (p:=p) r;by_cases A:p a=true
  ·simp_all;grind
  simp_all
theorem auT{p:Point}{t:Int}(A:0<=p.t/\p.t<=4096/\p.t<=p.a/\p.a<=p.t+4096)(e:p.t=t):Bj p t=p.a:=by grind[Bj,nT]
theorem auA{p q:Point}{t:Int}(F:0<=p.t/\p.t<=4096/\p.t<=p.a/\p.a<=p.t+4096)(E:0<=q.t/\q.t<=4096/\q.t<=q.a/\q.a<=q.t+4096)(A:p.t<q.t)(e:p.t=t):KQ p q t=p.a:=by
 unfold KQ;subst e;rw[Int.sub_self,show W 0=0 from rfl,Int.zero_mul,show W 0=0 from rfl,Int.zero_add,nT (n:=q.t) (by omega),nT (n:=q.t-p.t) (by omega),nT (n:=q.t-p.t-1) (by omega),
  Xce (by omega),Int.ediv_eq_zero_of_lt (by omega) (by omega)]
 rw[show IntKind.i64.wrap 0=0 from rfl,Int.add_zero,nT (by omega)]
theorem aA4{p q:Point}{t:Int}(J:0<=p.t/\p.t<=4096/\p.t<=p.a/\p.a<=p.t+4096)(U:0<=q.t/\q.t<=4096/\q.t<=q.a/\q.a<=q.t+4096)(O:p.a<=q.a)(h1:p.t<=t)(T:t<q.t):KQ p q t=aqY p q t:=by
 unfold KQ aqY;have I:0<=t-p.t/\t-p.t<=4096:=by omega
 have E:0<=q.a-p.a/\q.a-p.a<=8192:=by omega
 have A:0<=(t-p.t)*(q.a-p.a):=Int.mul_nonneg I.1 E.1;have F:(t-p.t)*(q.a-p.a)<=4096*8192:=Int.mul_le_mul I.2 E.2 E.1 (by omega);rw[nT (n:=t-p.t) (by omega),nT (n:=q.a-p.a) (by omega),nT (n:=(t-p.t)*(q.a-p.a)) (by omega),nT (n:=q.t-p.t) (by omega)];generalize (t-p.t)*(q.a-p.a)=m at A F;rw[nT (n:=m+q.t) (by omega),nT (n:=m+q.t-p.t) (by omega),nT (n:=m+(q.t-p.t)) (by omega),show m+q.t-p.t=m+(q.t-p.t)by omega]
def Wt(l:List Point)(t:Int):Int:=match (List.range (l.length-1)).find? (oH l t)with
 | some k=>KQ (fE l k) (fE l (k+1)) t
 | none=>if decide (t>(fE l 0).t)=true then Bj (fE l (l.length-1)) t else Bj (fE l 0) t
def OO{l:List Point}{t:Int}{k:Nat}(h:(List.range (l.length-1)).find? (oH l t)=some k):Wt l t=KQ (fE l k) (fE l (k+1)) t:=by grind[Wt]
theorem SH{l:List Point}{t:Int}(h:(List.range (l.length-1)).find? (oH l t)=none)(A:t>(fE l 0).t):Wt l t=Bj (fE l (l.length-1)) t:=by unfold Wt;grind
theorem Vc{l:List Point}{t:Int}(h:(List.range (l.length-1)).find? (oH l t)=none)(A:¬t>(fE l 0).t):Wt l t=Bj (fE l 0) t:=by unfold Wt;grind
def aAp{l:List Point}{t:Int}{i:Nat}(A:bs l t=i)(h:i<l.length/\(fE l i).t=t):MF l t=(fE l i).a:=by simp_all[MF,Ci]
def aAY{l:List Point}{t:Int}{i:Nat}(A:bs l t=i)(h:¬(i<l.length/\(fE l i).t=t)):MF l t=if((i:Int) == 0)=true then Bj (fE l 0) t
 else if((i:Int) == (l.length:Int))=true then Bj (fE l (i-1)) t else aqY (fE l (i-1)) (fE l i) t:=by
 unfold MF Ci;grind
theorem ajE{l:List Point}{t:Int}(h:TravB l)(hr:jZ l=[])(ht:0<=t/\t<=1073741824):gZ l t=MF l t:=by
 have hl:=h.len;have hb:=azD l t;obtain⟨ae,aa⟩:=Z3 (p:=fun p:Point=>decide (p.t<t)) l;have X:∀c,c<bs l t->(fE l c).t<t:=fun c J=>by
  obtain⟨x,Z⟩:=aK (show c<l.length by omega);have:=ae c x J Z
  grind[fI]
 have I:bs l t<l.length->t<=(fE l (bs l t)).t:=fun ac=>by
  obtain⟨x,Z⟩:=aK ac;have:=aa x Z
  grind[fI]
 have ag:∀c,c<l.length->0<=(fE l c).t/\(fE l c).t<=4096/\(fE l c).t<=(fE l c).a/\(fE l c).a<=(fE l c).t+4096:=fun c J=>by obtain⟨x,Z⟩:=aK J;rw[fI Z];exact h.pt x (Xab Z)
 unfold gZ;have af:Bg l t=false:=by grind[Bg]
 rw[if_neg (by grind)];show Wt l t=MF l t;obtain⟨i,hi⟩:∃i,bs l t=i:=⟨_,rfl⟩;rw[hi]at hb X I;have A:(∀c,c+1<l.length->oH l t c=false)->(List.range (l.length-1)).find? (oH l t)=none:=fun hn=>DO fun c J=>hn c (by grind)
 have F:∀k,k+1<l.length->(∀c,c<k->oH l t c=false)->oH l t k=true->(List.range (l.length-1)).find? (oH l t)=some k:=fun k hk hn hy=>Fk (k:=k) (fun y aj=>by grind) (kM (by omega)) hy
 have E:∀c,c+1<l.length->(fE l (c+1)).t<=t->oH l t c=false:=fun c _ J=>by grind[oH]
 by_cases O:i<l.length/\(fE l i).t=t
 ·rw[aAp hi O];obtain⟨Y,he⟩:=O;have T:∀c,c+1<l.length->c+1<=i->oH l t c=false:=fun c J ai=>E c J (by grind)
  by_cases U:i+1<l.length
  ·have hm:=h.mono i U;rw[OO (F i U (fun c J=>T c (by omega) (by omega)) (by grind[oH]))]
   grind[auA]
  ·have hn:=A fun c J=>T c J (by omega)
   have ah:i=l.length-1:=by omega
   grind[Vc,auT,SH]
 ·rw[aAY hi O];by_cases h0:i=0
  ·subst h0;have hh:=I (by omega);have ab:(fE l 0).t≠t:=fun e=>O ⟨by omega,e⟩
   rw[Vc (A fun c J=>by
    have:(fE l 0).t<=(fE l c).t:=by
     by_cases e:c=0
     ·grind
     ·have:=Qr h 0 c (by omega) (by omega);omega
    grind[oH]) (by omega),if_pos (by simp)]
  ·rw[if_neg (by grind)];by_cases hn:i=l.length
   ·have:=X 0 (by omega);rw[SH (A fun c J=>E c J (by grind)) this,if_pos (by grind),hn]
   ·have Y:i<l.length:=by omega
    have hh:=I Y;have ab:(fE l i).t≠t:=fun e=>O ⟨Y,e⟩
    have ak:=X (i-1) (by omega);have e1:i-1+1=i:=by omega
    rw[OO (F (i-1) (by omega) (fun c J=>E c (by omega) (by grind)) (by grind[oH])),if_neg (by grind)];rw[e1];have hm:=h.mono (i-1) (by omega)
    grind[aA4]
def ahT(l:List Point)(t:Int)(F:jZ l=[]):PC prog 381 [.sl (l.map cG),int t] (int (gZ l t)):=by
 have h:=Q7 F;refine pcd func381 rfl rfl ?_;simp only[go_sem];refine aL (Tt _ _ _) ?_;simp only[go_sem];refine⟨_,fun _=>(FL l h).q rfl,?_⟩;simp only[go_sem];have A:Bg l t=(!(decide (t>=0)&&decide (t<=1073741824))|| !true):=by unfold Bg;grind
 rw[<-A];apply aA <;> intro I
 ·simp only[go_sem];simp_all[bS,gZ]
 have E:0<=t/\t<=1073741824:=by grind
 simp only[go_sem];refine aL (agO l t h E) ?_;simp only[go_sem]
 grind[bS,ajE]
def VL(n:Network)(i:Int):PC prog 355 [.agg (bH n),int i] (boo (JN n i)):=by refine pcd func355 rfl rfl ?_;simp only[go_sem];exact .refl _
def Tw(a:Arc):List AV:=[int a.src,int a.dst,int a.o6]
def awV(a:Arc):PC prog 380 [.agg (fL a)] (.agg (Tw a)):=by
 refine pcb (fun t=>t == 2) func380 rfl rfl ?_;simp only[go_sem];refine aH fun j A=>?_
 simp only[go_sem];refine aG (aB _ _ _) (by simp) ?_;simp only[go_sem];exact .refl _
structure NetOk(n:Network):Prop where
 o9:n.o9.length<=1048576
 eP:∀a∈n.o9,jZ a.eP=[]
 ξ:∀a∈n.o9,a.ξ.length<=1048576
def Yw(a:Arc)(t:Int)(ha:jZ a.eP=[])(aa:a.ξ.length<=1048576):PC prog 357 [.agg (fL a),int t] (int (uR a t)):=by
 refine pcd func357 rfl rfl ?_;simp only[go_sem];refine aL (ahT a.eP t ha) ?_;simp only[go_sem];refine⟨fun ρ _=>∃k:Nat,k<=a.ξ.length/\ρ 1=int t/\ρ 13=.sl (a.ξ.map cG)/\ρ 14=int a.ξ.length/\ρ 5=int ((a.ξ.take k).foldl (pX t) (gZ a.eP t))/\ρ 15=int k,fun ρ _=>a.ξ.length-aT (ρ 15),⟨0,Xaa _,rfl,rfl,rfl,rfl,rfl⟩,?_⟩;rintro ρ H ⟨k,hk,h1,F,E,U,A⟩;simp only[go_sem,E,A];refine aA (fun I=>?_) (fun T=>?_)
 ·have I:=aX I;obtain⟨p,hp⟩:=aK I;have b1:=inB I;have hs:(a.ξ.take (k+1)).foldl (pX t) (gZ a.eP t)=pX t ((a.ξ.take k).foldl (pX t) (gZ a.eP t)) p:=by simp_all[aY]
  simp only[go_sem,F,A,aC hp,b1];refine aH fun Y X=>?_
  simp only[go_sem];refine aG (aB _ _ _) (by simp[gH]) ?_;generalize O:aI (aI _ Y _) Y _=HGi7;have R7:HGi7 Y=some (⟨90,2,[cG p]⟩):=by rw[<-O,aB];rfl
  clear O X;simp only[go_sem,h1,R7];refine iO (fun J _=>J 1=int t/\J 13=.sl (a.ξ.map cG)/\J 14=int a.ξ.length/\J 5=int ((a.ξ.take (k+1)).foldl (pX t) (gZ a.eP t))/\J 15=int k) ?_ fun K Z _ _=>aA (fun hb=>?_) (fun hb=>?_)
  ·clear h1 F E U A;rintro ρ H ⟨h1,F,E,U,A⟩;simp only[go_sem,h1,F,E,U,A,aQ k];exact⟨⟨k+1,I,rfl,rfl⟩,msr I⟩
  ·simp only[go_sem,U,R7];refine Z _ _ ⟨h1,F,E,?_,A⟩;simp only[go_sem];rw[hs,pX,if_pos hb];rfl
  ·simp only[go_sem];refine Z _ _ ⟨h1,F,E,?_,A⟩;simp only[go_sem,U];simp_all[pX]
 ·have T:=aZ hk T;subst T;simp only[go_sem,U];rw[Xad];exact .refl _
def ayJ(n:Network)(p f t:Int)(hl:n.o9.length<=1048576):PC prog 356 [.agg (bH n),int p,int f,int t] (.tup [.agg (fL ((qQ n p f t).getD DC)),boo (qQ n p f t).isSome]):=by
 refine pcd func356 rfl rfl ?_;simp only[go_sem];refine aH fun j8 ai=>?_
 generalize aa:aI _ j8 _=HGj8;have R8:HGj8 j8=some (⟨93,6,[fL DC]⟩):=by rw[<-aa,aB];rfl
 clear aa ai;simp only[go_sem];refine aH fun I Z=>?_
 have E:j8≠I:=aV R8 Z;simp only[go_sem];refine aG (aB _ _ _) (by simp[]) ?_;generalize X:aI (aI _ I _) I _=HGj10;replace R8:=kpR X E E R8;have U:HGj10 I=some (⟨392,3,[[int f,int t,int p]]⟩):=by rw[<-X,aB];rfl
 clear X Z;simp only[go_sem];refine⟨fun ρ H=>∃k:Nat,k<=n.o9.length/\ρ 8=.op j8 0 0/\ρ 10=.op I 0 0/\ρ 18=.sl (n.o9.map fL)/\ρ 19=int n.o9.length/\ρ 20=int k/\H j8=some (⟨93,6,[fL DC]⟩:Row)/\H I=some (⟨392,3,[[int f,int t,int p]]⟩:Row)/\∀a∈n.o9.take k,Ml p f t a=false,fun ρ _=>n.o9.length-aT (ρ 20),⟨0,Xaa _,rfl,rfl,rfl,rfl,rfl,R8,U,by simp⟩,?_⟩;clear R8 U;rintro ρ H ⟨k,hk,h8,aj,ak,ah,ab,R8,U,hz⟩;simp only[go_sem,ah,ab];refine aA (fun Y=>?_) (fun ac=>?_)
 ·have Y:=aX Y;obtain⟨a,ae⟩:=aK Y;have b1:=inB Y;simp only[go_sem,ak,ab,aC ae,b1];refine aH fun O T=>?_
  have F:j8≠O:=aV R8 T;have A:I≠O:=aV U T;simp only[go_sem];refine aG (aB _ _ _) (by simp[jR]) ?_;generalize J:aI (aI _ O _) O _=HGi12;replace R8:=kpR J F F R8;replace U:=kpR J A A U;have af:HGi12 O=some (⟨93,6,[fL a]⟩):=by rw[<-J,aB];rfl
  clear J T;simp only[go_sem];refine gS [O] [(0,true),(1,true),(2,false),(3,false)] (by grind) (by kernel_rfl) fun Hp Hr hp hr _ aq=>?_
  have ao:=(hp O (by simp)).trans af;have ag:=(hr I (by grind)).trans U;simp only[go_sem,ao];refine⟨_,(awV a).q rfl,?_⟩;simp only[go_sem,aj,ag,Tw];refine dO fun _ Hm am al=>?_
  have M8:Hm j8=some (⟨93,6,[fL DC]⟩:Row):=by grind
  have ap:=(am O (by simp)).trans af;have an:Hm I=_:=(al I (by grind)).trans ag;simp only[go_sem];have ea:(a.src == f&&(a.dst == t&&(a.o6 == p&&true)))=Ml p f t a:=by simp[Ml,Bool.and_assoc]
  rw[ea];apply aA <;> intro hb
  ·simp only[go_sem,h8,ap];refine aG M8 (by simp[jR]) ?_;simp only[go_sem,h8,jR];have:qQ n p f t=some a:=Fk hz ae hb;rw[this];exact .refl _
  ·simp only[go_sem,h8,aj,ak,ah,ab,aQ k];exact⟨⟨k+1,Y,rfl,M8,an,aS (p:=fun a=>Ml p f t a=false) ae hb hz⟩,msr Y⟩
 ·have ac:=aZ hk ac;subst ac;rw[Xad]at hz;simp only[go_sem,h8];refine aG R8 (by simp) ?_;simp only[go_sem,h8];have:qQ n p f t=none:=DO hz;rw[this];exact .refl _
def ajF(n:Network)(p f t time:Int)(O:NetOk n):PC prog 318 [.agg (bH n),int p,int f,int t,int time] (.tup [int (gI n p f t time).1,int (gI n p f t time).2.1,int (gI n p f t time).2.2]):=by
 refine pcd func318 rfl rfl ?_;simp only[go_sem];refine aL (VL n f) ?_;simp only[go_sem];refine⟨_,fun _=>(VL n t).q rfl,?_⟩;simp only[go_sem];apply aA <;> intro h1
 ·simp only[go_sem];have:gI n p f t time=(0,0,11):=by simp_all[gI]
  rw[this];exact .refl _
 simp only[go_sem];apply aA <;> intro Y
 ·simp only[go_sem];have:gI n p f t time=(time,0,0):=by simp_all[gI]
  rw[this];exact .refl _
 have X:gI n p f t time=match qQ n p f t with|some a=>(uR a time,a.o7,0)|none=>(0,0,12):=by unfold gI;grind
 rw[X];simp only[go_sem];refine aL (ayJ n p f t O.o9) ?_;simp only[go_sem];refine aH fun F E=>?_
 simp only[go_sem];refine aG (aB _ _ _) (by simp[jR]) ?_;generalize A:aI (aI _ F _) F _=HGj13;have I:HGj13 F=some (⟨93,6,[fL ((qQ n p f t).getD DC)]⟩):=by rw[<-A,aB];rfl
 clear A E;simp only[go_sem];cases U:qQ n p f t with
 | none=>refine aA (fun _=>?_) (fun T=>by simp at T);simp only[go_sem];exact .refl _
 | some a=>have J:=List.mem_of_find?_eq_some U;refine aA (fun T=>by simp at T) (fun _=>?_);rw[U]at I;simp only[go_sem,Xbb];refine dC ?_;simp only[go_sem,Xbb,I];refine⟨_,(Yw a time (O.eP a J) (O.ξ a J)).q rfl,?_⟩;simp only[go_sem,Xbb,I];exact .refl _
def Zy(s:Stop)(a:Int):PC prog 351 [.agg (eT s),int a] (.tup [int (if fX a s.start>s.close then 0 else fX a s.start),int (if fX a s.start>s.close then 14 else 0)]):=by
 refine pcd func351 rfl rfl ?_;simp only[go_sem];apply aA <;> intro A
 ·have A:fX a s.start>s.close:=by grind
  simp only[go_sem];rw[if_pos A,if_pos A];exact .refl _
 ·have A:¬fX a s.start>s.close:=by grind
  simp only[go_sem];rw[if_neg A,if_neg A];exact .refl _
end Go.Proofs.YtkfhgjihlbilpaaGreatDoor.Sq
