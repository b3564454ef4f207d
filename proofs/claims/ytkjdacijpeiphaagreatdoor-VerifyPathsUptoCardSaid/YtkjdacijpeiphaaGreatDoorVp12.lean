import Derived.Test.YtkjdacijpeiphaaGreatDoorVp11
set_option linter.unusedSimpArgs false
set_option linter.unusedVariables false
set_option linter.defProp false
set_option maxRecDepth 100000
namespace Go.Proofs.YtkjdacijpeiphaaGreatDoor.Sq
open Go.Proofs.Tryz
open Go.Aw Go.Aw.D Go.Proofs Ty
open Mv (bP cK aR)
def YT{H:aG}{a b:ByteArray}(h:a=b):Conv H (.v (.string a)) (.v (.string b)):=h▸.refl _
def W0(n:Nat)(J:n<20):PC prog 228 [int n] (str (CS n)):=by
 refine pcd func228 rfl rfl ?_;simp only[go_sem];refine aA (fun E=>?_) (fun E=>?_)
 ·simp only[go_sem,aT n];have A:n=0\/n=1\/n=2\/n=3\/n=4\/n=5\/n=6\/n=7\/n=8\/n=9:=by simp at E;omega
  rcases A with rfl|rfl|rfl|rfl|rfl|rfl|rfl|rfl|rfl|rfl <;> exact⟨by decide,YT (by rw[Gk (by omega)];rfl)⟩
 ·have F:10<=n:=by simp at E;omega
  have w1:IntKind.i64.wrap ((n:Int)*2)=((n*2:Nat):Int):=by rw[bE (by omega)];omega
  have I:IntKind.i64.wrap (((n*2:Nat):Int)+2)=((n*2+2:Nat):Int):=by rw[bE (by omega)];omega
  simp only[go_sem,w1,I];have A:n=10\/n=11\/n=12\/n=13\/n=14\/n=15\/n=16\/n=17\/n=18\/n=19:=by omega
  rcases A with rfl|rfl|rfl|rfl|rfl|rfl|rfl|rfl|rfl|rfl <;> exact⟨by decide,YT (by rw[QY (by omega),Gk (by omega)];rfl)⟩
def Ki(n:Nat)(E:n<20):PC prog 209 [int n,int 10] (str (CS n)):=by refine pcd func209 rfl rfl ?_;simp only[go_sem];refine aA (fun _=>?_) (fun A=>by simp at A);simp only[go_sem];refine aA (fun A=>?_) (fun A=>by simp at A;omega);simp only[go_sem];refine aP (W0 n E) ?_;simp only[go_sem];exact .refl _
def Yp(n:Nat)(A:n<20):PC prog 182 [int n] (str (CS n)):=by refine pcd func182 rfl rfl ?_;simp only[go_sem];refine aP (Ki n A) ?_;simp only[go_sem];exact .refl _
def Og(n:Nat)(A:n<20):PC prog 140 [int n] (str (CS n)):=by refine pcd func140 rfl rfl ?_;simp only[go_sem];refine aP (Yp n A) ?_;simp only[go_sem];exact .refl _
def pJ{n:Int}(h: -9223372036854775808<=n/\n<=9223372036854775807):W n=n:=bE h
def Jp(n a b:Int):PC prog 247 [int n,int a,int b] (boo (decide (n>=a)&&decide (n<=b))):=by refine pcd func247 rfl rfl ?_;simp only[go_sem];exact .refl _
structure TravB(l:List Point):Prop where
 len:1<=l.length/\l.length<=16
 pt:∀p∈l,0<=p.t/\p.t<=4096/\p.t<=p.a/\p.a<=p.t+4096
 mono:∀i,i+1<l.length->(dF l i).t<(dF l (i+1)).t/\(dF l i).a<=(dF l (i+1)).a
def IF{α:Type}{b:Bool}{f:α}(h:opt b f=[]):b=false:=by
 cases b with
 | false=>rfl
 | true=>simp[opt]at h
def WP{l:List Point}(h:qV l=[]):TravB l:=by
 unfold qV at h;rw[List.append_eq_nil_iff]at h;have h1:=IF h.1;unfold VZ at h1;simp only[Xaj,decide_eq_false_iff_not]at h1;have F:∀i,i<l.length->qD l i=[]:=fun i E=>List.flatMap_eq_nil_iff.1 h.2 i (Xba.2 E)
 have J:∀p∈l,0<=p.t/\p.t<=4096/\p.t<=p.a/\p.a<=p.t+4096:=fun p I=>by obtain⟨i,E,rfl⟩:=List.getElem_of_mem I;have:=F i E;unfold qD at this;rw[List.append_eq_nil_iff]at this;have A:=IF this.1;rw[eK (List.getElem?_eq_getElem E)]at A;unfold K6 at A;simp only[Xaj,decide_eq_false_iff_not]at A;have w:=bE (n:=l[i].t+4096) (by omega);omega
 refine⟨by omega,J,fun i E=>?_⟩;have:=F (i+1) E;unfold qD at this;rw[List.append_eq_nil_iff]at this;have A:=IF this.2;unfold UP at A;have e:i+1-1=i:=rfl;rw[e]at A;simp at A;exact A
def IH{l:List Point}(h:TravB l):∀(i j:Nat),i<j->j<l.length->(dF l i).t<(dF l j).t
 | i,0,hij,_=>by omega
 | i,j+1,hij,hj=>by
  have h1:=(h.mono j hj).1;by_cases e:i=j
  ·subst e;exact h1
  ·have:=IH h i j (by omega) (by omega);omega
def U9(l:List Point)(h:TravB l):PC prog 253 [.sl (l.map cT)] (.sl []):=by
 have hl:=h.len;refine pcd func253 rfl rfl ?_;simp only[go_sem];refine aA (fun O=>by exfalso;simp only[Bool.or_eq_true,beq_iff_eq,decide_eq_true_eq]at O;omega) (fun _=>?_);simp only[go_sem];refine⟨fun ρ _=>∃k:Nat,k<=l.length/\ρ 0=.sl (l.map cT)/\ρ 19=.sl (l.map cT)/\ρ 20=int l.length/\ρ 21=int k/\ρ 3=.sl [],fun ρ _=>l.length-aU (ρ 21),⟨0,Xab _,rfl,rfl,rfl,rfl,rfl⟩,?_⟩;rintro ρ H ⟨k,hk,h0,F,A,E,I⟩;simp only[go_sem,h0,F,A,E,I];refine aA (fun J=>?_) (fun ae=>?_)
 ·have J:=bU J;obtain⟨p,hp⟩:=aO J;have b1:=inB J;have ab:=h.pt p (Xac hp);simp only[go_sem,h0,F,A,E,I,aC hp,b1];refine aJ fun Y U=>?_
  simp only[go_sem,h0,F,A,E,I];refine aN (aB _ _ _) (by simp[gI]) ?_;generalize M:aI (aI _ Y _) Y _=HGi5;have T:HGi5 Y=some (⟨65,2,[cT p]⟩):=by rw[<-M,aB];rfl
  clear M U;simp only[go_sem,h0,F,A,E,I,T];refine aP (Og k (by omega)) ?_;simp only[go_sem,h0,F,A,E,I,T];refine aP (Jp _ _ _) ?_;simp only[go_sem,h0,F,A,E,I,T];have w:=bE (n:=p.t+4096) (by omega);refine aA (fun O=>by exfalso;rw[w]at O;simp at O;omega) (fun _=>?_);simp only[go_sem,h0,F,A,E,I,T];refine fW [Y] [(0,false),(1,false),(2,false),(3,true),(4,true),(5,true),(6,false),(7,false),(8,false),(9,false),(10,false),(11,false),(12,false),(13,true),(14,true),(15,true),(16,false),(17,false),(18,false),(19,false),(20,false),(21,false),(22,false),(23,false)] (by simp[T]) (by kernel_rfl) fun Hp Hr Z hr _ aa=>?_
  have P5:=(Z Y (by simp)).trans T;obtain⟨q,hq⟩:=aO (show k-1<l.length by omega);have X:decide ((k:Int)>0)=true->(0<=IntKind.i64.wrap ((k:Int)-1)/\IntKind.i64.wrap ((k:Int)-1)<(l.length:Int)):=fun hg=>by simp at hg;rw[Aq (show k<=4611686018427387904 by omega)];omega
  simp only[go_sem,h0,F,A,E,I,P5,acA (show k<=4611686018427387904 by omega),aC hq];refine⟨X,fun hg=>X hg.1,dN fun _ Hm _ _=>?_⟩;simp only[go_sem,h0,F,A,E,I];have hm:0<k->q.t<p.t/\q.a<=p.a:=fun ac=>by have:=h.mono (k-1) (by omega);rw[show k-1+1=k by omega,eK hp,eK hq]at this;exact this
  refine aA (fun O=>?_) (fun _=>?_)
  ·exfalso;simp only[Bool.or_eq_true,Xap,decide_eq_true_eq]at O;have:=hm (by omega);omega
  simp only[go_sem,h0,F,A,E,I,aT k];exact⟨⟨k+1,J,rfl⟩,by simp only[aF];omega⟩
 ·simp only[go_sem,I];exact .refl _
def WS(l:List Point)(h:TravB l):PC prog 248 [.sl (l.map cT)] (boo true):=by refine pcd func248 rfl rfl ?_;simp only[go_sem];refine aP (U9 l h) ?_;simp only[go_sem];exact .refl _
def FU(p:Point)(t:Int):PC prog 255 [.agg (cT p),int t] (int (W (p.t-t))):=by refine pcd func255 rfl rfl ?_;simp only[go_sem];exact .refl _
def bs(l:List Point)(t:Int):Nat:=(l.takeWhile fun p=>decide (p.t<t)).length
def vO(l:List Point)(t:Int):Bool:=decide ((bs l t:Int)<(l.length:Int))&&((dF l (bs l t)).t-t == 0)
def Uh{α:Type}{p:α->Bool}:∀(l:List α) (i:Nat),i<=l.length->(∀c x,c<i->l[c]?=some x->p x=true)->(∀x,l[i]?=some x->p x=false)->(l.takeWhile p).length=i
 | [],i,hi,_,_=>by simp at hi;simp[hi]
 | a::r,0,_,_,h2=>by have:=h2 a rfl;simp[List.takeWhile,this]
 | a::r,i+1,hi,h1,h2=>by have E:=h1 0 a (by omega) rfl;rw[List.takeWhile_cons,if_pos E,Xae,Uh r i (by simpa using hi) (fun c x F A=>h1 (c+1) x (by omega) (by simpa using A)) (fun x A=>h2 x (by simpa using A))]
def abC{l:List Point}{t:Int}{i:Nat}(I:i<=l.length)(h1:∀c,c<i->(dF l c).t<t)(E:i<l.length->t<=(dF l i).t):bs l t=i:=by
 refine Uh l i I (fun c x F A=>?_) (fun x A=>?_)
 ·have:=h1 c F;rw[eK A]at this;simpa using this
 ·have:=E (List.getElem?_eq_some_iff.1 A).1;rw[eK A]at this;simp;omega
def Sy(l:List Point)(t:Int)(h:TravB l)(ht:0<=t/\t<=1073741824):PC prog 254 [.sl (l.map cT),int t,.v (.func (.func 255) #[] #[])] (.tup [int (bs l t),boo (vO l t)]):=by
 have hl:=h.len;refine pcd func254 rfl rfl ?_;simp only[go_sem];have ac:aH prog 255=true:=by kernel_rfl
 refine⟨fun ρ _=>∃i j:Nat,i<=j/\j<=l.length/\ρ 0=.sl (l.map cT)/\ρ 1=int t/\ρ 2=.v (.func (.func 255) #[] #[])/\ρ 8=int l.length/\ρ 9=int i/\ρ 10=int j/\(∀c,c<i->(dF l c).t<t)/\(j<l.length->t<=(dF l j).t),fun ρ _=>aU (ρ 10)-aU (ρ 9),⟨0,l.length,Xab _,Xaf _,rfl,rfl,rfl,rfl,rfl,rfl,fun c hc=>by omega,fun hc=>by omega⟩,?_⟩;rintro ρ H ⟨i,j,af,hj,h0,h1,M,O,T,A,hz,hy⟩;simp only[go_sem,h0,h1,M,O,T,A];refine aA (fun E=>?_) (fun U=>?_)
 ·have E:i<j:=by simp at E;omega
  have w1:IntKind.i64.wrap ((i:Int)+(j:Int))=((i+j:Nat):Int):=by rw[bE (by omega)];omega
  have w2:IntKind.u64.wrap ((i+j:Nat):Int)=((i+j:Nat):Int):=BG (by omega);have w3:shV .shr .u64 ((i+j:Nat):Int) 1=(((i+j)/2:Nat):Int):=by show((i+j:Nat):Int).fdiv (2^min (1:Int).toNat 64)=_;rw[Int.fdiv_eq_ediv_of_nonneg _ (by decide)];rfl
  have w4:IntKind.i64.wrap (((i+j)/2:Nat):Int)=(((i+j)/2:Nat):Int):=bE (by omega);have hm:(i+j)/2<l.length:=by omega
  generalize ah:(i+j)/2=m at w3 w4 hm;have ag:i<=m/\m<j:=by omega
  obtain⟨p,X⟩:=aO hm;have b1:=inB hm;have Z:=h.pt p (Xac X);have e:W (p.t-t)=p.t-t:=pJ (by omega);simp only[go_sem,h0,h1,M,O,T,A,w1,w2,w3,w4,aC X,b1,ac];refine⟨by decide,PC.use (FU p t) ?_⟩;simp only[go_sem,h0,h1,M,O,T,A,e];refine Cq (fun F _=>∃Y j':Nat,Y<=j'/\j'<=l.length/\j'-Y<j-i/\F 0=.sl (l.map cT)/\F 1=int t/\F 2=.v (.func (.func 255) #[] #[])/\F 8=int l.length/\F 9=int Y/\F 10=int j'/\(∀c,c<Y->(dF l c).t<t)/\(j'<l.length->t<=(dF l j').t)) ?_ fun K hK _ _=>aA (fun hb=>?_) (fun hb=>?_)
  ·rintro F H' ⟨Y,j',a1,a2,a3,c0,c1,c2,c8,c9,aa,cz,cy⟩;exact⟨⟨Y,j',a1,a2,c0,c1,c2,c8,c9,aa,cz,cy⟩,by rw[c9,aa];simp only[aF];omega⟩
  ·have hb:p.t-t<0:=by simpa using hb
   simp only[go_sem,h0,h1,M,O,T,A,aT m];refine hK _ _ ⟨m+1,j,by omega,hj,by omega,by simp only[go_sem,h0],by simp only[go_sem,h1],by simp only[go_sem,M],by simp only[go_sem,O],by simp only[go_sem],by simp only[go_sem,A],fun c hc=>?_,hy⟩;have e2:=eK X;by_cases e3:c=m
   ·subst e3;rw[e2];omega
   ·have:=IH h c m (by omega) hm;rw[e2]at this;omega
  ·have hb:¬p.t-t<0:=by simpa using hb
   simp only[go_sem,h0,h1,M,O,T,A];refine hK _ _ ⟨i,m,by omega,by omega,by omega,by simp only[go_sem,h0],by simp only[go_sem,h1],by simp only[go_sem,M],by simp only[go_sem,O],by simp only[go_sem,T],by simp only[go_sem],hz,fun _=>?_⟩;rw[eK X];omega
 ·have U:i=j:=by simp at U;omega
  subst U;have ab:bs l t=i:=abC hj hz hy;simp only[go_sem,h0,h1,M,O,T,A,ac];have I:decide ((i:Int)<(l.length:Int))=true->(l.map cT).getD i []=cT (dF l i):=fun J=>by
   have E:i<l.length:=by simp at J;omega
   obtain⟨p,X⟩:=aO E;rw[aC X,eK X]
  have ae:decide ((i:Int)<(l.length:Int))=true->0<=(i:Int)/\(i:Int)<(l.length:Int):=fun J=>by simp at J;omega
  refine⟨fun J=>⟨ae J,by rw[I J];rfl⟩,fun J=>by rw[I J];exact Xaf _,int (W ((dF l i).t-t)),fun J=>by rw[I J,AY];exact(FU _ t).q rfl,?_⟩;simp only[go_sem];have e:vO l t=(decide ((i:Int)<(l.length:Int))&&(W ((dF l i).t-t) == 0)):=by
   unfold vO;rw[ab];by_cases E:i<l.length
   ·have Z:=h.pt _ (Xac (aO E).choose_spec);rw[<-eK (aO E).choose_spec]at Z;rw[pJ (by omega)]
   ·have:decide ((i:Int)<(l.length:Int))=false:=by simp;omega
    rw[this];rfl
  rw[ab,e];exact .refl _
def VP(p q:Point)(t:Int):Int:=W (p.a+IntKind.i64.wrap (Int.tdiv (W (W (W (W (t-p.t)*W (q.a-p.a))+W (q.t-p.t))-1)) (W (q.t-p.t))))
def EY(l:List Point)(t:Int):Int:=
 if vO l t=true then(dF l (bs l t)).a else if((bs l t:Int) == 0)=true then AE (dF l 0) t
 else if((bs l t:Int) == (l.length:Int))=true then AE (dF l (bs l t-1)) t else VP (dF l (bs l t-1)) (dF l (bs l t)) t
def Za(l:List Point)(t:Int):bs l t<=l.length:=by have:=congrArg List.length (List.takeWhile_append_dropWhile (p:=fun p:Point=>decide (p.t<t)) (l:=l));rw[Xai]at this;unfold bs;omega
def QP(l:List Point)(t:Int)(h:TravB l)(ht:0<=t/\t<=1073741824):PC prog 249 [.sl (l.map cT),int t] (int (EY l t)):=by
 have hl:=h.len;have hb:=Za l t;refine pcd func249 rfl rfl ?_;simp only[go_sem];refine aP (Sy l t h ht) ?_;simp only[go_sem];obtain⟨i,hi⟩:∃i,bs l t=i:=⟨_,rfl⟩;have ab:EY l t=if vO l t=true then(dF l i).a else if((i:Int) == 0)=true then AE (dF l 0) t else if((i:Int) == (l.length:Int))=true then AE (dF l (i-1)) t else VP (dF l (i-1)) (dF l i) t:=by unfold EY;rw[hi]
 rw[hi]at hb |-;rw[ab];refine aA (fun h1=>?_) (fun h1=>?_)
 ·have aa:i<l.length:=by unfold vO at h1;rw[hi]at h1;simp at h1;omega
  obtain⟨p,I⟩:=aO aa;have Y:=inB aa;simp only[go_sem,aC I,Y];rw[if_pos h1,eK I];exact .refl _
 simp only[go_sem];refine aA (fun T=>?_) (fun T=>?_)
 ·obtain⟨p,I⟩:=aO (show 0<l.length by omega);simp only[go_sem];refine dD (by rfl) (by kernel_rfl) ?_;simp only[go_sem,aC I];rw[if_neg (by rw[h1];simp),if_pos T,eK I];have b0:(0:Int)<=0/\(0:Int)<(l.length:Int):=by omega
  exact⟨b0,b0,.refl _⟩
 simp only[go_sem];refine aA (fun h3=>?_) (fun h3=>?_)
 ·have ac:i≠0:=by simpa using T
  obtain⟨p,I⟩:=aO (show i-1<l.length by omega);simp only[go_sem];refine dD (by rfl) (by kernel_rfl) ?_;have w:IntKind.i64.wrap ((i:Int)-1)=((i-1:Nat):Int):=by rw[bE (by omega)];omega
  have Y:=inB (show i-1<l.length by omega);simp only[go_sem,w,aC I,Y];rw[if_neg (by rw[h1];simp),if_neg (by rw[T];simp),if_pos h3,eK I];exact .refl _
 have ac:i≠0:=by simpa using T
 have ai:i≠l.length:=by simp at h3;omega
 obtain⟨p,I⟩:=aO (show i-1<l.length by omega);obtain⟨q,hq⟩:=aO (show i<l.length by omega);have w:IntKind.i64.wrap ((i:Int)-1)=((i-1:Nat):Int):=by rw[bE (by omega)];omega
 have Y:=inB (show i-1<l.length by omega);have b2:=inB (show i<l.length by omega);have J:=(h.mono (i-1) (by omega)).1;rw[show i-1+1=i by omega,eK I,eK hq]at J;have ah:=h.pt p (Xac I);have ag:=h.pt q (Xac hq);rw[if_neg (by rw[h1];simp),if_neg (by rw[T];simp),if_neg (by rw[h3];simp),eK I,eK hq];simp only[go_sem];refine yY (fun M H'=>M 1=int t/\∃E A,M 7=.op E 0 0/\M 8=.op A 0 0/\H' E=some (⟨65,2,[cT p]⟩:Row)/\H' A=some (⟨65,2,[cT q]⟩:Row)/\E≠A) ?_ fun K hK=>?_
 ·rintro ρ H ⟨h1,E,A,U,X,R7,R8,F⟩;simp only[go_sem,h1,U,X,R7,R8];refine fW [E,A] [(0,true),(1,true),(2,true),(3,true),(4,true),(5,true),(6,true),(7,true),(8,true),(9,true),(10,true),(11,true),(12,true),(13,true),(14,true),(15,false),(16,false),(17,false),(18,false)] (by simp[R7,R8]) (by kernel_rfl) fun Hp O I hr _ af=>?_
  have P7:=(I E (by simp)).trans R7;have P8:=(I A (by simp)).trans R8;simp only[go_sem,h1,U,X,P7,P8];refine⟨XS (by omega),dN fun _ Hm _ _=>?_⟩;simp only[go_sem];exact .refl _
 ·refine xE [] (.q 0 (.q 1 (.q 2 (.q 3 (.q 4 (.q 5 (.q 6 (.q 7 (.q 8 (.a2 9 (.a1 10 (.a1 11 (.a1 12 .nil))) 10 (.a1 9 (.a1 11 (.a1 12 .nil))))))))))))) (by simp) (by kernel_rfl) fun Hp O _ aj _ _=>?_
  simp only[go_sem,w,aC I,aC hq,Y,b2];have rP:∀{a b:Nat} {G:aG} {z:List AV} {y:List AV},a≠b->G a=some (⟨65,2,[z]⟩:Row)->aI G b (some (⟨65,2,[y]⟩:Row)) a=some (⟨65,2,[z]⟩:Row):=fun ae hG=>by rw[aD _ _ _ _ ae];exact hG
  refine iB ?_ ?_
  ·simp only[go_sem];refine aJ fun E U=>?_
   simp only[go_sem];refine aJ fun A X=>?_
   have F:=bC (aB _ _ _) X;have Z:=nA (r':=(⟨65,2,[[int 0,int 0]]⟩:Row)) (aB O E (some (⟨65,2,[[int 0,int 0]]⟩:Row))) X;have S8:=aB (aI O E (some (⟨65,2,[[int 0,int 0]]⟩:Row))) A (some (⟨65,2,[[int 0,int 0]]⟩:Row));generalize aI (aI O E _) A _=G at Z S8 |-;simp only[go_sem];refine aN Z (by simp[gI]) ?_;simp only[go_sem];refine aN (YV S8 F.symm) (by simp[gI]) ?_;simp only[go_sem];refine dN fun _ Hm _ J=>hK _ _ ⟨by simp only[go_sem],E,A,by simp only[go_sem],by simp only[go_sem],?_,?_,F⟩
   ·rw[J E (by simp),aD _ _ _ _ F,aB]
   ·rw[J A (by simp),aB]
  ·simp only[go_sem];refine aJ fun A X=>?_
   simp only[go_sem];refine aJ fun E U=>?_
   have F:=(bC (aB _ _ _) U).symm;have S8:=nA (r':=(⟨65,2,[[int 0,int 0]]⟩:Row)) (aB O A (some (⟨65,2,[[int 0,int 0]]⟩:Row))) U;have Z:=aB (aI O A (some (⟨65,2,[[int 0,int 0]]⟩:Row))) E (some (⟨65,2,[[int 0,int 0]]⟩:Row));generalize aI (aI O A _) E _=G at Z S8 |-;simp only[go_sem];refine aN Z (by simp[gI]) ?_;simp only[go_sem];refine aN (YV S8 F.symm) (by simp[gI]) ?_;simp only[go_sem];refine dN fun _ Hm _ J=>hK _ _ ⟨by simp only[go_sem],E,A,by simp only[go_sem],by simp only[go_sem],?_,?_,F⟩
   ·rw[J E (by simp),aD _ _ _ _ F,aB]
   ·rw[J A (by simp),aB]
def PG{α:Type}{p:α->Bool}:∀l:List α,(∀c x,c<(l.takeWhile p).length->l[c]?=some x->p x=true)/\(∀x,l[(l.takeWhile p).length]?=some x->p x=false)
 | []=>⟨fun c x h _=>by simp at h,fun x h=>by simp at h⟩
 | a::r=>by
  obtain⟨h1,I⟩:=PG (p:=p) r;by_cases E:p a=true
  ·rw[List.takeWhile_cons,if_pos E];refine⟨fun c x F A=>?_,fun x A=>I x (by simpa using A)⟩;cases c with
   | zero=>simp at A;subst A;exact E
   | succ c=>exact h1 c x (by simpa using F) (by simpa using A)
  ·rw[List.takeWhile_cons,if_neg E];refine⟨fun c x F _=>by simp at F,fun x A=>?_⟩;simp at A;subst A;simpa using E
def Pk{p:Point}{t:Int}(A:0<=p.t/\p.t<=4096/\p.t<=p.a/\p.a<=p.t+4096)(e:p.t=t):AE p t=p.a:=by unfold AE;subst e;rw[pJ (n:=p.t+p.a) (by omega),pJ (by omega)];omega
def XZ{p q:Point}{t:Int}(E:0<=p.t/\p.t<=4096/\p.t<=p.a/\p.a<=p.t+4096)(F:0<=q.t/\q.t<=4096/\q.t<=q.a/\q.a<=q.t+4096)(A:p.t<q.t)(e:p.t=t):OW p q t=p.a:=by
 unfold OW;subst e;rw[Int.sub_self,show W 0=0 from rfl,Int.zero_mul,show W 0=0 from rfl,Int.zero_add,pJ (n:=q.t) (by omega),pJ (n:=q.t-p.t) (by omega),pJ (n:=q.t-p.t-1) (by omega),
  Xbu (by omega),Int.ediv_eq_zero_of_lt (by omega) (by omega)]
 rw[show IntKind.i64.wrap 0=0 from rfl,Int.add_zero,pJ (by omega)]
def Zw{p q:Point}{t:Int}(M:0<=p.t/\p.t<=4096/\p.t<=p.a/\p.a<=p.t+4096)(O:0<=q.t/\q.t<=4096/\q.t<=q.a/\q.a<=q.t+4096)(T:p.a<=q.a)(h1:p.t<=t)(J:t<q.t):OW p q t=VP p q t:=by
 unfold OW VP;have I:0<=t-p.t/\t-p.t<=4096:=by omega
 have A:0<=q.a-p.a/\q.a-p.a<=8192:=by omega
 have E:0<=(t-p.t)*(q.a-p.a):=Int.mul_nonneg I.1 A.1;have F:(t-p.t)*(q.a-p.a)<=4096*8192:=Int.mul_le_mul I.2 A.2 A.1 (by omega);rw[pJ (n:=t-p.t) (by omega),pJ (n:=q.a-p.a) (by omega),pJ (n:=(t-p.t)*(q.a-p.a)) (by omega),pJ (n:=q.t-p.t) (by omega)];generalize (t-p.t)*(q.a-p.a)=m at E F;rw[pJ (n:=m+q.t) (by omega),pJ (n:=m+q.t-p.t) (by omega),pJ (n:=m+(q.t-p.t)) (by omega),show m+q.t-p.t=m+(q.t-p.t)by omega]
def MF(l:List Point)(t:Int):Int:=match (List.range (l.length-1)).find? (nS l t)with
 | some k=>OW (dF l k) (dF l (k+1)) t
 | none=>if decide (t>(dF l 0).t)=true then AE (dF l (l.length-1)) t else AE (dF l 0) t
def Gg{l:List Point}{t:Int}{k:Nat}(h:(List.range (l.length-1)).find? (nS l t)=some k):MF l t=OW (dF l k) (dF l (k+1)) t:=by unfold MF;rw[h]
def K4{l:List Point}{t:Int}(h:(List.range (l.length-1)).find? (nS l t)=none)(A:t>(dF l 0).t):MF l t=AE (dF l (l.length-1)) t:=by unfold MF;rw[h];exact if_pos (by simpa using A)
def JG{l:List Point}{t:Int}(h:(List.range (l.length-1)).find? (nS l t)=none)(A:¬t>(dF l 0).t):MF l t=AE (dF l 0) t:=by unfold MF;rw[h];exact if_neg (by simpa using A)
def Z6{l:List Point}{t:Int}{i:Nat}(A:bs l t=i)(h:i<l.length/\(dF l i).t=t):EY l t=(dF l i).a:=by unfold EY vO;rw[A];exact if_pos (by simp;omega)
def Z1{l:List Point}{t:Int}{i:Nat}(A:bs l t=i)(h:¬(i<l.length/\(dF l i).t=t)):EY l t=if((i:Int) == 0)=true then AE (dF l 0) t
 else if((i:Int) == (l.length:Int))=true then AE (dF l (i-1)) t else VP (dF l (i-1)) (dF l i) t:=by
 unfold EY vO;rw[A];exact if_neg (by simp;intro E;omega)
def VS{l:List Point}{t:Int}(h:TravB l)(hr:qV l=[])(ht:0<=t/\t<=1073741824):lL l t=EY l t:=by
 have hl:=h.len;have hb:=Za l t;obtain⟨ah,ae⟩:=PG (p:=fun p:Point=>decide (p.t<t)) l;have E:∀c,c<bs l t->(dF l c).t<t:=fun c T=>by obtain⟨x,hx⟩:=aO (show c<l.length by omega);have:=ah c x T hx;rw[eK hx];simpa using this
 have O:bs l t<l.length->t<=(dF l (bs l t)).t:=fun af=>by obtain⟨x,hx⟩:=aO af;have:=ae x hx;rw[eK hx];simpa using this
 have U:∀c,c<l.length->0<=(dF l c).t/\(dF l c).t<=4096/\(dF l c).t<=(dF l c).a/\(dF l c).a<=(dF l c).t+4096:=fun c T=>by obtain⟨x,hx⟩:=aO T;rw[eK hx];exact h.pt x (Xac hx)
 unfold lL;have aa:BI l t=false:=by unfold BI;rw[hr];simp;omega
 rw[if_neg (by rw[aa];simp)];show MF l t=EY l t;obtain⟨i,hi⟩:∃i,bs l t=i:=⟨_,rfl⟩;rw[hi]at hb E O;have A:(∀c,c+1<l.length->nS l t c=false)->(List.range (l.length-1)).find? (nS l t)=none:=fun Z=>GY fun c T=>Z c (by have:=Xba.1 T;omega)
 have J:∀k,k+1<l.length->(∀c,c<k->nS l t c=false)->nS l t k=true->(List.range (l.length-1)).find? (nS l t)=some k:=fun k hk Z hy=>KC (k:=k) (fun y ab=>by rw[List.take_range]at ab;exact Z y (by have:=Xba.1 ab;omega)) (sF (by omega)) hy
 have F:∀c,c+1<l.length->(dF l (c+1)).t<=t->nS l t c=false:=fun c _ T=>by unfold nS;simp;omega
 by_cases Y:i<l.length/\(dF l i).t=t
 ·rw[Z6 hi Y];obtain⟨I,he⟩:=Y;have X:∀c,c+1<l.length->c+1<=i->nS l t c=false:=fun c T ai=>F c T (by
   by_cases e:c+1=i
   ·rw[e];omega
   ·have:=E (c+1) (by omega);omega)
  by_cases M:i+1<l.length
  ·have hm:=h.mono i M;rw[Gg (J i M (fun c T=>X c (by omega) (by omega)) (by unfold nS;simp;omega))];exact XZ (U i I) (U (i+1) M) hm.1 he
  ·have Z:=A fun c T=>X c T (by omega)
   have ac:i=l.length-1:=by omega
   by_cases h0:i=0
   ·rw[h0]at he I |-;rw[JG Z (by omega)];exact Pk (U 0 I) he
   ·have:=E 0 (by omega);rw[K4 Z this,<-ac];exact Pk (U i I) he
 ·rw[Z1 hi Y];by_cases h0:i=0
  ·subst h0;have hh:=O (by omega);have ag:(dF l 0).t≠t:=fun e=>Y ⟨by omega,e⟩
   rw[JG (A fun c T=>by
    have:(dF l 0).t<=(dF l c).t:=by
     by_cases e:c=0
     ·rw[e];omega
     ·have:=IH h 0 c (by omega) (by omega);omega
    unfold nS;simp;omega) (by omega),if_pos (by simp)]
  ·rw[if_neg (by simp;omega)];by_cases Z:i=l.length
   ·have:=E 0 (by omega);rw[K4 (A fun c T=>F c T (by have:=E (c+1) (by omega);omega)) this,if_pos (by simp;omega),Z]
   ·have I:i<l.length:=by omega
    have hh:=O I;have ag:(dF l i).t≠t:=fun e=>Y ⟨I,e⟩
    have aj:=E (i-1) (by omega);have e1:i-1+1=i:=by omega
    rw[Gg (J (i-1) (by omega) (fun c T=>F c (by omega) (by have:=E (c+1) (by omega);omega)) (by unfold nS;rw[e1];simp;omega)),if_neg (by simp;omega)];rw[e1];have hm:=h.mono (i-1) (by omega);rw[e1]at hm;exact Zw (U (i-1) (by omega)) (U i I) hm.2 (by omega) (by omega)
def Rg(l:List Point)(t:Int)(F:qV l=[]):PC prog 233 [.sl (l.map cT),int t] (int (lL l t)):=by
 have h:=WP F;refine pcd func233 rfl rfl ?_;simp only[go_sem];refine aP (Jp _ _ _) ?_;simp only[go_sem];refine⟨_,fun _=>(WS l h).q rfl,?_⟩;simp only[go_sem];have A:BI l t=(!(decide (t>=0)&&decide (t<=1073741824))|| !true):=by unfold BI;rw[F,Xao];simp
 rw[<-A];refine aA (fun E=>?_) (fun E=>?_)
 ·simp only[go_sem];exact bP (by unfold lL;rw[if_pos E])
 have I:0<=t/\t<=1073741824:=by unfold BI at E;simp at E;omega
 simp only[go_sem];refine aP (QP l t h I) ?_;simp only[go_sem];exact bP (VS h F I).symm
def LM(n:Network)(i:Int):PC prog 210 [.agg (gA n),int i] (boo (IT n i)):=by refine pcd func210 rfl rfl ?_;simp only[go_sem];exact .refl _
def JP(a:Arc):List AV:=[int a.src,int a.dst,int a.profile]
def Ye(a:Arc):PC prog 232 [.agg (eH a)] (.agg (JP a)):=by
 refine pcb (fun t=>t == 2) func232 rfl rfl ?_;simp only[go_sem];refine aJ fun j A=>?_
 simp only[go_sem];refine aN (aB _ _ _) (by simp) ?_;simp only[go_sem];exact .refl _
structure NetOk(n:Network):Prop where
 arcs:n.arcs.length<=1048576
 travel:∀a∈n.arcs,qV a.travel=[]
 slow:∀a∈n.arcs,a.slow.length<=1048576
def Ms(a:Arc)(t:Int)(ha:qV a.travel=[])(aa:a.slow.length<=1048576):PC prog 212 [.agg (eH a),int t] (int (EP a t)):=by
 refine pcd func212 rfl rfl ?_;simp only[go_sem];refine aP (Rg a.travel t ha) ?_;simp only[go_sem];refine⟨fun ρ _=>∃k:Nat,k<=a.slow.length/\ρ 1=int t/\ρ 13=.sl (a.slow.map cT)/\ρ 14=int a.slow.length/\ρ 5=int ((a.slow.take k).foldl (Ce t) (lL a.travel t))/\ρ 15=int k,fun ρ _=>a.slow.length-aU (ρ 15),⟨0,Xab _,rfl,rfl,rfl,rfl,rfl⟩,?_⟩;rintro ρ H ⟨k,hk,h1,A,F,M,E⟩;simp only[go_sem,h1,A,F,M,E];refine aA (fun I=>?_) (fun T=>?_)
 ·have I:=bU I;obtain⟨p,hp⟩:=aO I;have b1:=inB I;have Z:(a.slow.take (k+1)).foldl (Ce t) (lL a.travel t)=Ce t ((a.slow.take k).foldl (Ce t) (lL a.travel t)) p:=by rw[aZ hp,List.foldl_append];rfl
  simp only[go_sem,h1,A,F,M,E,aC hp,b1];refine aJ fun Y U=>?_
  simp only[go_sem,h1,A,F,M,E];refine aN (aB _ _ _) (by simp[gI]) ?_;generalize O:aI (aI _ Y _) Y _=HGi7;have R7:HGi7 Y=some (⟨65,2,[cT p]⟩):=by rw[<-O,aB];rfl
  clear O U;simp only[go_sem,h1,A,F,M,E,R7];refine Cq (fun J _=>J 1=int t/\J 13=.sl (a.slow.map cT)/\J 14=int a.slow.length/\J 5=int ((a.slow.take (k+1)).foldl (Ce t) (lL a.travel t))/\J 15=int k) ?_ fun K hK _ _=>aA (fun X=>?_) (fun X=>?_)
  ·clear h1 A F M E;rintro ρ H ⟨h1,A,F,M,E⟩;simp only[go_sem,h1,A,F,M,E,aT k];exact⟨⟨k+1,I,rfl,rfl⟩,by simp only[aF];omega⟩
  ·simp only[go_sem,h1,A,F,M,E,R7];refine hK _ _ ⟨by simp only[go_sem,h1],by simp only[go_sem,A],by simp only[go_sem,F],?_,by simp only[go_sem,E]⟩;simp only[go_sem];rw[Z,Ce,if_pos X];rfl
  ·simp only[go_sem];refine hK _ _ ⟨by simp only[go_sem,h1],by simp only[go_sem,A],by simp only[go_sem,F],?_,by simp only[go_sem,E]⟩;simp only[go_sem,M];rw[Z,Ce,if_neg (by rw[X];simp)]
 ·have T:=bW hk T;subst T;simp only[go_sem,M];rw[Xad];exact .refl _
def W8(n:Network)(p f t:Int)(hl:n.arcs.length<=1048576):PC prog 211 [.agg (gA n),int p,int f,int t] (.tup [.agg (eH ((vX n p f t).getD AB)),boo (vX n p f t).isSome]):=by
 refine pcd func211 rfl rfl ?_;simp only[go_sem];refine aJ fun j8 ao=>?_
 generalize ag:aI _ j8 _=HGj8;have Z:HGj8 j8=some (⟨68,6,[eH AB]⟩):=by rw[<-ag,aB];rfl
 clear ag ao;simp only[go_sem,Z];refine aJ fun J ac=>?_
 have F:j8≠J:=bC Z ac;simp only[go_sem,Z];refine aN (aB _ _ _) (by simp[gI]) ?_;generalize ab:aI (aI _ J _) J _=HGj10;replace Z:=kpR ab F F Z;have I:HGj10 J=some (⟨324,3,[[int f,int t,int p]]⟩):=by rw[<-ab,aB];rfl
 clear ab ac;simp only[go_sem,I,Z];refine⟨fun ρ H=>∃k:Nat,k<=n.arcs.length/\ρ 8=.op j8 0 0/\ρ 10=.op J 0 0/\ρ 18=.sl (n.arcs.map eH)/\ρ 19=int n.arcs.length/\ρ 20=int k/\H j8=some (⟨68,6,[eH AB]⟩:Row)/\H J=some (⟨324,3,[[int f,int t,int p]]⟩:Row)/\∀a∈n.arcs.take k,Le p f t a=false,fun ρ _=>n.arcs.length-aU (ρ 20),⟨0,Xab _,rfl,rfl,rfl,rfl,rfl,Z,I,by simp⟩,?_⟩;clear Z I;rintro ρ H ⟨k,hk,h8,U,X,Y,T,Z,I,hz⟩;simp only[go_sem,h8,U,X,Y,T];refine aA (fun ae=>?_) (fun aj=>?_)
 ·have ae:=bU ae;obtain⟨a,ah⟩:=aO ae;have b1:=inB ae;simp only[go_sem,h8,U,X,Y,T,aC ah,b1];refine aJ fun O aa=>?_
  have E:j8≠O:=bC Z aa;have A:J≠O:=bC I aa;simp only[go_sem,h8,U,X,Y,T,Z,I];refine aN (aB _ _ _) (by simp[jR]) ?_;generalize M:aI (aI _ O _) O _=HGi12;replace Z:=kpR M E E Z;replace I:=kpR M A A I;have af:HGi12 O=some (⟨68,6,[eH a]⟩):=by rw[<-M,aB];rfl
  clear M aa;simp only[go_sem,h8,U,X,Y,T,af,Z,I];refine fW [O] [(0,true),(1,true),(2,false),(3,false)] (by simp[af]) (by kernel_rfl) fun Hp Hr hp hr _ aq=>?_
  have an:=(hp O (by simp)).trans af;have ai:=(hr J (by simp[A])).trans I;simp only[go_sem,h8,U,X,Y,T,an,ai];refine⟨_,(Ye a).q rfl,?_⟩;simp only[go_sem,h8,U,X,Y,T,an,ai,JP];refine dN fun _ Hm ap am=>?_
  have M8:Hm j8=some (⟨68,6,[eH AB]⟩:Row):=by
   have n1:j8∉[O]:=by simp[E]
   rw[am j8 n1];exact(hr j8 n1).trans Z
  have al:=(ap O (by simp)).trans af;have ak:Hm J=_:=(am J (by simp[A])).trans ai;simp only[go_sem,h8,U,X,Y,T,M8,ak,al];have ea:(a.src == f&&(a.dst == t&&(a.profile == p&&true)))=Le p f t a:=by unfold Le;rw[Bool.and_true,Bool.and_assoc]
  rw[ea];refine aA (fun hb=>?_) (fun hb=>?_)
  ·simp only[go_sem,h8,al];refine aN M8 (by simp[jR]) ?_;simp only[go_sem,h8,jR];have:vX n p f t=some a:=KC hz ah hb;rw[this];exact .refl _
  ·simp only[go_sem,h8,U,X,Y,T,aT k];exact⟨⟨k+1,ae,rfl,M8,ak,aR (p:=fun a=>Le p f t a=false) ah hb hz⟩,by simp only[aF];omega⟩
 ·have aj:=bW hk aj;subst aj;rw[Xad]at hz;simp only[go_sem,h8];refine aN Z (by simp) ?_;simp only[go_sem,h8];have:vX n p f t=none:=GY hz;rw[this];exact .refl _
def WD(n:Network)(p f t time:Int)(O:NetOk n):PC prog 188 [.agg (gA n),int p,int f,int t,int time] (.tup [int (iD n p f t time).1,int (iD n p f t time).2.1,int (iD n p f t time).2.2]):=by
 refine pcd func188 rfl rfl ?_;simp only[go_sem];refine aP (LM n f) ?_;simp only[go_sem];refine⟨_,fun _=>(LM n t).q rfl,?_⟩;simp only[go_sem];refine aA (fun h1=>?_) (fun h1=>?_)
 ·simp only[go_sem];have:iD n p f t time=(0,0,11):=by unfold iD;rw[if_pos h1]
  rw[this];exact .refl _
 simp only[go_sem];refine aA (fun M=>?_) (fun M=>?_)
 ·simp only[go_sem];have:iD n p f t time=(time,0,0):=by unfold iD;rw[if_neg (by rw[h1];simp),if_pos M]
  rw[this];exact .refl _
 have X:iD n p f t time=match vX n p f t with|some a=>(EP a time,a.miles,0)|none=>(0,0,12):=by unfold iD;rw[if_neg (by rw[h1];simp),if_neg (by rw[M];simp)];rfl
 rw[X];simp only[go_sem];refine aP (W8 n p f t O.arcs) ?_;simp only[go_sem];refine aJ fun F I=>?_
 simp only[go_sem];refine aN (aB _ _ _) (by simp[jR]) ?_;generalize A:aI (aI _ F _) F _=HGj13;have E:HGj13 F=some (⟨68,6,[eH ((vX n p f t).getD AB)]⟩):=by rw[<-A,aB];rfl
 clear A I;simp only[go_sem,E];cases U:vX n p f t with
 | none=>refine aA (fun _=>?_) (fun T=>by simp at T);simp only[go_sem];exact .refl _
 | some a=>have J:=List.mem_of_find?_eq_some U;refine aA (fun T=>by simp at T) (fun _=>?_);rw[U]at E;simp only[go_sem,Xbc,jR];refine dD (by rfl) (by kernel_rfl) ?_;simp only[go_sem,Xbc,E,jR];refine⟨_,(Ms a time (O.travel a J) (O.slow a J)).q rfl,?_⟩;simp only[go_sem,Xbc,E,jR];exact .refl _
def Pe(s:Stop)(a:Int):PC prog 190 [.agg (dQ s),int a] (.tup [int (if jL a s.start>s.close then 0 else jL a s.start),int (if jL a s.start>s.close then 14 else 0)]):=by
 refine pcd func190 rfl rfl ?_;simp only[go_sem];refine aA (fun A=>?_) (fun A=>?_)
 ·have A:jL a s.start>s.close:=by simpa using A
  simp only[go_sem];rw[if_pos A,if_pos A];exact .refl _
 ·have A:¬jL a s.start>s.close:=by simpa using A
  simp only[go_sem];rw[if_neg A,if_neg A];exact .refl _
end Go.Proofs.YtkjdacijpeiphaaGreatDoor.Sq
