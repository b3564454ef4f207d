import Derived.Test.YtkjdacijpeiphaaGreatDoorVp19
set_option linter.unusedSimpArgs false
set_option linter.unusedVariables false
set_option linter.defProp false
set_option maxRecDepth 100000
namespace Go.Proofs.YtkjdacijpeiphaaGreatDoor
open Go.Aw Go.Aw.D Go.Proofs Ty
namespace Sq
open Go.Proofs.Tryz
open Go.Proofs.YtkjdacijpeiphaaGreatDoor.Nu (ltB geB)
open Mv (bP cK aR)
def M3(x:Instance)(kind set:Int):Bool:=((decide (kind<0)||decide (kind>=(x.types.length:Int)))||decide (set<=0))||(shV .shr .i64 set (x.orders.length:Nat) != 0)
def G8(x:Instance)(kind:Nat)(set:Int)(t:VType):Sr:=mF t 17 ⟨x,kind,set,tD x set,dI,false⟩ [] t.src (lW t [] t.start 0)
def uP(x:Instance)(kind set:Int):Column×Int:=
 if M3 x kind set=true then(dI,2)
 else if(D1 x set != 0)=true then(dI,24)
 else match x.types[kind.toNat]? with
 | none=>(dI,24)
 | some t=>if(G8 x kind.toNat set t).found=true then((G8 x kind.toNat set t).best,0)else(dI,24)
def X8(x:Instance)(kind set:Int)(hE:EvalB x)(hn:x.orders.length<=8):PC prog 76 [.agg (aE x),int kind,int set] (.tup [.agg (bA (uP x kind set).1),int (uP x kind set).2]):=by
 refine pcb (fun t=>t == 43||t == 75) func76 rfl rfl ?_;simp only[go_sem];have Y:uP x kind set=((if M3 x kind set=true then(dI,2)
  else if(D1 x set != 0)=true then(dI,24)
  else match x.types[kind.toNat]? with
  | none=>(dI,24)
  | some t=>if(G8 x kind.toNat set t).found=true then((G8 x kind.toNat set t).best,0)else(dI,24)):Column×Int):=rfl
 generalize uP x kind set=RP at *;refine aJ fun j6 aq=>?_
 generalize au:aI _ j6 _=HG6;have X:HG6 j6=some (jP dI):=by rw[<-au,aB];try rfl
 clear au aq;simp only[go_sem,X,Xaa];refine⟨fun _=>by omega,aA (fun hb=>?_) (fun hb=>?_)⟩
 ·simp only[go_sem,X];refine aN X (by simp only[go_sem]) ?_;generalize Y:aI _ j6 _=HP;replace X:HP j6=some (jP dI):=by rw[<-Y,aB];rfl
  clear Y;simp only[go_sem,X];have hb:M3 x kind set=true:=hb;rw[if_pos hb]at Y;rw[Y];exact .refl _
 have av:M3 x kind set=false:=hb;rw[if_neg (by rw[av];simp)]at Y;obtain⟨⟨⟨hk0,hk1⟩,hs0⟩,hs1⟩:((0<=kind/\kind<x.types.length)/\0<set)/\shV .shr .i64 set (x.orders.length:Nat)=0:=by simpa using hb
 rw[uH (by omega)]at hs1;obtain⟨k0,rfl⟩:=Int.eq_ofNat_of_zero_le hk0;have hk:k0<x.types.length:=by omega
 obtain⟨t,ht⟩:=aO hk;have bk:=inB hk;have an:set<2^x.orders.length:=by
  have hp:(0:Int)<2^x.orders.length:=Int.pow_pos (by decide);rcases Int.lt_or_le set (2^x.orders.length)with h|h
  ·exact h
  ·have:=Int.le_ediv_of_mul_le hp (show 1*2^x.orders.length<=set by omega);omega
 have hM:=Tb (x:=x) (by omega) an (by omega);have ax:=Pi (by omega) an (by omega);rw[show tD x set=mY x (eJ set)from rfl]at *;simp only[go_sem,X,Xaa];refine aP (A0 x set (by omega) hE.apart hE.before) ?_;rw[Xaz,ht]at Y;unfold G8 at Y;simp only at Y;rw[show tD x set=mY x (eJ set)from rfl]at Y;simp only[go_sem,X];refine aA (fun aj=>?_) (fun aj=>?_)
 ·simp only[go_sem,X];refine aN X (by simp only[go_sem]) ?_;generalize Y:aI _ j6 _=HP;replace X:HP j6=some (jP dI):=by rw[<-Y,aB];rfl
  clear Y;simp only[go_sem,X];rw[if_pos aj]at Y;rw[Y];exact .refl _
 rw[if_neg (by rw[aj];simp)]at Y;clear hb aj av;simp only[go_sem,X];refine TN (a:=qT ⟨x,k0,set,0,dI,false⟩) rfl ⟨by rw[mK];decide,?_⟩;refine aJ fun js al=>?_
 have ah:j6≠js:=bC X al;simp only[go_sem,X];generalize ao:aI _ js _=HGs;replace X:=(congrFun ao.symm j6).trans ((aD _ _ _ _ ah).trans X);have R:HGs js=some (iE ⟨x,k0,set,0,dI,false⟩):=by rw[<-ao,aB]
 clear ao al;refine aP (hY set) ?_;simp only[go_sem,X,R,Xaa];have af:=nH set 63
 change (eJ set).length<=63 at af
 generalize eJ set=M at *;clear ax;have a0:M.length<=63:=af;refine⟨fun ρ H=>∃(k:Nat),k<=M.length/\ρ 1=int (k0:Nat)/\ρ 3=.rp (aE x) 0/\ρ 6=.op j6 0 0/\ρ 8=.op js 0 0/\ρ 45=.sl (M.map aQ)/\ρ 46=int (M.length:Nat)/\ρ 47=int k/\H j6=some (jP dI)/\H js=some (iE ⟨x,k0,set,mY x (M.take k),dI,false⟩),fun ρ _=>M.length-aU (ρ 47),⟨0,Xab _,by simp only[go_sem],by simp only[go_sem],by simp only[go_sem],by simp only[go_sem],by simp only[go_sem],by simp only[go_sem,Xaa],(by simp only[go_sem];rfl),X,R⟩,?_⟩;clear X R;rintro ρ H ⟨k,az,J,O,I,U,F,E,A,X,R⟩;simp only[go_sem,J,O,I,U,F,E,A];refine aA (fun ag=>?_) (fun ap=>?_)
 ·have ag:=ltB (by simpa using ag);obtain⟨i,hi⟩:=aO ag;have b1:=inB ag;have hs:=NE x hi;have hb:=NQ x M k;have hV:=oY x.orders i;generalize mY x (M.take k)=T at *;simp only[go_sem,J,O,I,U,F,E,A,aC hi,b1];refine jS [] (.q 0 (.q 1 (.q 2 (.q 4 (.q 5 (.q 6 (.a2 3 (.a1 7 (.q 8 (.q 9 (.q 10 (.q 11 (.a1 12 .nil)))))) 7 (.q 8 (.a1 3 (.q 9 (.q 10 (.q 11 (.a1 12 .nil)))))))))))))
   (fun ac H'=>ac 1=int (k0:Nat)/\ac 3=.rp (aE x) 0/\ac 6=.op j6 0 0/\ac 8=.op js 0 0/\ac 45=.sl (M.map aQ)/\ac 46=int (M.length:Nat)/\ac 47=int (k:Nat)/\H' j6=some (jP dI)/\H' js=some (iE ⟨x,k0,set,mY x (M.take (k+1)),dI,false⟩)) (by simp) (by kernel_rfl) (fun K' ar Hp Hr hp hr _ aw=>?_) ?_
  ·have Z:=(hr js (by simp)).trans R;simp only[go_sem,J,O,I,U,F,E,A];refine iB ?_ ?_
   ·simp only[go_sem,J,O,I,U,F,E,A,Z];refine aP (oR x.orders i) ?_;simp only[go_sem,J,O,I,U,F,E,A,Z,Xaa];refine bO so3 Z (by simp[mK]) ?_;simp only[go_sem];refine oW hr (by simp) (ar _ _ ⟨by simp only[go_sem,J,O,I,U,F,E,A],by simp only[go_sem,J,O,I,U,F,E,A],by simp only[go_sem,J,O,I,U,F,E,A],by simp only[go_sem,J,O,I,U,F,E,A],by simp only[go_sem,J,O,I,U,F,E,A],by simp only[go_sem,J,O,I,U,F,E,A],by simp only[go_sem,J,O,I,U,F,E,A],?_,?_⟩)
    ·rw[aD _ _ _ _ ah];exact X
    rw[hs,aB];refine congrArg (fun l=>some (⟨213,17,[l]⟩:Row)) ?_;rw[bE (by omega)];rfl
   ·simp only[go_sem,J,O,I,U,F,E,A,Z];refine aP (oR x.orders i) ?_;simp only[go_sem,J,O,I,U,F,E,A,Z,Xaa];refine bO so3 Z (by simp[mK]) ?_;simp only[go_sem];refine oW hr (by simp) (ar _ _ ⟨by simp only[go_sem,J,O,I,U,F,E,A],by simp only[go_sem,J,O,I,U,F,E,A],by simp only[go_sem,J,O,I,U,F,E,A],by simp only[go_sem,J,O,I,U,F,E,A],by simp only[go_sem,J,O,I,U,F,E,A],by simp only[go_sem,J,O,I,U,F,E,A],by simp only[go_sem,J,O,I,U,F,E,A],?_,?_⟩)
    ·rw[aD _ _ _ _ ah];exact X
    rw[hs,aB];refine congrArg (fun l=>some (⟨213,17,[l]⟩:Row)) ?_;rw[bE (by omega)];rfl
  clear X R J O I U F E A;rintro ρ H ⟨J,O,I,U,F,E,A,X,R⟩;simp only[go_sem,J,O,I,U,F,E,A,aT k];exact⟨⟨k+1,ag,rfl,X,R⟩,by simp only[aF];omega⟩
 have ap:=geB az (by simpa using ap);subst ap;rw[Xad]at R;simp only[go_sem,J,O,I,U,F,E,A,aC ht,bk];refine aJ fun i11 ab=>?_
 have ae:js≠i11:=bC R ab;have am:j6≠i11:=bC X ab;simp only[go_sem,J,O,I,U,F,E,A];refine aN (aB _ _ _) (by simp[jZ]) ?_;generalize ak:aI (aI _ i11 _) i11 _=HGi;replace X:=kpR ak am am X;replace R:=kpR ak ae ae R;have ai:HGi i11=some (Dl t):=by rw[<-ak,aB];try rfl
 clear ak ab;simp only[go_sem,J,O,I,U,F,E,A,ai];refine fW [i11] [(0,true),(1,true),(2,true),(3,true),(4,true),(5,true),(6,false),(7,false)] (by simp[ai]) (by kernel_rfl) fun Hp Hr hp hr _ aw=>?_
 have ay:=(hp i11 (by simp)).trans ai;have Z:=(hr js (by simpa using ae)).trans R;simp only[go_sem,J,O,I,U,F,E,A,ay];refine LC.use (We Hr js _ t t.start 0 ht Z) ?_;simp only[go_sem,J,O,I,U,F,E,A];refine MC.use (O1 t js 17 ⟨x,k0,set,mY x M,dI,false⟩ ⟨ht,hE,hE.before,by show x.orders.length<=60;omega,by show mY x M<=16;omega⟩ Hr Z [] t.src (lW t [] t.start 0) (Xab _) (by show mY x M-0<17;omega) (Do t [] t.start 0)) ?_;have hB:=pC t 17 ⟨x,k0,set,mY x M,dI,false⟩ [] t.src (lW t [] t.start 0);generalize mF t 17 ⟨x,k0,set,mY x M,dI,false⟩ [] t.src (lW t [] t.start 0)=s' at *;simp only[go_sem,J,O,I,U,F,E,A];refine oW hr (by simpa using ae) ?_;have R2:aI HGi js (some (iE s')) js=some (iE s'):=aB _ _ _;have aa:aI HGi js (some (iE s')) j6=some (jP dI):=(aD _ _ _ _ ah).trans X;generalize aI HGi js (some (iE s'))=HX at *;clear X R ai;simp only[go_sem,J,O,I,U,F,E,A,R2];refine aA (fun hb=>?_) (fun hb=>?_)
 ·simp only[go_sem,J,O,I,U,F,E,A,aa];refine aN aa (by simp only[go_sem]) ?_;generalize Y:aI _ j6 _=HP;replace aa:HP j6=some (jP dI):=by rw[<-Y,aB];rfl
  clear Y;simp only[go_sem,J,O,I,U,F,E,A,aa];rw[if_neg (by simpa using hb)]at Y;rw[Y];exact .refl _
 simp only[go_sem,J,O,I,U,F,E,A,R2,aa];refine aN aa (by simp[dW]) ?_;generalize Y:aI _ j6 _=HP;replace aa:HP j6=some (jP s'.best):=by rw[<-Y,aB];rfl
 clear Y;simp only[go_sem,J,O,I,U,F,E,A,aa];rw[if_pos (by simpa using hb)]at Y;rw[Y];exact .refl _
structure BestQ(x:Instance)(k:Nat)(set:Int)(c:Column):Prop where
 lt:k<x.types.length
 pos:0<set
 top:set<2^x.orders.length
 is:∃l,c=⟨(k:Nat),set,(gP x ⟨(k:Nat),0,[],l⟩).1,⟨(k:Nat),0,[],l⟩⟩/\(gP x ⟨(k:Nat),0,[],l⟩).2=0/\vU x set l/\l.length=tD x set
def Ub{x:Instance}{k:Nat}{set:Int}(Y:x.orders.length<=8)(h:(uP x (k:Nat) set).2=0):BestQ x k set (uP x (k:Nat) set).1:=by
 unfold uP at h |-;split at h
 ·exact absurd h (by decide)
 split at h
 ·exact absurd h (by decide)
 next hb _=>
 rw[Xaz]at *;split at h
 ·exact absurd h (by decide)
 next t ht=>
 split at h
 case isFalse=>exact absurd h (by decide)
 next J=>
 have F:M3 x (k:Nat) set=false:=by simpa using hb
 unfold M3 at F;obtain⟨⟨⟨hk0,hk1⟩,hs0⟩,hs1⟩:((0<=(k:Int)/\(k:Int)<x.types.length)/\0<set)/\shV .shr .i64 set (x.orders.length:Nat)=0:=by simpa using F
 rw[uH (by omega)]at hs1;have I:set<2^x.orders.length:=by
  have U:(0:Int)<2^x.orders.length:=Int.pow_pos (by decide);rcases Int.lt_or_le set (2^x.orders.length)with h|h
  ·exact h
  ·have:=Int.le_ediv_of_mul_le U (show 1*2^x.orders.length<=set by omega);omega
 rw[if_neg hb,if_neg (by assumption)];simp only[J,if_true];have A:=pC t 17 ⟨x,k,set,tD x set,dI,false⟩ [] t.src (lW t [] t.start 0);obtain⟨l,X,T,O,M⟩:=CG t 17 ⟨x,k,set,tD x set,dI,false⟩ [] t.src (lW t [] t.start 0) (fun h=>Bool.noConfusion h) vU.nil J;unfold G8;generalize mF t 17 ⟨x,k,set,tD x set,dI,false⟩ [] t.src (lW t [] t.start 0)=s' at *;have E:kH s' l=⟨(k:Nat),0,[],l⟩:=by unfold kH;rw[A.kind]
 rw[E,A.x]at T;rw[A.x,A.set]at O;rw[A.total]at M;refine⟨by omega,hs0,I,l,?_,T,O,M⟩;rw[X];unfold HU;rw[E,A.x,A.set,A.kind]
abbrev oA(l:List Column):Row:=⟨140,7,l.map bA⟩
def D5(x:Instance)(kind set:Nat):List Column:=if((uP x (kind:Nat) (set:Nat)).2 == 0)=true then[(uP x (kind:Nat) (set:Nat)).1]else[]
def rH(x:Instance)(kind m:Nat):List Column:=(List.range m).flatMap fun s=>D5 x kind (s+1)
def Cw(x:Instance)(k:Nat):List Column:=(List.range k).flatMap fun kind=>rH x kind (2^x.orders.length-1)
def sP(x:Instance):List Column:=Cw x x.types.length
def Cp(x:Instance)(kind m:Nat):rH x kind (m+1)=rH x kind m++D5 x kind (m+1):=by unfold rH;rw[List.range_succ,List.flatMap_append];simp
def Eo(x:Instance)(k:Nat):Cw x (k+1)=Cw x k++rH x k (2^x.orders.length-1):=by unfold Cw;rw[List.range_succ,List.flatMap_append];simp
def SH(x:Instance)(kind set:Nat):(D5 x kind set).length<=1:=by unfold D5;split <;> simp
def zM(x:Instance)(kind:Nat):∀m,(rH x kind m).length<=m
 | 0=>Xaf _
 | m+1=>by rw[Cp,Xai];have:=zM x kind m;have:=SH x kind (m+1);omega
def Bz(x:Instance):∀k,(Cw x k).length<=k*2^x.orders.length
 | 0=>Xab _
 | k+1=>by rw[Eo,Xai,Nat.succ_mul];have:=Bz x k;have:=zM x k (2^x.orders.length-1);have A:0<2^x.orders.length:=Nat.two_pow_pos _;omega
def QL{x:Instance}{kind set:Nat}{c:Column}(A:x.orders.length<=8)(h:c∈D5 x kind set):BestQ x kind set c:=by
 unfold D5 at h;split at h
 next E=>have:=Ub (x:=x) (k:=kind) (set:=(set:Nat)) A (by simpa using E);rw[Xax.1 h];exact this
 ·cases h
def Am{x:Instance}{c:Column}(A:x.orders.length<=8)(h:c∈sP x):∃kind set:Nat,BestQ x kind set c:=by unfold sP Cw rH at h;obtain⟨kind,_,h⟩:=List.mem_flatMap.1 h;obtain⟨s,_,h⟩:=List.mem_flatMap.1 h;exact⟨kind,s+1,QL A h⟩
def U2(l:List Column)(c:Column):(⟨140,7,l.map bA++[bA c]⟩:Row)=oA (l++[c]):=by show _=(⟨140,7,(l++[c]).map bA⟩:Row);rw[Xak];rfl
def Qu{s n:Nat}(A:n<=8):shV .shr .i64 ((s:Nat):Int) ((n:Nat):Int)=((s/2^n:Nat):Int):=by rw[uH (by omega)];simp
def Y7(x:Instance)(hE:EvalB x)(hn:x.orders.length<=8)(ht:x.types.length<=1000):NC prog 47 [.agg (aE x)] (oA (sP x)) (fun j=>.tup [.os j,int 0]):=by
 refine ncb (fun t=>t == 4) func47 rfl rfl ?_;simp only[go_sem];refine dV fun j ah ag (R:ah j=some (oA [])) N=>?_
 clear N ag;simp only[go_sem,R];refine⟨fun ρ H=>∃(k:Nat) (j:Nat),k<=x.types.length/\ρ 1=.rp (aE x) 0/\ρ 11=int (x.types.length:Nat)/\ρ 12=int k/\ρ 4=.os j/\H j=some (oA (Cw x k)),fun ρ _=>x.types.length-aU (ρ 12),⟨0,j,Xab _,by simp only[go_sem],by simp only[go_sem,Xaa],(by simp only[go_sem];rfl),by simp only[go_sem],R⟩,?_⟩;rintro ρ H ⟨k,j,hk,J,E,F,I,R⟩;simp only[go_sem,J,E,F,I];refine aA (fun Y=>?_) (fun Z=>?_)
 ·have Y:=ltB (by simpa using Y);have hs:=Eo x k;have al:=Bz x k;have h8:2^x.orders.length<=256:=Xag (Xaq (by decide) hn) (by decide);have hp:0<2^x.orders.length:=Nat.two_pow_pos _;have am:k*2^x.orders.length<=256000:=Xag (Nat.mul_le_mul (show k<=1000 by omega) h8) (by decide);generalize ao:Cw x k=A at *;simp only[go_sem,J,E,F,I];refine⟨fun ρ H=>∃m j:Nat,m<=2^x.orders.length-1/\ρ 1=.rp (aE x) 0/\ρ 5=int (k:Nat)/\ρ 6=int (m+1:Nat)/\ρ 11=int x.types.length/\ρ 12=int (k:Nat)/\ρ 4=.os j/\H j=some (oA (A++rH x k m)),fun ρ _=>2^x.orders.length-aU (ρ 6),⟨0,j,Xab _,by simp only[go_sem,J,E,F,I],by simp only[go_sem,J,E,F,I],(by simp only[go_sem,J,E,F,I];rfl),by simp only[go_sem,J,E,F,I],by simp only[go_sem,J,E,F,I],by simp only[go_sem,J,E,F,I],by simpa[rH]using R⟩,?_⟩;clear J I E F R;rintro ρ H ⟨m,j,hm,J,T,O,E,F,I,R⟩;simp only[go_sem,J,I,T,O,E,F,Xaa];refine⟨by omega,aA (fun ae=>?_) (fun aa=>?_)⟩
  ·rw[Qu hn]at ae;have X:(m+1)/2^x.orders.length=0:=by
    have:(((m+1)/2^x.orders.length:Nat):Int)=0:=by simpa using ae
    omega
   have aj:m+1<2^x.orders.length:=(Nat.div_eq_zero_iff.1 X).resolve_left (by omega);have M:=Cp x k m;have an:=zM x k m;simp only[go_sem,J,I,T,O,E,F];refine aP (X8 x (k:Nat) ((m+1:Nat):Int) hE hn) ?_;have af:D5 x k (m+1)=if((uP x (k:Nat) ((m+1:Nat):Int)).2 == 0)=true then[(uP x (k:Nat) ((m+1:Nat):Int)).1]else[]:=rfl
   rw[af]at M;generalize uP x (k:Nat) ((m+1:Nat):Int)=B at *;generalize rH x k m=KM at *;simp only[go_sem,J,I,T,O,E,F];refine aJ fun i7 U=>?_
   simp only[go_sem,J,I,T,O,E,F,R];refine bH U (by simp[dW]) fun ab (R7:ab i7=some (oA [B.1])) N=>?_
   replace R:=N R;obtain⟨ac,R⟩:=R;clear N U;simp only[go_sem,J,I,T,O,E,F,R7,R];refine aA (fun hc=>?_) (fun hc=>?_)
   ·rw[if_pos hc]at M;simp only[go_sem,J,I,T,O,E,F,R7];refine bT R ⟨rfl,rfl⟩ (by simp only[go_sem]) (by simp only[Xaa,Xai,Xae,List.length_nil];omega) (fun j2 ap=>?_);simp only[go_sem,J,I,T,O,E,F,lG (show m+1<=4611686018427387904 by omega)];refine⟨⟨m+1,j2,by omega,rfl,rfl,?_⟩,by simp only[aF];omega⟩;rw[M,<-Xbd,aB];exact congrArg some (U2 _ _)
   ·rw[if_neg (by rw[hc];simp),Xbn]at M;simp only[go_sem,J,I,T,O,E,F,lG (show m+1<=4611686018427387904 by omega)];refine⟨⟨m+1,j,by omega,rfl,rfl,?_⟩,by simp only[aF];omega⟩;rw[M];exact R
  ·rw[Qu hn]at aa;have X:¬(m+1)/2^x.orders.length=0:=by
    have:¬(((m+1)/2^x.orders.length:Nat):Int)=0:=by simpa using aa
    omega
   have ak:¬m+1<2^x.orders.length:=fun h=>X (Nat.div_eq_of_lt h)
   have ai:m=2^x.orders.length-1:=by omega
   subst ai;simp only[go_sem,J,I,E,F,aT k];refine⟨⟨k+1,j,Y,rfl,rfl,?_⟩,by simp only[aF];omega⟩;rw[hs];exact R
 have Z:=geB hk (by simpa using Z);subst Z;simp only[go_sem,J,E,F,I];exact⟨j,rfl,R⟩
end Sq
namespace Sq
open Mv (bP cK aR)
end Sq
namespace Nu
open Go.Proofs.Tryz
open Go.Nu
abbrev kV(f:Nat->Nat)(i:Nat)(r:PRow):List AV:=[.os (f i),int r.kind,int r.right]
abbrev tH(f:Nat->Nat)(rows:List PRow):Row:=⟨137,3,rows.mapIdx (kV f)⟩
def sV(f:Nat->Nat)(k c:Nat):Nat->Nat:=fun i=>if i=k then c else f i
structure LinH(H:aG)(jr:Nat)(f:Nat->Nat)(rows:List PRow):Prop where
 row:H jr=some (tH f rows)
 coef:∀(i:Nat) (r:PRow),rows[i]?=some r->H (f i)=some (fG r.coef)
 inj:∀i k,i<rows.length->k<rows.length->f i=f k->i=k
def SZ(f:Nat->Nat)(rows:List PRow)(c:Nat)(E A:Int):rows.mapIdx (kV f)++[[.os c,int E,int A]]=(rows++[(⟨[],E,A⟩:PRow)]).mapIdx (kV (sV f rows.length c)):=by
 rw[List.mapIdx_append]
 congr 1
 ·refine List.ext_getElem? fun i=>?_
  rw[List.getElem?_mapIdx,List.getElem?_mapIdx];cases h:rows[i]? with
  | none=>rfl
  | some r=>have F:=(List.getElem?_eq_some_iff.1 h).1;show some (kV f i r)=some (kV (sV f rows.length c) i r);unfold kV sV;rw[if_neg (by omega)]
 ·simp[kV,sV]
def RB(f:Nat->Nat)(rows:List PRow)(k c:Nat)(r:PRow)(l:List Int)(h:rows[k]?=some r):(rows.mapIdx (kV f)).set k [.os c,int r.kind,int r.right]=(rows.set k (⟨l,r.kind,r.right⟩:PRow)).mapIdx (kV (sV f k c)):=by
 have A:=(List.getElem?_eq_some_iff.1 h).1;refine List.ext_getElem? fun i=>?_
 rw[List.getElem?_set,List.getElem?_mapIdx,List.getElem?_mapIdx,List.getElem?_set];by_cases E:k=i
 ·subst E;rw[if_pos rfl,if_pos rfl,List.length_mapIdx,if_pos A,if_pos A];show some _=some (kV (sV f k c) k _);unfold kV sV;rw[if_pos rfl]
 ·rw[if_neg E,if_neg E];cases F:rows[i]? with
  | none=>rfl
  | some r2=>show some (kV f i r2)=some (kV (sV f k c) i r2);unfold kV sV;rw[if_neg (fun e=>E e.symm)]
structure RowsS(H0 H:aG)(j:Nat)(f:Nat->Nat)(rows:List PRow):Prop where
 lin:LinH H j f rows
 keep:∀k row,H0 k=some row->H k=some row
 nj:H0 j=none
 nf:∀i,i<rows.length->H0 (f i)=none
def FN{H0 H:aG}(h:∀k row,H0 k=some row->H k=some row){c:Nat}(A:H c=none):H0 c=none:=by
 cases e:H0 c with
 | none=>rfl
 | some row=>rw[h c row e]at A;cases A
def LinH.ne{H:aG}{j:Nat}{f:Nat->Nat}{rows:List PRow}(h:LinH H j f rows){i:Nat}(E:i<rows.length):f i≠j:=fun e=>by obtain⟨r,F⟩:=aO E;have h1:=h.coef i r F;rw[e,h.row]at h1;have A:(tH f rows).e=(fG r.coef).e:=congrArg Row.e (Option.some.inj h1);exact absurd (show(137:Nat)=3 from A) (by decide)
def LinH.new{H:aG}{j:Nat}{f:Nat->Nat}{rows:List PRow}(h:LinH H j f rows){i:Nat}(A:H i=none)(a:Option Row):LinH (aI H i a) j f rows:=by
 refine⟨?_,fun k r E=>?_,h.inj⟩
 ·rw[aD _ _ _ _ (fun e=>by subst e;rw[h.row]at A;cases A)];exact h.row
 ·have:=h.coef k r E;rw[aD _ _ _ _ (fun e=>by rw[e,A]at this;cases this)];exact this
def RowsS.new{H0 H:aG}{j:Nat}{f:Nat->Nat}{rows:List PRow}(h:RowsS H0 H j f rows){i:Nat}(A:H i=none)(a b:Option Row):RowsS H0 (aI (aI H i a) i b) j f rows:=by
 have e:aI (aI H i a) i b=aI H i b:=by
  funext k;by_cases e:k=i
  ·subst e;rw[aB,aB]
  ·rw[aD _ _ _ _ e,aD _ _ _ _ e,aD _ _ _ _ e]
 rw[e];refine⟨h.lin.new A b,fun k row E=>?_,h.nj,h.nf⟩;have:=h.keep k row E;rw[aD _ _ _ _ (fun e=>by subst e;rw[A]at this;cases this)];exact this
def RowsS.app{H0 H:aG}{j:Nat}{f:Nat->Nat}{rows:List PRow}(h:RowsS H0 H j f rows){c j':Nat}(T:H c=none)(M:aI H c (some (fG [])) j'=none)(kd rt:Int):
  RowsS H0 (aI (aI (aI H c (some (fG []))) j none) j' (some ⟨137,3,rows.mapIdx (kV f)++[[.os c,int kd,int rt]]⟩)) j' (sV f rows.length c) (rows++[⟨[],kd,rt⟩]):=by
 have X:c≠j':=fun e=>by subst e;rw[aB]at M;cases M
 have I:H j'=none:=by rwa [aD _ _ _ _ X.symm]at M
 have aa:c≠j:=fun e=>by subst e;rw[h.lin.row]at T;cases T
 refine⟨⟨?_,fun i r O=>?_,fun i k J U A=>?_⟩,fun k row U=>?_,FN h.keep I,fun i J=>?_⟩
 ·rw[aB,SZ]
 ·unfold sV;by_cases e:i=rows.length
  ·subst e;rw[if_pos rfl,aD _ _ _ _ X,aD _ _ _ _ aa,aB];have:r=⟨[],kd,rt⟩:=by simpa using O.symm
   rw[this]
  ·have Y:i<rows.length:=by have:=(List.getElem?_eq_some_iff.1 O).1;rw[Xai]at this;simp at this;omega
   rw[if_neg e];rw[List.getElem?_append_left Y]at O;have E:=h.lin.coef i r O;rw[aD _ _ _ _ (fun e=>by rw[e,I]at E;cases E),aD _ _ _ _ (h.lin.ne Y),aD _ _ _ _ (fun e=>by rw[e,T]at E;cases E)];exact E
 ·have F : ∀ i, i < rows.length -> f i ≠ c := fun i J e => by obtain⟨r,O⟩:=aO J;have:=h.lin.coef i r O;rw[e,T]at this;cases this
  rw[Xai]at J U;simp at J U;unfold sV at A;by_cases e1:i=rows.length
  ·by_cases Z:k=rows.length
   ·omega
   ·rw[if_pos e1,if_neg Z]at A;exact absurd A.symm (F k (by omega))
  ·by_cases Z:k=rows.length
   ·rw[if_neg e1,if_pos Z]at A;exact absurd A (F i (by omega))
   ·rw[if_neg e1,if_neg Z]at A;exact h.lin.inj i k (by omega) (by omega) A
 ·have E:=h.keep k row U;rw[aD _ _ _ _ (fun e=>by rw[e,I]at E;cases E),aD _ _ _ _ (fun e=>by rw[e,h.nj]at U;cases U),aD _ _ _ _ (fun e=>by rw[e,T]at E;cases E)];exact E
 ·unfold sV;by_cases e:i=rows.length
  ·rw[if_pos e];exact FN h.keep T
  ·rw[if_neg e];rw[Xai]at J;simp at J;exact h.nf i (by omega)
def E8(d:Decision):Option PRow:=if d.kind=3 then some ⟨[],1,d.n⟩else if d.kind=4 then some ⟨[],3,d.n⟩else none
def xW(k:Nat):List PRow:=List.replicate k ⟨[],2,1⟩
def pY(l:List VType):List PRow:=l.map fun t=>⟨[],1,t.count⟩
def qM(l:List Cut):List PRow:=l.map fun q=>⟨[],(Ev q).1,(Ev q).2⟩
def nT(l:List Decision):List PRow:=l.filterMap E8
def kE(x:Instance)(cuts:List Cut)(ds:List Decision):List PRow:=xW (iM x).length++pY x.types++qM cuts++nT ds
def G6(ds:List Decision):(nT ds).length=(ds.filter CO).length:=by
 unfold nT;induction ds with
 | nil=>rfl
 | cons d l ih=>
  rw[List.filterMap_cons,List.filter_cons];by_cases A:d.kind=3
  ·rw[show E8 d=some ⟨[],1,d.n⟩from if_pos A,if_pos (show CO d=true by simp[CO,A])]
   try simp only[Xae,ih]
  ·by_cases E:d.kind=4
   ·rw[show E8 d=some ⟨[],3,d.n⟩from(if_neg A).trans (if_pos E),if_pos (show CO d=true by simp[CO,E])]
    try simp only[Xae,ih]
   ·rw[show E8 d=none from(if_neg A).trans (if_neg E),if_neg (show ¬CO d=true by simp[CO,A,E])]
    try exact ih
def xH(x:Instance)(cuts:List Cut)(ds:List Decision):(kE x cuts ds).length=fS x cuts ds:=by unfold kE xW pY qM fS;simp only[Xai,Xaa,Xbp,G6]
def DV{ds:List Decision}{k:Nat}{d:Decision}(h:ds[k]?=some d):nT (ds.take (k+1))=nT (ds.take k)++(E8 d).toList:=by
 unfold nT;rw[aZ h,List.filterMap_append]
 congr 1
def X5(x:Instance)(cuts:List Cut)(ds:List Decision)(h:MIn x cuts ds)(H0:aG)(K:AV->aG->Prop)(hK:∀j f Hn,RowsS H0 Hn j f (kE x cuts ds)->K (.os j) Hn):
  aX prog 49 [.agg (aE x),.sl (cuts.map eC),.sl (ds.map aM)] H0 K:=by
 have h1:=h.orders;have h2:=h.types;have h3:=h.cl;have h4:=h.dl;have am:=Ef x;refine aX.body (c:=f49.body.getD .skip) (fun t=>t == 7||t == 23||t == 37||t == 55||t == 72||t == 80) mixed func49 rfl (by kernel_rfl) ?_;unfold f49;simp only[Xbc];simp only[go_sem];refine aJ fun j hj=>?_
 have S:RowsS H0 (aI H0 j (some ⟨137,3,[]⟩)) j id []:=by refine⟨⟨aB _ _ _,fun i r hr=>(by simp at hr),fun i k hi=>absurd hi (by simp)⟩,fun k row hk=>?_,hj,fun i hi=>absurd hi (by simp)⟩;rw[aD _ _ _ _ (fun e=>by subst e;rw[hj]at hk;cases hk)];exact hk
 generalize aI H0 j _=H1 at S |-;simp only[go_sem];refine aP (KQ x h1) ?_;simp only[go_sem];refine aP (hY _) ?_;rw[Ii x h1];simp only[go_sem,Xaa];refine⟨fun ρ H=>∃(k:Nat) (j:Nat) (f:Nat->Nat),k<=(iM x).length/\ρ 1=.sl (cuts.map eC)/\ρ 2=.sl (ds.map aM)/\ρ 3=.rp (aE x) 0/\ρ 19=int ((iM x).length:Nat)/\ρ 20=int k/\ρ 7=.os j/\RowsS H0 H j f (xW k),fun ρ _=>(iM x).length-aU (ρ 20),⟨0,j,id,Xab _,by simp only[go_sem],by simp only[go_sem],by simp only[go_sem],by simp only[go_sem,Xaa],(by simp only[go_sem];rfl),by simp only[go_sem],S⟩,?_⟩;rintro ρ H ⟨k,j,f,hk,X,I,e3,af,ag,E,S⟩;simp only[go_sem,X,I,e3,af,ag,E];refine aA (fun A=>?_) (fun F=>?_)
 ·have A:=ltB (by simpa using A);simp only[go_sem,X,I,e3,af,ag,E];refine aJ fun c hc=>?_
  have R:=(S.lin.new hc (some (fG []))).row;refine bT R ⟨rfl,rfl⟩ ⟨rfl,trivial⟩ (by simp only[List.length_mapIdx,xW,Xbp,Xae,List.length_nil];omega) (fun j' T=>?_);have S2:=S.app hc T 2 1;have e:xW (k+1)=xW k++[⟨[],2,1⟩]:=List.replicate_succ';rw[<-e]at S2;simp only[go_sem,X,I,e3,af,ag,E,aT k];exact⟨⟨k+1,j',_,A,rfl,rfl,S2⟩,by simp only[aF];omega⟩
 have F:=geB hk (by simpa using F);subst F;simp only[go_sem,X,I,e3,af,ag,E,Xaa];generalize hB:xW (iM x).length=B at S;have an:B.length<=62:=by rw[<-hB];unfold xW;rw[Xbp];omega
 refine⟨fun ρ H=>∃(k:Nat) (j:Nat) (f:Nat->Nat),k<=x.types.length/\ρ 1=.sl (cuts.map eC)/\ρ 2=.sl (ds.map aM)/\ρ 28=.sl (x.types.map bM)/\ρ 29=int (x.types.length:Nat)/\ρ 30=int k/\ρ 7=.os j/\RowsS H0 H j f (B++pY (x.types.take k)),fun ρ _=>x.types.length-aU (ρ 30),⟨0,j,f,Xab _,by simp only[go_sem,X,I],by simp only[go_sem,X,I],by simp only[go_sem,X,I],by simp only[go_sem,Xaa,X,I],(by simp only[go_sem,X,I];rfl),by simp only[go_sem,E],by simpa[pY]using S⟩,?_⟩;rintro ρ H ⟨k,j,f,hk,X,I,ab,ae,ac,E,S⟩;simp only[go_sem,X,I,ab,ae,ac,E];refine aA (fun A=>?_) (fun F=>?_)
 ·have A:=ltB (by simpa using A);obtain⟨t,ht⟩:=aO A;have b1:=inB A;have ah:(B++pY (x.types.take k)).length<=62+k:=by unfold pY;simp only[Xai,Xaa,Xah];omega
  simp only[go_sem,X,I,ab,ae,ac,E,aC ht,b1];refine aJ fun i9 h9=>?_
  simp only[go_sem,X,I,ab,ae,ac,E];refine aN (aB _ _ _) (by simp[jZ]) ?_;have U:=S.new h9;generalize hG:aI (aI H i9 _) i9 _=HG;replace U:RowsS H0 HG j f (B++pY (x.types.take k)):=by rw[<-hG];exact U _ _
  have R9:HG i9=some (⟨70,14,[bM t]⟩:Row):=by rw[<-hG,aB];rfl
  clear hG h9;simp only[go_sem,X,I,ab,ae,ac,E,R9];refine aJ fun c hc=>?_
  have R:=(U.lin.new hc (some (fG []))).row;refine bT R ⟨rfl,rfl⟩ ⟨rfl,trivial⟩ (by simp only[List.length_mapIdx,Xae,List.length_nil];omega) (fun j' T=>?_);have S2:=U.app hc T 1 t.count;have e:B++pY (x.types.take (k+1))=B++pY (x.types.take k)++[⟨[],1,t.count⟩]:=by unfold pY;rw[aZ ht,Xak,Xbd];rfl
  rw[<-e]at S2;simp only[go_sem,X,I,ab,ae,ac,E,aT k];exact⟨⟨k+1,j',_,A,rfl,rfl,S2⟩,by simp only[aF];omega⟩
 have F:=geB hk (by simpa using F);subst F;rw[Xad]at S;simp only[go_sem,X,I,ab,ae,ac,E,Xaa];generalize ai:B++pY x.types=B2 at S;have al:B2.length<=62+1048576:=by rw[<-ai];unfold pY;rw[Xai,Xaa];omega
 refine⟨fun ρ H=>∃(k:Nat) (j:Nat) (f:Nat->Nat),k<=cuts.length/\ρ 2=.sl (ds.map aM)/\ρ 41=.sl (cuts.map eC)/\ρ 42=int (cuts.length:Nat)/\ρ 43=int k/\ρ 7=.os j/\RowsS H0 H j f (B2++qM (cuts.take k)),fun ρ _=>cuts.length-aU (ρ 43),⟨0,j,f,Xab _,by simp only[go_sem,I],by simp only[go_sem,I],by simp only[go_sem,Xaa,I],(by simp only[go_sem,I];rfl),by simp only[go_sem,E],by simpa[qM]using S⟩,?_⟩;rintro ρ H ⟨k,j,f,hk,I,aa,Y,Z,E,S⟩;simp only[go_sem,I,aa,Y,Z,E];refine aA (fun A=>?_) (fun F=>?_)
 ·have A:=ltB (by simpa using A);obtain⟨q,hq⟩:=aO A;have b1:=inB A;have ah:(B2++qM (cuts.take k)).length<=62+1048576+k:=by unfold qM;simp only[Xai,Xaa,Xah];omega
  simp only[go_sem,I,aa,Y,Z,E,aC hq,b1];refine aJ fun i9 h9=>?_
  simp only[go_sem,I,aa,Y,Z,E];refine aN (aB _ _ _) (by simp[pB]) ?_;have U:=S.new h9;generalize hG:aI (aI H i9 _) i9 _=HG;replace U:RowsS H0 HG j f (B2++qM (cuts.take k)):=by rw[<-hG];exact U _ _
  have R9:HG i9=some (⟨104,3,[eC q]⟩:Row):=by rw[<-hG,aB];rfl
  clear hG h9;simp only[go_sem,I,aa,Y,Z,E,R9];refine aP (abP q) ?_;simp only[go_sem,I,aa,Y,Z,E];refine aJ fun c hc=>?_
  have R:=(U.lin.new hc (some (fG []))).row;refine bT R ⟨rfl,rfl⟩ ⟨rfl,trivial⟩ (by simp only[List.length_mapIdx,Xae,List.length_nil];omega) (fun j' T=>?_);have S2:=U.app hc T (Ev q).1 (Ev q).2;have e:B2++qM (cuts.take (k+1))=B2++qM (cuts.take k)++[⟨[],(Ev q).1,(Ev q).2⟩]:=by unfold qM;rw[aZ hq,Xak,Xbd];rfl
  rw[<-e]at S2;simp only[go_sem,I,aa,Y,Z,E,aT k];exact⟨⟨k+1,j',_,A,rfl,rfl,S2⟩,by simp only[aF];omega⟩
 have F:=geB hk (by simpa using F);subst F;rw[Xad]at S;simp only[go_sem,I,aa,Y,Z,E,Xaa];generalize aj:B2++qM cuts=B3 at S;have ak:B3.length<=62+1048576+1048576:=by rw[<-aj];unfold qM;rw[Xai,Xaa];omega
 refine⟨fun ρ H=>∃(k:Nat) (j:Nat) (f:Nat->Nat),k<=ds.length/\ρ 59=.sl (ds.map aM)/\ρ 60=int (ds.length:Nat)/\ρ 61=int k/\ρ 7=.os j/\RowsS H0 H j f (B3++nT (ds.take k)),fun ρ _=>ds.length-aU (ρ 61),⟨0,j,f,Xab _,by simp only[go_sem],by simp only[go_sem,Xaa],(by simp only[go_sem];rfl),by simp only[go_sem,E],by simpa[nT]using S⟩,?_⟩;rintro ρ H ⟨k,j,f,hk,O,M,J,E,S⟩;simp only[go_sem,O,M,J,E];refine aA (fun A=>?_) (fun F=>?_)
 ·have A:=ltB (by simpa using A);obtain⟨d,hd⟩:=aO A;have b1:=inB A;have hs:=DV hd;have ah:(B3++nT (ds.take k)).length<=62+1048576+1048576+k:=by have:=Lj ds k;rw[Xai,G6];omega
  simp only[go_sem,O,M,J,E,aC hd,b1];refine aJ fun i9 h9=>?_
  simp only[go_sem,O,M,J,E];refine aN (aB _ _ _) (by simp[eA]) ?_;have U:=S.new h9;generalize hG:aI (aI H i9 _) i9 _=HG;replace U:RowsS H0 HG j f (B3++nT (ds.take k)):=by rw[<-hG];exact U _ _
  have R9:HG i9=some (⟨33,4,[aM d]⟩:Row):=by rw[<-hG,aB];rfl
  clear hG h9;simp only[go_sem,O,M,J,E,R9];refine aA (fun hb=>?_) (fun hb=>?_)
  ·have h3:d.kind=3:=by simpa using hb
   rw[show E8 d=some ⟨[],1,d.n⟩from if_pos h3]at hs;simp only[go_sem,O,M,J,E,R9];refine aJ fun c hc=>?_
   have R:=(U.lin.new hc (some (fG []))).row;refine bT R ⟨rfl,rfl⟩ ⟨rfl,trivial⟩ (by simp only[List.length_mapIdx,Xae,List.length_nil];omega) (fun j' T=>?_);have S2:=U.app hc T 1 d.n;have e:B3++nT (ds.take (k+1))=B3++nT (ds.take k)++[⟨[],1,d.n⟩]:=by rw[hs,Xbd];rfl
   rw[<-e]at S2;simp only[go_sem,O,M,J,E,aT k];exact⟨⟨k+1,j',_,A,rfl,rfl,S2⟩,by simp only[aF];omega⟩
  have h3:d.kind≠3:=by simpa using hb
  simp only[go_sem,O,M,J,E,R9];refine aA (fun hb=>?_) (fun hb=>?_)
  ·have h4:d.kind=4:=by simpa using hb
   rw[show E8 d=some ⟨[],3,d.n⟩from(if_neg h3).trans (if_pos h4)]at hs;simp only[go_sem,O,M,J,E,R9];refine aJ fun c hc=>?_
   have R:=(U.lin.new hc (some (fG []))).row;refine bT R ⟨rfl,rfl⟩ ⟨rfl,trivial⟩ (by simp only[List.length_mapIdx,Xae,List.length_nil];omega) (fun j' T=>?_);have S2:=U.app hc T 3 d.n;have e:B3++nT (ds.take (k+1))=B3++nT (ds.take k)++[⟨[],3,d.n⟩]:=by rw[hs,Xbd];rfl
   rw[<-e]at S2;simp only[go_sem,O,M,J,E,aT k];exact⟨⟨k+1,j',_,A,rfl,rfl,S2⟩,by simp only[aF];omega⟩
  have h4:d.kind≠4:=by simpa using hb
  rw[show E8 d=none from(if_neg h3).trans (if_neg h4)]at hs;simp only[go_sem,O,M,J,E,aT k];refine⟨⟨k+1,j,f,A,rfl,rfl,?_⟩,by simp only[aF];omega⟩;rw[hs];simpa using U
 have F:=geB hk (by simpa using F);subst F;rw[Xad]at S;simp only[go_sem,O,M,J,E];refine hK j f _ ?_;unfold kE;rw[hB,ai,aj];exact S
abbrev CZ(jc jr:Nat):Row:=⟨110,2,[[.os jc,.os jr]]⟩
def vF(r:PRow)(n:Int):PRow:=⟨r.coef++[n],r.kind,r.right⟩
def lJ(rows:List PRow)(col:List Int):Nat->List PRow
 | 0=>rows
 | k+1=>(lJ rows col k).set k (vF (rows.getD k ⟨[],0,0⟩) (col.getD k 0))
def jE(rows:List PRow)(A:List Int):∀k,(lJ rows A k).length=rows.length
 | 0=>rfl
 | k+1=>by rw[lJ,Xaw,jE rows A k]
def sA(rows:List PRow)(A:List Int):∀k i,(lJ rows A k)[i]?=if i<k then(rows[i]?).map (fun r=>vF r (A.getD i 0))else rows[i]?
 | 0,i=>by rw[if_neg (by omega)];rfl
 | k+1,i=>by
  rw[lJ,List.getElem?_set,jE];by_cases e:k=i
  ·subst e;rw[if_pos rfl,if_pos (show k<k+1 by omega)];by_cases E:k<rows.length
   ·rw[if_pos E,List.getD,List.getElem?_eq_getElem E];rfl
   ·rw[if_neg E,List.getElem?_eq_none (show rows.length<=k by omega)];rfl
  ·rw[if_neg e,sA rows A k i];by_cases F:i<k
   ·rw[if_pos F,if_pos (by omega)]
   ·rw[if_neg F,if_neg (by omega)]
structure AddS(H0 H:aG)(jp jc jr:Nat)(f:Nat->Nat)(n:Nat)(jc':Nat)(f':Nat->Nat)(cost:List Int)(rows:List PRow)(k:Nat):Prop where
 p:H jp=some (CZ jc' jr)
 c:H jc'=some (fG cost)
 lin:LinH H jr f' rows
 fc:∀i,i<rows.length->f' i≠jc'
 rest:∀i,k<=i->f' i=f i
 keep:∀q row,q≠jp->q≠jc->q≠jr->(∀i,i<n->q≠f i)->H0 q=some row->H q=some row
def AddS.step{H0 H:aG}{jp jc jr:Nat}{f:Nat->Nat}{n jc':Nat}{f':Nat->Nat}{cost:List Int}{rows:List PRow}{k:Nat}(S:AddS H0 H jp jc jr f n jc' f' cost rows k)(hn:n=rows.length){r:PRow}(Z:rows[k]?=some r){j':Nat}
  (A:H j'=none) (m:Int):AddS H0 (aI (aI (aI H (f' k) none) j' (some (fG (r.coef++[m])))) jr (some ⟨137,3,(rows.mapIdx (kV f')).set k [.os j',int r.kind,int r.right]⟩)) jp jc jr f n jc' (sV f' k j') cost (rows.set k (vF r m)) (k+1):=by
 have T:=(List.getElem?_eq_some_iff.1 Z).1;have ae:=S.lin.coef k r Z;have aa:jp≠jr:=fun e=>by have h1:=S.p;rw[e,S.lin.row]at h1;have h2:(tH f' rows).e=(CZ jc' jr).e:=congrArg Row.e (Option.some.inj h1);exact absurd (show(137:Nat)=110 from h2) (by decide)
 have ab:jp≠f' k:=fun e=>by have h1:=S.p;rw[e,ae]at h1;have h2:(fG r.coef).e=(CZ jc' jr).e:=congrArg Row.e (Option.some.inj h1);exact absurd (show(3:Nat)=110 from h2) (by decide)
 have X:jc'≠jr:=fun e=>by have h1:=S.c;rw[e,S.lin.row]at h1;have h2:(tH f' rows).e=(fG cost).e:=congrArg Row.e (Option.some.inj h1);exact absurd (show(137:Nat)=3 from h2) (by decide)
 have Y:jp≠j':=fun e=>by rw[<-e,S.p]at A;cases A
 have O:jc'≠j':=fun e=>by rw[<-e,S.c]at A;cases A
 have ac:jr≠j':=fun e=>by rw[<-e,S.lin.row]at A;cases A
 refine⟨?_,?_,⟨?_,fun i r2 F=>?_,fun i l J hl E=>?_⟩,fun i J=>?_,fun i J=>?_,fun q row q1 q2 q3 q4 hq=>?_⟩
 ·rw[aD _ _ _ _ aa,aD _ _ _ _ Y,aD _ _ _ _ ab];exact S.p
 ·rw[aD _ _ _ _ X,aD _ _ _ _ O,aD _ _ _ _ (S.fc k T).symm];exact S.c
 ·rw[aB];exact congrArg (fun l=>some (⟨137,3,l⟩:Row)) (RB f' rows k j' r (r.coef++[m]) Z)
 ·rw[List.getElem?_set]at F;unfold sV;by_cases e:k=i
  ·subst e;rw[if_pos rfl,if_pos T]at F;rw[if_pos rfl,aD _ _ _ _ ac.symm,aB];have:r2=vF r m:=(Option.some.inj F).symm;rw[this];rfl
  ·rw[if_neg e]at F;have U:=S.lin.coef i r2 F;have M:=(List.getElem?_eq_some_iff.1 F).1;rw[if_neg (fun h=>e h.symm),aD _ _ _ _ (S.lin.ne M),aD _ _ _ _ (fun h=>by rw[h,A]at U;cases U),aD _ _ _ _ (fun h=>e (S.lin.inj k i T M h.symm))];exact U
 ·rw[Xaw]at J hl;have I:∀i,i<rows.length->f' i≠j':=fun i J e=>by obtain⟨r,Z⟩:=aO J;have:=S.lin.coef i r Z;rw[e,A]at this;cases this
  unfold sV at E;by_cases e1:i=k
  ·by_cases e2:l=k
   ·omega
   ·rw[if_pos e1,if_neg e2]at E;exact absurd E.symm (I l hl)
  ·by_cases e2:l=k
   ·rw[if_neg e1,if_pos e2]at E;exact absurd E (I i J)
   ·rw[if_neg e1,if_neg e2]at E;exact S.lin.inj i l J hl E
 ·rw[Xaw]at J;unfold sV;by_cases e:i=k
  ·rw[if_pos e];exact O.symm
  ·rw[if_neg e];exact S.fc i J
 ·unfold sV;rw[if_neg (by omega)];exact S.rest i (by omega)
 ·have U:=S.keep q row q1 q2 q3 q4 hq;rw[aD _ _ _ _ q3,aD _ _ _ _ (fun h=>by rw[h,A]at U;cases U),aD _ _ _ _ (fun h=>q4 k (by omega) (h.trans (S.rest k (Xaf _))))];exact U
def Vs(f:Nat->Nat)(rows:List PRow){k:Nat}{r:PRow}(h:rows[k]?=some r):(rows.mapIdx (kV f)).getD k []=kV f k r:=by rw[List.getD,List.getElem?_mapIdx,h];rfl
def YX(n:Int)(A:List Int)(jp jc jr:Nat)(f:Nat->Nat)(cost:List Int)(rows:List PRow)(H0:aG)(K:AV->aG->Prop)(Hp:H0 jp=some (CZ jc jr))(Hc:H0 jc=some (fG cost))(L:LinH H0 jr f rows)(an:∀i,i<rows.length->f i≠jc)
  (a0:A.length=rows.length) (hl:A.length<=1048576) (a6:cost.length<=1048576) (ay:∀r∈rows,r.coef.length<=1048576)
  (hK:∀a jc' f' Hn,AddS H0 Hn jp jc jr f rows.length jc' f' (cost++[n]) (lJ rows A A.length) A.length->K a Hn):
  aX prog 52 [int n,.sl (A.map aQ),.op jp 0 0] H0 K:=by
 refine aX.body (c:=f52.body.getD .skip) (fun _=>false) mixed func52 rfl (by kernel_rfl) ?_;unfold f52;simp only[Xbc];simp only[go_sem];simp only[Hp,go_sem];refine bT Hc ⟨rfl,rfl⟩ ⟨rfl,trivial⟩ (by simp only[Xaa,Xae,List.length_nil];omega) (fun j' O=>?_);have aq:jp≠jc:=fun e=>by have h1:=Hp;rw[e,Hc]at h1;have Y:(fG cost).e=(CZ jc jr).e:=congrArg Row.e (Option.some.inj h1);exact absurd (show(3:Nat)=110 from Y) (by decide)
 have ar:jr≠jc:=fun e=>by have h1:=L.row;rw[e,Hc]at h1;have Y:(fG cost).e=(tH f rows).e:=congrArg Row.e (Option.some.inj h1);exact absurd (show(3:Nat)=137 from Y) (by decide)
 have U:jr≠jp:=fun e=>by have h1:=L.row;rw[e,Hp]at h1;have Y:(CZ jc jr).e=(tH f rows).e:=congrArg Row.e (Option.some.inj h1);exact absurd (show(110:Nat)=137 from Y) (by decide)
 have al:=sR (r':=(⟨3,1,(fG cost).es++[[int n]]⟩:Row)) Hp aq.symm O;simp only[go_sem];refine bO ZI al ⟨by simp,rfl,by simp⟩ ?_;have S:AddS H0 (aI (aI (aI H0 jc none) j' (some (⟨3,1,(fG cost).es++[[int n]]⟩:Row))) jp (some (CZ j' jr))) jp jc jr f rows.length j' f (cost++[n]) rows 0:=by
  have X:jp≠j':=bC Hp O;have ao:jr≠j':=bC L.row O;have aj:∀i,i<rows.length->f i≠j':=fun i hi e=>by obtain⟨r,M⟩:=aO hi;have:=L.coef i r M;rw[e,O]at this;cases this
  have ap:∀i,i<rows.length->f i≠jp:=fun i hi e=>by obtain⟨r,M⟩:=aO hi;have h1:=L.coef i r M;rw[e,Hp]at h1;have Y:(CZ jc jr).e=(fG r.coef).e:=congrArg Row.e (Option.some.inj h1);exact absurd (show(110:Nat)=3 from Y) (by decide)
  refine⟨aB _ _ _,?_,⟨?_,fun i r M=>?_,L.inj⟩,aj,fun _ _=>rfl,fun q row q1 q2 q3 q4 hq=>?_⟩
  ·rw[aD _ _ _ _ X.symm,aB];exact congrArg (fun l=>some (⟨3,1,l⟩:Row)) (Xak (f:=aQ) (l₁:=cost) (l₂:=[n])).symm
  ·rw[aD _ _ _ _ U,aD _ _ _ _ ao,aD _ _ _ _ ar];exact L.row
  ·have hi:=(List.getElem?_eq_some_iff.1 M).1;rw[aD _ _ _ _ (ap i hi),aD _ _ _ _ (aj i hi),aD _ _ _ _ (an i hi)];exact L.coef i r M
  ·rw[aD _ _ _ _ q1,aD _ _ _ _ (bC hq O),aD _ _ _ _ q2];exact hq
 generalize hG:aI (aI (aI H0 jc none) j' _) jp _=HG;replace S:AddS H0 HG jp jc jr f rows.length j' f (cost++[n]) rows 0:=by rw[<-hG];exact S
 clear hG al O;simp only[go_sem,Xaa];refine⟨fun ρ H=>∃(k:Nat) (jc':Nat) (f':Nat->Nat),k<=A.length/\ρ 2=.op jp 0 0/\ρ 13=.sl (A.map aQ)/\ρ 14=int (A.length:Nat)/\ρ 15=int k/\AddS H0 H jp jc jr f rows.length jc' f' (cost++[n]) (lJ rows A k) k,fun ρ _=>A.length-aU (ρ 15),⟨0,j',f,Xab _,by simp only[go_sem],by simp only[go_sem],by simp only[go_sem,Xaa],(by simp only[go_sem];rfl),S⟩,?_⟩;rintro ρ H ⟨k,jc',f',hk,e2,F,I,J,S⟩;simp only[go_sem,e2,F,I,J];refine aA (fun T=>?_) (fun ac=>?_)
 ·have T:=ltB (by simpa using T);obtain⟨m,hm⟩:=aO T;have b1:=inB T;obtain⟨r,M⟩:=aO (l:=lJ rows A k) (k:=k) (by rw[jE];omega);have b2:(0:Int)<=(k:Int)/\(k:Int)<((lJ rows A k).length:Int):=by rw[jE];omega
  have ai:rows[k]?=some r:=by rw[sA,if_neg (by omega)]at M;exact M
  have a4:=ay r (Xac ai);have af:lJ rows A (k+1)=(lJ rows A k).set k (vF r m):=by rw[lJ,List.getD,ai,List.getD,hm];rfl
  have aw:=jE rows A k;generalize lJ rows A k=rowsK at *;have ah:=Vs f' rowsK M;simp only[go_sem,e2,F,I,J,aC hm,b1];refine xE [jp] (.q 0 (.q 1 (.q 2 (.q 3 (.q 4 (.q 5 (.q 9 (.a2 6 (.q 7 (.a2 8 (.a1 10 (.a1 11 (.a1 12 (.a1 13 (.a1 14 .nil))))) 10 (.a1 8 (.a1 11 (.a1 12 (.a1 13 (.a1 14 .nil))))))) 10 (.a1 6 (.q 7 (.a1 8 (.a1 11 (.a1 12 (.a1 13 (.a1 14 .nil))))))))))))))) (by simp[S.p]) (by kernel_rfl) fun Hp Hr hp hq a7 a5=>?_
  have Pp:=(hp jp (by simp)).trans S.p;simp only[go_sem,e2,F,I,J,Pp];have ag:f' k≠jp:=fun e=>by have h1:=S.lin.coef k r M;rw[e,S.p]at h1;have Y:(CZ jc' jr).e=(fG r.coef).e:=congrArg Row.e (Option.some.inj h1);exact absurd (show(110:Nat)=3 from Y) (by decide)
  have Rr:Hr jr=some (tH f' rowsK):=(hq jr (by simpa using U)).trans S.lin.row;have Rk:Hr (f' k)=some (fG r.coef):=(hq (f' k) (by simpa using ag)).trans (S.lin.coef k r M);have am:f' k≠jr:=S.lin.ne (by omega);have au:∀(E:Nat) (G:aG),Hr E=none->G=aI (aI (aI Hr (f' k) none) E (some (fG (r.coef++[m])))) jr (some ⟨137,3,(rowsK.mapIdx (kV f')).set k [.os E,int r.kind,int r.right]⟩)->(∀q,q∈[jp]->G q=none)->∀Hm:aG,(∀q,q∈[jp]->Hm q=H q)->(∀q,¬q∈[jp]->Hm q=G q)->AddS H0 Hm jp jc jr f rows.length jc' (sV f' k E) (cost++[n]) (lJ rows A (k+1)) (k+1):=by
   intro E G az hG hd Hm ab aa;have X:jp≠E:=fun e=>by have:=hd jp (by simp);rw[hG,aD _ _ _ _ U.symm,e,aB]at this;cases this
   have av:H E=none:=by rw[<-hq E (by simpa using X.symm)];exact az
   have S2:=S.step aw.symm M av m;rw[af];have eM:Hm=aI (aI (aI H (f' k) none) E (some (fG (r.coef++[m])))) jr (some ⟨137,3,(rowsK.mapIdx (kV f')).set k [.os E,int r.kind,int r.right]⟩):=by
    funext q;by_cases ae:q=jp
    ·subst ae;rw[ab q (by simp),aD _ _ _ _ U.symm,aD _ _ _ _ X,aD _ _ _ _ ag.symm]
    ·rw[aa q (by simpa using ae),hG];simp only[aI];rw[hq q (by simpa using ae)]
   rw[eM];exact S2
  repeat' (first|(refine iB ?_ ?_)|(simp only[go_sem,e2,F,I,J,Rr,List.length_mapIdx,b2,ah]))
  all_goals
   refine⟨by omega,bT Rk ⟨rfl,rfl⟩ ⟨rfl,trivial⟩ (by simp only[Xaa,Xae,List.length_nil];omega) (fun E Z=>?_)⟩;have ax:Hr E=none:=Z;have ak:=sR (r':=(⟨3,1,(fG r.coef).es++[[int m]]⟩:Row)) Rr am Z;simp only[go_sem,e2,F,I,J,ak,List.length_mapIdx,b2];refine bO ZI ak ⟨by rw[List.length_mapIdx];omega,rfl,by simp⟩ ?_;rw[ah];simp only[go_sem];refine dN fun hd Hm ab aa=>?_
   have S3:=au E _ ax (by rw[show(fG (r.coef++[m]))=(⟨3,1,(fG r.coef).es++[[int m]]⟩:Row)from congrArg (fun l=>(⟨3,1,l⟩:Row)) (Xak (f:=aQ) (l₁:=r.coef) (l₂:=[m]))]) hd Hm ab aa;simp only[go_sem,e2,F,I,J,aT k];exact⟨⟨k+1,jc',_,T,rfl,S3⟩,by simp only[aF];omega⟩
 have ac:=geB hk (by simpa using ac);subst ac;simp only[go_sem,e2,F,I,J];exact hK _ jc' f' _ S
def bZ(n N:Int):Bool:=decide (n<0)||decide (n>=N)
def bR(s:Score):(aV s).length=4:=(rfl)
def tT(s:Score):(aV s).getD 0 .any=int s.cost:=(rfl)
def tG(s:Score):(aV s).getD 1 .any=int s.moved:=(rfl)
def tU(s:Score):(aV s).getD 2 .any=int s.other:=(rfl)
def uA(s:Score):(aV s).getD 3 .any=int s.work:=(rfl)
def nY(s:Score):(aV s).take 4=aV s:=(rfl)
def bB:Score:=⟨0,0,0,0⟩
def fB(o:Order):Score×Int:=if o.off=true then(bB,9)else if(o.penalty == -1)=true then(bB,23)else(⟨o.penalty,if(o.now != -1)=true then 1 else 0,0,0⟩,0)
def cD(x:Instance)(k:Int):Score×Int:=if bZ k x.orders.length=true then(bB,2)else match x.orders[k.toNat]? with|some o=>fB o|none=>(bB,2)
def Co(x:Instance)(k:Int):PC prog 42 [.agg (aE x),int k] (.tup [.agg (aV (cD x k).1),int (cD x k).2]):=by
 refine pcd func42 rfl rfl ?_;simp only[go_sem];refine aJ fun j hj=>?_
 have R:=aB bG j (some (⟨99,4,[[int 0,int 0,int 0,int 0]]⟩:Row));generalize aI bG j _=H0 at R |-;clear hj;simp only[go_sem];refine aA (fun h1=>?_) (fun h1=>?_)
 ·have e:cD x k=(bB,2):=if_pos h1;rw[e];simp only[go_sem];refine aN R (by simp) ?_;simp only[go_sem];exact .refl _
 have U:0<=k/\k<(x.orders.length:Int):=by simp only[Xaj,decide_eq_false_iff_not]at h1;omega
 obtain⟨o,Z⟩:=aO (show k.toNat<x.orders.length by omega);have e:cD x k=fB o:=by unfold cD;rw[if_neg (by rw[show bZ k x.orders.length=false from h1];simp),Z]
 rw[e];simp only[go_sem,aC Z,U];refine aJ fun i hi=>?_
 have J:j≠i:=bC R hi;simp only[go_sem];refine aN (aB _ _ _) (by simp[kB]) ?_;generalize A:aI (aI H0 i _) i _=H1;have E:H1 i=some ⟨58,16,[bF o]⟩:=by rw[<-A,aB];rfl
 have R:H1 j=some ⟨99,4,[[int 0,int 0,int 0,int 0]]⟩:=by rw[<-A,aD _ _ _ _ J,aD _ _ _ _ J];exact R
 clear A hi;simp only[go_sem,E];refine aA (fun M=>?_) (fun M=>?_)
 ·have e:fB o=(bB,9):=if_pos M;rw[e];simp only[go_sem];refine aN R (by simp) ?_;simp only[go_sem];exact .refl _
 simp only[go_sem,E];refine aA (fun T=>?_) (fun T=>?_)
 ·have e:fB o=(bB,23):=by unfold fB;rw[if_neg (by rw[M];simp),if_pos T]
  rw[e];simp only[go_sem];refine aN R (by simp) ?_;simp only[go_sem];exact .refl _
 have e:fB o=(⟨o.penalty,if(o.now != -1)=true then 1 else 0,0,0⟩,0):=by unfold fB;rw[if_neg (by rw[M];simp),if_neg (by rw[T];simp)]
 rw[e];simp only[go_sem,E];refine aJ fun q O=>?_
 have F:j≠q:=bC R O;have I:i≠q:=bC E O;simp only[go_sem];refine aN (aB _ _ _) (by simp) ?_;generalize A:aI (aI H1 q _) q _=H2;have Y:H2 q=some ⟨99,4,[[int o.penalty,int 0,int 0,int 0]]⟩:=by rw[<-A,aB];rfl
 have E:H2 i=some ⟨58,16,[bF o]⟩:=by rw[<-A,aD _ _ _ _ I,aD _ _ _ _ I];exact E
 have R:H2 j=some ⟨99,4,[[int 0,int 0,int 0,int 0]]⟩:=by rw[<-A,aD _ _ _ _ F,aD _ _ _ _ F];exact R
 clear A O;simp only[go_sem,E,Y];refine aA (fun X=>?_) (fun X=>?_)
 ·simp only[go_sem];refine bO so3 Y ⟨by simp,rfl,by simp⟩ ?_;simp only[go_sem];refine aN (by rw[aD _ _ _ _ F];exact R) (by simp) ?_;simp only[go_sem];rw[if_pos X];exact .refl _
 ·simp only[go_sem,Y];refine aN R (by simp) ?_;simp only[go_sem];rw[if_neg (by rw[X];simp)];exact .refl _
def aaC(s:Score):Int:=IntKind.i64.wrap (IntKind.i64.wrap (IntKind.i64.wrap (IntKind.i64.wrap (IntKind.i64.wrap (IntKind.i64.wrap (s.cost*16)+s.moved)*16)+s.other)*65536)+s.work)
def gB(s:Score):Int×Int:=if(decide (s.cost<0)||decide (s.moved<0)||decide (s.other<0)||decide (s.work<0))=true then(0,2)
 else if(decide (s.cost>1073741824)||decide (s.moved>=16)||decide (s.other>=16)||decide (s.work>=65536))=true then(0,4)else(aaC s,0)
def wJ(s:Score):PC prog 43 [.agg (aV s)] (.agg (aV s)):=by
 refine pcd func43 rfl rfl ?_;simp only[go_sem];refine aJ fun j A=>?_
 simp only[go_sem];refine aN (aB _ _ _) (by simp) ?_;simp only[go_sem];exact .refl _
def wV(s:Score):PC prog 31 [.agg (aV s)] (.tup [int (gB s).1,int (gB s).2]):=by
 refine pcd func31 rfl rfl ?_;simp only[go_sem];refine aP (wJ s) ?_;simp only[go_sem];refine aJ fun j T=>?_
 simp only[go_sem];refine bH T (by simp[bR]) fun X (R:X j=some (⟨126,4,[aV s]⟩)) N=>?_
 clear N T;simp only[go_sem,R];refine⟨fun ρ H=>∃(k:Nat),k<=4/\ρ 1=.rp (aV s) 0/\ρ 9=.agg (aV s)/\ρ 10=int k/\(∀e∈[s.cost,s.moved,s.other,s.work].take k,¬e<0),fun ρ _=>4-aU (ρ 10),⟨0,Xab _,by simp only[go_sem],by simp only[go_sem],(by simp only[go_sem];rfl),by simp⟩,?_⟩;rintro ρ H ⟨k,hk,J,I,A,M⟩;simp only[go_sem,J,I,A];refine aA (fun E=>?_) (fun F=>?_)
 ·have E:k<4:=by simp at E;omega
  obtain⟨e,Y⟩:=aO (l:=[s.cost,s.moved,s.other,s.work]) (show k<[s.cost,s.moved,s.other,s.work].length from E);have hg:(aV s).getD k .any=int e:=by
   have:aV s=[s.cost,s.moved,s.other,s.work].map fun n=>int n:=rfl
   rw[this,List.getD,List.getElem?_map,Y];rfl
  simp only[go_sem,J,I,A];refine⟨by omega,by omega,?_⟩;rw[Nat.mul_one,hg];simp only[go_sem,J,I,A];refine aA (fun O=>?_) (fun O=>?_)
  ·simp only[go_sem];have Z:=Xac Y;simp only[List.mem_cons,List.not_mem_nil,or_false]at Z;have e:gB s=(0,2):=if_pos (by simp at O |-;rcases Z with h|h|h|h <;> omega);rw[e];exact .refl _
  ·simp only[go_sem,J,I,A,aT k];refine⟨⟨k+1,E,rfl,fI (p:=fun e:Int=>¬e<0) Y (by simpa using O) M⟩,by simp only[aF];omega⟩
 have F:k=4:=by simp at F;omega
 subst F;have O:¬(decide (s.cost<0)||decide (s.moved<0)||decide (s.other<0)||decide (s.work<0))=true:=by have h0:=M s.cost (by simp);have h1:=M s.moved (by simp);have h2:=M s.other (by simp);have h3:=M s.work (by simp);simp;omega
 unfold gB;rw[if_neg O];simp only[go_sem,J,I,A];refine aA (fun U=>?_) (fun U=>?_)
 ·rw[if_pos U];simp only[go_sem];exact .refl _
 rw[if_neg (by rw[U];simp)];simp only[go_sem,J,I,A];exact .refl _
end Nu
namespace Nu
open Go.Proofs.Tryz
open Go.Nu
open Dec (kK gS dA)
abbrev E0:Row:=⟨110,2,[[.sl [],.sl []]]⟩
structure BldS(H:aG)(i8 i11 jc jr:Nat)(f:Nat->Nat)(cost:List Int)(rows:List PRow):Prop where
 r8:H i8=some E0
 p:H i11=some (CZ jc jr)
 c:H jc=some (fG cost)
 lin:LinH H jr f rows
 fc:∀i,i<rows.length->f i≠jc
 ne:i8≠i11
def LinH.mono{H H':aG}{jr:Nat}{f:Nat->Nat}{rows:List PRow}(h:LinH H jr f rows)(A:∀k row,H k=some row->H' k=some row):LinH H' jr f rows:=
 ⟨A _ _ h.row,fun i r E=>A _ _ (h.coef i r E),h.inj⟩
def BldS.mono{H H':aG}{i8 i11 jc jr:Nat}{f:Nat->Nat}{cost:List Int}{rows:List PRow}(h:BldS H i8 i11 jc jr f cost rows)(A:∀k row,H k=some row->H' k=some row):BldS H' i8 i11 jc jr f cost rows:=
 ⟨A _ _ h.r8,A _ _ h.p,A _ _ h.c,h.lin.mono A,h.fc,h.ne⟩
def D7{H:aG}{i:Nat}(E:H i=none)(a:Option Row):∀k row,H k=some row->aI H i a k=some row:=fun k row A=>by rw[aD _ _ _ _ (fun e=>by subst e;rw[E]at A;cases A)];exact A
def wY{H:aG}{i:Nat}(E:H i=none)(a b:Option Row):∀k row,H k=some row->aI (aI H i a) i b k=some row:=fun k row A=>by rw[aD _ _ _ _ (fun e=>by subst e;rw[E]at A;cases A)];exact D7 E a k row A
def BldS.add{H I:aG}{i8 i11 jc jr:Nat}{f:Nat->Nat}{cost:List Int}{rows:List PRow}(h:BldS H i8 i11 jc jr f cost rows){jc':Nat}{f':Nat->Nat}{E:List Int}{A:List PRow}{k:Nat}
  (S:AddS H I i11 jc jr f rows.length jc' f' E A k):BldS I i8 i11 jc' jr f' E A:=by
 refine⟨S.keep i8 _ h.ne (fun e=>?_) (fun e=>?_) (fun i M e=>?_) h.r8,S.p,S.c,S.lin,S.fc,h.ne⟩
 ·have h1:=h.r8;rw[e,h.c]at h1;have F:(fG cost).e=E0.e:=congrArg Row.e (Option.some.inj h1);exact absurd (show(3:Nat)=110 from F) (by decide)
 ·have h1:=h.r8;rw[e,h.lin.row]at h1;have F:(tH f rows).e=E0.e:=congrArg Row.e (Option.some.inj h1);exact absurd (show(137:Nat)=110 from F) (by decide)
 ·have h1:=h.r8;obtain⟨r,J⟩:=aO M;rw[e,h.lin.coef i r J]at h1;have F:(fG r.coef).e=E0.e:=congrArg Row.e (Option.some.inj h1);exact absurd (show(3:Nat)=110 from F) (by decide)
def gM(p:List Int×List PRow)(cost:Int)(col:List Int):List Int×List PRow:=(p.1++[cost],lJ p.2 col col.length)
def iQ(x:Instance)(o:Int)(n k:Nat):List Int:=((iM x).take k).map (fun i=>uT (i == o))++List.replicate (n-k) 0
def kX(x:Instance)(o:Int)(n:Nat):List Int:=(iM x).map (fun i=>uT (i == o))++List.replicate (n-(iM x).length) 0
def pZ(x:Instance)(o:Int):Int:=(gB (cD x o).1).1
def zP(x:Instance)(cuts:List Cut)(ds:List Decision)(l:List Column):List Int×List PRow:=l.foldl (fun s c=>gM s c.price (pK x c cuts ds)) ([],kE x cuts ds)
def zJ(x:Instance)(n:Nat)(s0:List Int×List PRow)(l:List Int):List Int×List PRow:=l.foldl (fun s o=>gM s (pZ x o) (kX x o n)) s0
def fZ(x:Instance)(d:Nat)(cols:List Column)(cuts:List Cut)(ds:List Decision):PLin×Int:=
 if vS x d cols cuts ds≠0 then(⟨[],[]⟩,vS x d cols cuts ds)
 else if fS x cuts ds>64\/(inM cols ds).length+(gQ x ds).length>8192 then(⟨[],[]⟩,4)
 else(⟨(zJ x (fS x cuts ds) (zP x cuts ds (inM cols ds)) (gQ x ds)).1,(zJ x (fS x cuts ds) (zP x cuts ds (inM cols ds)) (gQ x ds)).2⟩,0)
def qW(p:List Int×List PRow)(cost:Int)(A:List Int):(gM p cost A).2.length=p.2.length/\(gM p cost A).1.length=p.1.length+1:=by unfold gM;exact⟨jE _ _ _,by simp⟩
def Sz(p:List Int×List PRow)(n k:Nat):Prop:=p.1.length=k/\p.2.length=n/\∀r∈p.2,r.coef.length=k
def Sz.add{p:List Int×List PRow}{n k:Nat}(h:Sz p n k)(cost:Int){A:List Int}(O:A.length=n):Sz (gM p cost A) n (k+1):=by obtain⟨h1,I,M⟩:=h;refine⟨by rw[(qW p cost A).2,h1],by rw[(qW p cost A).1,I],fun r J=>?_⟩;obtain⟨i,F,rfl⟩:=List.getElem_of_mem J;have E:=List.getElem?_eq_getElem F;unfold gM at E F;rw[sA]at E;rw[jE]at F;rw[if_pos (by omega),List.getElem?_eq_getElem (by omega)]at E;have:(gM p cost A).2[i]=vF (p.2[i]'(by omega)) (A.getD i 0):=(Option.some.inj E).symm;rw[this];unfold vF;rw[Xai,M _ (List.getElem_mem _)];rfl
def Lc(x:Instance)(cuts:List Cut)(ds:List Decision):Sz ([],kE x cuts ds) (fS x cuts ds) 0:=by
 refine⟨rfl,xH x cuts ds,fun r A=>?_⟩;unfold kE xW pY qM nT at A;simp only[Xas,Xau,List.mem_filterMap]at A;rcases A with((h|⟨t,_,rfl⟩)|⟨t,_,rfl⟩)|⟨t,_,h⟩
 ·rw[List.eq_of_mem_replicate h];rfl
 ·rfl
 ·rfl
 ·unfold E8 at h;split at h
  ·cases h;rfl
  ·split at h
   ·cases h;rfl
   ·cases h
def BL{x:Instance}{cuts:List Cut}{ds:List Decision}{l:List Column}{k:Nat}{c:Column}(h:l[k]?=some c):zP x cuts ds (l.take (k+1))=gM (zP x cuts ds (l.take k)) c.price (pK x c cuts ds):=by unfold zP;rw[aZ h,List.foldl_append];rfl
def BQ{x:Instance}{n:Nat}{s0:List Int×List PRow}{l:List Int}{k:Nat}{o:Int}(h:l[k]?=some o):zJ x n s0 (l.take (k+1))=gM (zJ x n s0 (l.take k)) (pZ x o) (kX x o n):=by unfold zJ;rw[aZ h,List.foldl_append];rfl
def Dh(x:Instance)(cuts:List Cut)(ds:List Decision)(l:List Column):∀k,k<=l.length->Sz (zP x cuts ds (l.take k)) (fS x cuts ds) k
 | 0,_=>Lc x cuts ds
 | k+1,hk=>by obtain⟨c,A⟩:=aO (show k<l.length by omega);rw[BL A];exact(Dh x cuts ds l k (by omega)).add _ (zE x c cuts ds)
def wA(x:Instance)(o:Int){n:Nat}(h:(iM x).length<=n):(kX x o n).length=n:=by unfold kX;rw[Xai,Xaa,Xbp];omega
def HR(x:Instance){n m:Nat}{s0:List Int×List PRow}(A:(iM x).length<=n)(h0:Sz s0 n m)(l:List Int):∀k,k<=l.length->Sz (zJ x n s0 (l.take k)) n (m+k)
 | 0,_=>h0
 | k+1,hk=>by obtain⟨c,E⟩:=aO (show k<l.length by omega);rw[BQ E];exact(HR x A h0 l k (by omega)).add _ (wA x c A)
def Sc{H:aG}(f:Nat->Nat)(rows:List PRow)(h:∀(i:Nat) (r:PRow),rows[i]?=some r->H (f i)=some (fG r.coef)):ConvE H (rows.mapIdx (kV f)) (rows.map iN):=by
 induction rows generalizing f with
 | nil=>exact .nil
 | cons r l ih=>rw[List.mapIdx_cons,Xat];refine .cons _ _ _ _ (.cons _ _ _ _ (.row _ _ _ (h 0 r rfl) (ConvE.refl _)) (ConvL.refl _)) ?_;exact ih (fun i=>f (i+1)) fun i r2 A=>h (i+1) r2 (by rw[List.getElem?_cons_succ];exact A)
def Nj{x:Instance}{d:Nat}{A:List Column}{cuts:List Cut}{ds:List Decision}(h:vS x d A cuts ds=0):kK x ds=0/\(∀q∈cuts,mL x d q=0)/\∀c∈A,EB x c=false:=by
 unfold vS at h;split at h
 ·next h1=>exact absurd h h1
 next h1=>
 split at h
 ·next E=>exact absurd h E
 next E=>
 split at h
 ·cases h
 next J=>
 refine⟨by simpa using h1,fun q I=>Dec.Fe (by simpa using E) _ (Xau.2 ⟨q,I,rfl⟩),fun c F=>?_⟩;exact Bool.eq_false_iff.2 fun M=>J (Xan.2 ⟨c,F,M⟩)
def Nv{x:Instance}{d:Nat}{q:Cut}(h:mL x d q=0):0<=q.set:=by
 unfold mL tW at h;refine Decidable.byContradiction fun A=>?_
 rw[decide_eq_false (show ¬q.set>=0 by omega)]at h;simp at h;split at h
 ·cases h
 ·split at h
  ·cases h
  ·cases h
def Wm{x:Instance}{c:Column}(h:EB x c=false):0<c.set:=by unfold EB at h;simp only[Xaj,decide_eq_false_iff_not]at h;omega
def Pd{α:Type}(a b:α)(R:List α):∀A:List α,(A++a::R).set A.length b=A++b::R
 | []=>rfl
 | c::A=>by rw[List.cons_append,Xae,List.set_cons_succ,Pd a b R A];rfl
def LQ{x:Instance}{o:Int}{n k:Nat}{i:Int}(h:(iM x)[k]?=some i)(E:k<n):iQ x o n (k+1)=(iQ x o n k).set k (uT (i == o)):=by have A:=(List.getElem?_eq_some_iff.1 h).1;unfold iQ;rw[aZ h,Xak,show n-k=(n-(k+1))+1 by omega,List.replicate_succ,Xbd];have:=Pd (0:Int) (uT (i == o)) (List.replicate (n-(k+1)) 0) (((iM x).take k).map fun i=>uT (i == o));rw[Xaa,Xah,show min k (iM x).length=k by omega]at this;rw[this];rfl
def Nz{x:Instance}{o:Int}{n k:Nat}(h:k<=(iM x).length)(A:(iM x).length<=n):(iQ x o n k).length=n:=by unfold iQ;rw[Xai,Xaa,Xah,Xbp];omega
def VY(H:aG)(i:Nat)(a:Option Row)(h:H i=none):aI (aI H i a) i none=H:=by
 funext k;by_cases e:k=i
 ·subst e;rw[aB,h]
 ·rw[aD _ _ _ _ e,aD _ _ _ _ e]
def Xq(H:aG)(i:Nat)(a b:Option Row):aI (aI H i a) i b=aI H i b:=by
 funext k;by_cases e:k=i
 ·subst e;rw[aB,aB]
 ·rw[aD _ _ _ _ e,aD _ _ _ _ e,aD _ _ _ _ e]
def Xh(x:Instance)(d:Nat)(Y:List Column)(cuts:List Cut)(ds:List Decision)(bj:LoadsOk x d)(bq:x.types≠[])(h:MIn x cuts ds)(hl:Y.length<=1048576)(hs:∀c∈Y,c.set<=9223372036854775807)(hq:∀q∈cuts,q.set<=9223372036854775807):
  PC prog 34 [.agg (aE x),.sl (Y.map bA),.sl (cuts.map eC),.sl (ds.map aM)] (.tup [.agg (gC (fZ x d Y cuts ds).1),int (fZ x d Y cuts ds).2]):=by
 have h1:=h.orders;have h2:=h.types;have h3:=h.cl;have h4:=h.dl;have bx:=Ef x;refine pcb (fun t=>t == 39) func34 rfl rfl ?_;simp only[go_sem];refine aJ fun i8 h8=>?_
 have R8:=aB bG i8 (some E0);generalize aI bG i8 _=HGi8 at R8 |-;clear h8;simp only[go_sem];refine aP (Yc x d Y cuts ds bj bq h hl hs) ?_;unfold fZ;simp only[go_sem];refine aA (fun hb=>?_) (fun hb=>?_)
 ·rw[if_pos (by simpa using hb)];simp only[go_sem];refine aN R8 (by simp) ?_;simp only[go_sem];exact .refl _
 rw[if_neg (by simpa using hb)];simp only[go_sem];refine X5 x cuts ds h _ _ fun jr f H1 S=>?_
 have R8:=S.keep i8 _ R8;have Sl:=S.lin;have bp:=xH x cuts ds;simp only[go_sem];refine aJ fun ia ha=>?_
 refine aJ fun ib a4=>?_
 refine aJ fun i11 au=>?_
 simp only[go_sem];refine aN (aB _ _ _) (by simp) ?_;have B:BldS (aI (aI (aI (aI H1 ia (some (⟨3,1,[]⟩:Row))) ib (some ⟨137,3,[]⟩)) i11 (some E0)) i11 (some (CZ ia jr))) i8 i11 ia jr f [] (kE x cuts ds):=by
  have m1:=D7 ha (some (⟨3,1,[]⟩:Row));have m2:=D7 a4 (some (⟨137,3,[]⟩:Row));have m3:=wY au (some E0) (some (CZ ia jr));refine⟨m3 _ _ (m2 _ _ (m1 _ _ R8)),aB _ _ _,m3 _ _ (m2 _ _ (aB _ _ _)),((Sl.mono m1).mono m2).mono m3,fun i hi e=>?_,fun e=>?_⟩
  ·obtain⟨r,hr⟩:=aO hi;have:=Sl.coef i r hr;rw[e,ha]at this;cases this
  ·have:=m2 _ _ (m1 _ _ R8);rw[e,au]at this;cases this
 generalize hG:aI (aI (aI (aI H1 ia _) ib _) i11 _) i11 _=G;replace B:BldS G i8 i11 ia jr f [] (kE x cuts ds):=by rw[<-hG];exact B
 clear hG au a4 ha Sl R8 S;simp only[go_sem];refine aP (A0 Y ds hl h4) ?_;simp only[go_sem];refine aP (W9 x ds h1 h4) ?_;have bv:(inM Y ds).length<=Y.length:=Xbm _ _;have bt:(gQ x ds).length<=(iM x).length:=Xbm _ _;have bi:∀c∈inM Y ds,c∈Y:=fun c hc=>(List.mem_filter.1 hc).1
 obtain⟨_,bo,bk⟩:=Nj (show vS x d Y cuts ds=0 by simpa using hb);have bd:CutsB cuts:=⟨fun q a7=>⟨Nv (bo q a7),hq q a7⟩⟩;have b0:∀o∈gQ x ds,o∈iM x:=fun o ho=>(List.mem_filter.1 ho).1
 generalize inM Y ds=L at *;generalize gQ x ds=K at *;have w:IntKind.i64.wrap ((L.length:Int)+(K.length:Int))=((L.length+K.length:Nat):Int):=by rw[bE (by omega)];omega
 simp only[go_sem,B.p,B.lin.row,List.length_mapIdx,Xaa,bp,w];refine aA (fun hb=>?_) (fun hb=>?_)
 ·rw[if_pos (by simp at hb;omega)];simp only[go_sem];refine aN B.r8 (by simp) ?_;simp only[go_sem];exact .refl _
 have bw:fS x cuts ds<=64/\L.length+K.length<=8192:=by simp at hb;omega
 rw[if_neg (by omega)];have az:(iM x).length<=fS x cuts ds:=by unfold fS;omega
 simp only[go_sem];refine⟨fun ρ H=>∃(k:Nat) (jc:Nat) (f:Nat->Nat),k<=L.length/\ρ 2=.sl (cuts.map eC)/\ρ 3=.sl (ds.map aM)/\ρ 4=.rp (aE x) 0/\ρ 8=.op i8 0 0/\ρ 11=.op i11 0 0/\ρ 12=.sl (K.map aQ)/\ρ 13=.fn 52 [.op i11 0 0]/\ρ 60=.sl (L.map bA)/\ρ 61=int (L.length:Nat)/\ρ 62=int k/\BldS H i8 i11 jc jr f (zP x cuts ds (L.take k)).1 (zP x cuts ds (L.take k)).2,fun ρ _=>L.length-aU (ρ 62),⟨0,ia,f,Xab _,by simp only[go_sem],by simp only[go_sem],by simp only[go_sem],by simp only[go_sem],by simp only[go_sem],by simp only[go_sem],by simp only[go_sem],by simp only[go_sem],by simp only[go_sem,Xaa],(by simp only[go_sem];rfl),B⟩,?_⟩;rintro ρ H ⟨k,jc,f,hk,e2,e3,T,O,E,ae,A,ac,aa,af,B⟩;simp only[go_sem,e2,e3,T,O,E,ae,A,ac,aa,af];refine aA (fun Z=>?_) (fun ag=>?_)
 ·have Z:=ltB (by simpa using Z);obtain⟨c,hc⟩:=aO Z;have b1:=inB Z;have a0:=bi c (Xac hc);have hz:=Dh x cuts ds L k (by omega);have aw:=BL (x:=x) (cuts:=cuts) (ds:=ds) hc;generalize zP x cuts ds (L.take k)=p at *;simp only[go_sem,e2,e3,T,O,E,ae,A,ac,aa,af,aC hc,b1];refine aJ fun ao aq=>?_
  simp only[go_sem,e2,e3,T,O,E,ae,A,ac,aa,af];refine aN (aB _ _ _) (by simp[dW]) ?_;have B1:=B.mono (wY aq (some (⟨140,7,[[int 0,int 0,int 0,int 0,int 0,.sl [],.sl []]]⟩:Row)) (some (⟨140,7,[bA c]⟩:Row)));generalize hG:aI (aI H ao _) ao _=HG;replace B1:BldS HG i8 i11 jc jr f p.1 p.2:=by rw[<-hG];exact B1
  have a9:HG ao=some (⟨140,7,[bA c]⟩:Row):=by rw[<-hG,aB];rfl
  have a6:∀q row,H q=some row->q≠ao/\HG q=some row:=fun q row am=>⟨(fun e=>by subst e;rw[aq]at am;cases am),(by rw[<-hG];exact wY aq _ _ q row am)⟩
  clear hG aq;simp only[go_sem,e2,e3,T,O,E,ae,A,ac,aa,af];refine fW [ao] [(0,true),(1,true),(2,true),(3,true),(4,true),(5,true),(6,true),(7,false),(8,false)] (by simp[a9]) (by kernel_rfl) fun Hp Hr hp bb _ bu=>?_
  have Pp:=(hp ao (by simp)).trans a9;simp only[go_sem,e2,e3,T,O,E,ae,A,ac,aa,af,Pp];refine aP (YB x c cuts ds h ⟨by have:=Wm (bk c a0);omega,hs c a0⟩ bd) ?_;have B2:BldS Hr i8 i11 jc jr f p.1 p.2:=B.mono fun q row am=>(bb q (by simpa using(a6 q row am).1)).trans (a6 q row am).2
  have ay:=zE x c cuts ds;generalize pK x c cuts ds=C at *;simp only[go_sem,e2,e3,T,O,E,ae,A,ac,aa,af];refine YX c.price C i11 jc jr f p.1 p.2 Hr _ B2.p B2.c B2.lin B2.fc (by rw[ay,hz.2.1]) (by omega) (by rw[hz.1];omega) (fun r hr=>by rw[hz.2.2 r hr];omega) fun a jc' f' Hn S=>?_
  have B3:=B2.add S;simp only[go_sem,e2,e3,T,O,E,ae,A,ac,aa,af];refine dN fun hd Hm _ bm=>?_
  have B4:BldS Hm i8 i11 jc' jr f' (p.1++[c.price]) (lJ p.2 C C.length):=B3.mono fun q row am=>by
   have:q≠ao:=fun e=>by subst e;rw[hd q (by simp)]at am;cases am
   rw[bm q (by simpa using this)];exact am
  simp only[go_sem,e2,e3,T,O,E,ae,A,ac,aa,af,aT k];refine⟨⟨k+1,jc',f',Z,rfl,?_⟩,by simp only[aF];omega⟩;rw[aw];exact B4
 have ag:=geB hk (by simpa using ag);subst ag;rw[Xad]at B;have hz:=Dh x cuts ds L L.length (Xaf _);rw[Xad]at hz;generalize zP x cuts ds L=s1 at *;simp only[go_sem,e2,e3,T,O,E,ae,A,ac,aa,af];refine aP (KQ x h1) ?_;simp only[go_sem,e2,e3,T,O,E,ae,A,ac,aa,af];refine aP (hY _) ?_;rw[Ii x h1];simp only[go_sem,e2,e3,T,O,E,ae,A,ac,aa,af,Xaa];refine⟨fun ρ H=>∃(k:Nat) (jc:Nat) (f:Nat->Nat),k<=K.length/\ρ 4=.rp (aE x) 0/\ρ 8=.op i8 0 0/\ρ 11=.op i11 0 0/\ρ 13=.fn 52 [.op i11 0 0]/\ρ 16=.sl ((iM x).map aQ)/\ρ 79=.sl (K.map aQ)/\ρ 80=int (K.length:Nat)/\ρ 81=int k/\BldS H i8 i11 jc jr f (zJ x (fS x cuts ds) s1 (K.take k)).1 (zJ x (fS x cuts ds) s1 (K.take k)).2,fun ρ _=>K.length-aU (ρ 81),⟨0,jc,f,Xab _,by simp only[go_sem,T,O,E,A],by simp only[go_sem,T,O,E,A],by simp only[go_sem,T,O,E,A],by simp only[go_sem,T,O,E,A],by simp only[go_sem,T,O,E,A],by simp only[go_sem,T,O,E,A],by simp only[go_sem,Xaa,T,O,E,A],(by simp only[go_sem,T,O,E,A];rfl),B⟩,?_⟩;rintro ρ H ⟨k,jc,f,hk,T,O,E,A,I,F,M,J,B⟩;simp only[go_sem,T,O,E,A,I,F,M,J];refine aA (fun Z=>?_) (fun ag=>?_)
 ·have Z:=ltB (by simpa using Z);obtain⟨o,ho⟩:=aO Z;have b1:=inB Z;have ap:=HR x az hz K k (by omega);have aw:=BQ (x:=x) (n:=fS x cuts ds) (s0:=s1) ho;generalize zJ x (fS x cuts ds) s1 (K.take k)=p at *;simp only[go_sem,T,O,E,A,I,F,M,J,aC ho,b1,B.p,B.lin.row,List.length_mapIdx,ap.2.1];refine⟨by omega,aJ fun X a5=>?_⟩;have a8:aI H X (some (⟨3,1,List.replicate (fS x cuts ds) [int 0]⟩:Row)) X=some (fG (iQ x o (fS x cuts ds) 0)):=by rw[aB];exact congrArg (fun l=>some (⟨3,1,l⟩:Row)) (by unfold iQ;rw[List.take_zero,List.map_nil,Xbo,Nat.sub_zero,List.map_replicate];rfl)
  have B1:BldS (aI (aI H X (some (⟨3,1,List.replicate (fS x cuts ds) [int 0]⟩:Row))) X none) i8 i11 jc jr f p.1 p.2:=by rw[VY _ _ _ a5];exact B
  generalize aI H X (some _)=HG at a8 B1 |-;generalize bz:fS x cuts ds=N at *;clear a5;simp only[go_sem,T,O,E,A,I,F,M,J,Xaa];generalize k=k0 at *;refine⟨fun ρ H=>∃(k:Nat),k<=(iM x).length/\ρ 4=.rp (aE x) 0/\ρ 8=.op i8 0 0/\ρ 11=.op i11 0 0/\ρ 13=.fn 52 [.op i11 0 0]/\ρ 16=.sl ((iM x).map aQ)/\ρ 18=int o/\ρ 19=.os X/\ρ 79=.sl (K.map aQ)/\ρ 80=int (K.length:Nat)/\ρ 81=int (k0:Nat)/\ρ 89=.sl ((iM x).map aQ)/\ρ 90=int ((iM x).length:Nat)/\ρ 91=int k/\H X=some (fG (iQ x o N k))/\BldS (aI H X none) i8 i11 jc jr f p.1 p.2,fun ρ _=>(iM x).length-aU (ρ 91),⟨0,Xab _,by simp only[go_sem,T,O,E,A,I,F,M,J],by simp only[go_sem,T,O,E,A,I,F,M,J],by simp only[go_sem,T,O,E,A,I,F,M,J],by simp only[go_sem,T,O,E,A,I,F,M,J],by simp only[go_sem,T,O,E,A,I,F,M,J],by simp only[go_sem,T,O,E,A,I,F,M,J],by simp only[go_sem,T,O,E,A,I,F,M,J],by simp only[go_sem,T,O,E,A,I,F,M,J],by simp only[go_sem,T,O,E,A,I,F,M,J],by simp only[go_sem,T,O,E,A,I,F,M,J],by simp only[go_sem,T,O,E,A,I,F,M,J],by simp only[go_sem,Xaa,T,O,E,A,I,F,M,J],(by simp only[go_sem,T,O,E,A,I,F,M,J];rfl),a8,B1⟩,?_⟩;rintro ρ H ⟨k,hk,T,O,E,A,I,aj,ai,F,M,J,ak,al,ah,R,B⟩;simp only[go_sem,T,O,E,A,I,aj,ai,F,M,J,ak,al,ah];refine aA (fun Z=>?_) (fun ag=>?_)
  ·have Z:=ltB (by simpa using Z);obtain⟨i,hi⟩:=aO Z;have b2:=inB Z;have br:=Nz (x:=x) (o:=o) hk az;simp only[go_sem,T,O,E,A,I,aj,ai,F,M,J,ak,al,ah,aC hi,b2];refine aP (PE _) ?_;simp only[go_sem,T,O,E,A,I,aj,ai,F,M,J,ak,al,ah,R,Xaa];have ax:((iQ x o N k).map aQ).set k (kT (((iQ x o N k).map aQ).getD k []) 0 [int (uT (i == o))])=(iQ x o N (k+1)).map aQ:=by obtain⟨v,hv⟩:=aO (l:=iQ x o N k) (k:=k) (by omega);rw[aC hv,LQ hi (by omega),List.map_set];rfl
   refine⟨by omega,bO so3 R ⟨by rw[Xaa];omega,rfl,by simp⟩ ?_⟩;have R2:aI H X (some (⟨3,1,((iQ x o N k).map aQ).set k (kT (((iQ x o N k).map aQ).getD k []) 0 [int (uT (i == o))])⟩:Row)) X=some (fG (iQ x o N (k+1))):=by rw[aB,ax]
   have B2:BldS (aI (aI H X (some (⟨3,1,((iQ x o N k).map aQ).set k (kT (((iQ x o N k).map aQ).getD k []) 0 [int (uT (i == o))])⟩:Row))) X none) i8 i11 jc jr f p.1 p.2:=by rw[Xq];exact B
   simp only[go_sem,T,O,E,A,I,aj,ai,F,M,J,ak,al,ah,aT k];exact⟨⟨k+1,Z,rfl,(aB _ _ _).symm.trans R2,B2⟩,by simp only[aF];omega⟩
  have ag:=geB hk (by simpa using ag);subst ag;have bh:iQ x o N (iM x).length=kX x o N:=by unfold iQ kX;rw[Xad]
  rw[bh]at R;have ay:=wA x o az;generalize kX x o N=C at *;simp only[go_sem,T,O,E,A,I,aj,ai,F,M,J,ak,al,ah];refine aP (Co x o) ?_;have bf:(gB (cD x o).1).1=pZ x o:=rfl;generalize cD x o=U at *;obtain⟨U,eU⟩:=U;simp only[go_sem,T,O,E,A,I,aj,ai,F,M,J,ak,al,ah];refine aJ fun ab av=>?_
  simp only[go_sem,T,O,E,A,I,aj,ai,F,M,J,ak,al,ah];refine aN (aB _ _ _) (by simp[bR]) ?_;have an:X≠ab:=bC R av;have ba:∀a b:Option Row,aI (aI (aI H ab a) ab b) X none=aI (aI (aI H X none) ab a) ab b:=by
   intro a b;funext q;simp only[aI];by_cases e1:q=X
   ·subst e1;rw[if_pos rfl,if_neg an,if_neg an,if_pos rfl]
   ·rw[if_neg e1,if_neg e1]
  have ar:aI H X none ab=none:=by rw[aD _ _ _ _ an.symm];exact av
  have B1:BldS (aI (aI (aI H ab (some (⟨99,4,[[int 0,int 0,int 0,int 0]]⟩:Row))) ab (some (⟨99,4,[aV U]⟩:Row))) X none) i8 i11 jc jr f p.1 p.2:=by rw[ba];exact B.mono (wY ar _ _)
  generalize hG:aI (aI H ab _) ab _=HG;have R1:HG X=some (fG C):=by rw[<-hG,aD _ _ _ _ an,aD _ _ _ _ an];exact R
  replace B1:BldS (aI HG X none) i8 i11 jc jr f p.1 p.2:=by rw[<-hG];exact B1
  have bn:HG ab=some (⟨99,4,[aV U]⟩:Row):=by rw[<-hG,aB];rfl
  clear hG av ar ba;simp only[go_sem,T,O,E,A,I,aj,ai,F,M,J,ak,al,ah,bn];refine aP (wV U) ?_;rw[bf];simp only[go_sem,T,O,E,A,I,aj,ai,F,M,J,ak,al,ah];refine aX.frz [X] (args':=[int (pZ x o),.sl (C.map aQ),.op i11 0 0]) (.cons _ _ _ _ (.refl _) (.cons _ _ _ _ (.row _ _ _ (by simp;exact R1) (ConvE.refl _)) (.cons _ _ _ _ (.refl _) .nil))) ?_;rw[show(fun q=>if q∈[X]then none else HG q)=aI HG X none from funext fun q=>by simp only[aI,Xax]];refine YX (pZ x o) C i11 jc jr f p.1 p.2 _ _ B1.p B1.c B1.lin B1.fc (by rw[ay,ap.2.1]) (by omega) (by rw[ap.1];omega) (fun r hr=>by rw[ap.2.2 r hr];omega) fun a jc' f' Hn S=>?_
  have B3:=B1.add S;simp only[go_sem,T,O,E,A,I,aj,ai,F,M,J,ak,al,ah,aT k0];refine⟨⟨k0+1,jc',f',by omega,rfl,?_⟩,by simp only[aF];omega⟩;rw[aw];exact B3
 have ag:=geB hk (by simpa using ag);subst ag;rw[Xad]at B;generalize zJ x (fS x cuts ds) s1 K=s2 at *;simp only[go_sem,T,O,E,A,B.p];refine aN B.r8 (by simp) ?_;have be:jc≠i8:=fun e=>by have h1:=B.r8;rw[<-e,B.c]at h1;have h2:(fG s2.1).e=E0.e:=congrArg Row.e (Option.some.inj h1);exact absurd (show(3:Nat)=110 from h2) (by decide)
 have bg:jr≠i8:=fun e=>by have h1:=B.r8;rw[<-e,B.lin.row]at h1;have h2:(tH f s2.2).e=E0.e:=congrArg Row.e (Option.some.inj h1);exact absurd (show(137:Nat)=110 from h2) (by decide)
 have bc:∀(i:Nat) (r:PRow),s2.2[i]?=some r->f i≠i8:=fun i r hr e=>by have h1:=B.r8;rw[<-e,B.lin.coef i r hr]at h1;have h2:(fG r.coef).e=E0.e:=congrArg Row.e (Option.some.inj h1);exact absurd (show(3:Nat)=110 from h2) (by decide)
 simp only[go_sem,T,O,E,A];refine .tup _ _ (.cons _ _ _ _ (.agg _ _ (.cons _ _ _ _ (.row _ _ _ (by rw[aD _ _ _ _ be];exact B.c) (ConvE.refl _)) (.cons _ _ _ _ (.row _ _ _ (by rw[aD _ _ _ _ bg];exact B.lin.row) (Sc f s2.2 fun i r hr=>(aD _ _ _ _ (bc i r hr)).trans (B.lin.coef i r hr))) .nil))) (.cons _ _ _ _ (.refl _) .nil))
end Nu
namespace Nu
open Go.Nu
open Dec (kK gS dA)
def is0(s:ByteArray):Bool:=bl s == [48]
def is1(s:ByteArray):Bool:=bl s == [49]
def M3(s:ByteArray):Bool:= !is0 s&& !is1 s
def zA(rows:List PRow):Prop:=∀r∈rows,(∀n∈r.coef,n=0\/n=1)/\oX r.right
def JK{rows:List PRow}{A:List Int}(h:zA rows)(T:∀n∈A,n=0\/n=1):zA (lJ rows A A.length):=by
 intro r U;obtain⟨i,F,rfl⟩:=List.getElem_of_mem U;have I:=List.getElem?_eq_getElem F;rw[sA]at I;rw[jE]at F;have M:=h _ (List.getElem_mem F);by_cases E:i<A.length
 ·rw[if_pos E,List.getElem?_eq_getElem F]at I;have e:(lJ rows A A.length)[i]'(by rw[jE];exact F)=vF (rows[i]) (A.getD i 0):=(Option.some.inj I).symm;rw[e];unfold vF;refine⟨fun n J=>?_,M.2⟩;rcases Xas.1 J with J|J
  ·exact M.1 n J
  ·have O:n=A.getD i 0:=by simpa using J
   rw[O,List.getD,List.getElem?_eq_getElem E];exact T _ (List.getElem_mem E)
 ·rw[if_neg E,List.getElem?_eq_getElem F]at I;have e:(lJ rows A A.length)[i]'(by rw[jE];exact F)=rows[i]:=(Option.some.inj I).symm;rw[e];exact M
structure RightB(x:Instance)(cuts:List Cut)(ds:List Decision):Prop where
 types:∀t∈x.types,oX t.count
 cuts:∀q∈cuts,oX q.n
 ds:∀d∈ds,oX d.n
def V8{x:Instance}{cuts:List Cut}{ds:List Decision}(h:RightB x cuts ds):zA (kE x cuts ds):=by
 intro r A;have h1:oX 1:=by unfold oX;omega
 unfold kE xW pY qM nT at A;simp only[Xas,Xau,List.mem_filterMap]at A;rcases A with((A|⟨t,J,rfl⟩)|⟨q,I,rfl⟩)|⟨d,F,A⟩
 ·rw[List.eq_of_mem_replicate A];exact⟨fun n E=>(by cases E),h1⟩
 ·exact⟨fun n E=>(by cases E),h.types t J⟩
 ·refine⟨fun n E=>(by cases E),?_⟩;show oX (Ev q).2;unfold Ev;split
  ·exact h1
  ·split
   ·exact h.cuts q I
   ·unfold oX;omega
 ·unfold E8 at A;split at A
  ·cases A;exact⟨fun n E=>(by cases E),h.ds d F⟩
  ·split at A
   ·cases A;exact⟨fun n E=>(by cases E),h.ds d F⟩
   ·cases A
def Pw{x:Instance}{cuts:List Cut}{ds:List Decision}(h:RightB x cuts ds)(l:List Column):∀k,k<=l.length->zA (zP x cuts ds (l.take k)).2
 | 0,_=>V8 h
 | k+1,hk=>by obtain⟨c,A⟩:=aO (show k<l.length by omega);rw[BL A];exact JK (Pw h l k (by omega)) fun n E=>SN E
def NW{x:Instance}{o:Int}{n:Nat}{m:Int}(h:m∈kX x o n):m=0\/m=1:=by
 unfold kX at h;rcases Xas.1 h with h|h
 ·obtain⟨i,_,rfl⟩:=Xau.1 h;exact C3 _
 ·exact .inl (List.eq_of_mem_replicate h)
def Qs{x:Instance}{n:Nat}{s0:List Int×List PRow}(h:zA s0.2)(l:List Int):∀k,k<=l.length->zA (zJ x n s0 (l.take k)).2
 | 0,_=>h
 | k+1,hk=>by obtain⟨c,A⟩:=aO (show k<l.length by omega);rw[BQ A];exact JK (Qs h l k (by omega)) fun n E=>NW E
def Jy{x:Instance}{d:Nat}{A:List Column}{cuts:List Cut}{ds:List Decision}(h:(fZ x d A cuts ds).2=0)(T:RightB x cuts ds):
  vS x d A cuts ds=0/\(fZ x d A cuts ds).1.cost.length=(inM A ds).length+(gQ x ds).length/\(inM A ds).length+(gQ x ds).length<=8192/\(fZ x d A cuts ds).1.rows.length=fS x cuts ds/\fS x cuts ds<=64 /\
   (∀r∈(fZ x d A cuts ds).1.rows,r.coef.length=(inM A ds).length+(gQ x ds).length)/\zA (fZ x d A cuts ds).1.rows:=by
 unfold fZ at h |-;split at h
 ·next h1=>exact absurd h h1
 next h1=>
 split at h
 ·cases h
 next O=>
 rw[if_neg h1,if_neg O];have M:=Dh x cuts ds (inM A ds) _ (Xaf _);have E:=Pw T (inM A ds) _ (Xaf _);rw[Xad]at M E;have J:(iM x).length<=fS x cuts ds:=by unfold fS;omega
 have I:=HR x J M (gQ x ds) _ (Xaf _);have F:=Qs (x:=x) (n:=fS x cuts ds) E (gQ x ds) _ (Xaf _);rw[Xad]at I F;exact⟨by simpa using h1,I.1,by omega,I.2.1,by omega,I.2.2,F⟩
def RT{x:Instance}{d:Nat}{A:List Column}{cuts:List Cut}{ds:List Decision}(h:(fZ x d A cuts ds).2=0)(E:RightB x cuts ds):LinB (fZ x d A cuts ds).1:=by obtain⟨_,h1,M,O,J,_,F⟩:=Jy h E;exact⟨by omega,by omega,fun r E n I=>by rcases(F r E).1 n I with e|e <;> unfold oX <;> omega,fun r E=>(F r E).2⟩
end Nu
namespace Nu.Ps
open Go.Nu Go.So
open Dec (kK gS dA)
open Sq (EvalB BestQ sP Am oA Y7)
structure PrOk(x:Instance)(d:Nat):Prop where
 ev:EvalB x
 n8:x.orders.length<=8
 ty:x.types.length<=1000
 lo:LoadsOk x d
 ne:x.types≠[]
end Nu.Ps
namespace Nu.Ps
open Go.Nu Go.So
open Dec (kK gS dA)
open Sq (EvalB BestQ sP Am oA gP)
def TA(x:Instance)(r:Route): -9223372036854775808<=(gP x r).1/\(gP x r).1<=9223372036854775807:=by
 unfold gP;split
 ·show -9223372036854775808<=(0:Int)/\(0:Int)<=9223372036854775807;omega
 ·unfold Sq.gB;split
  ·exact⟨by decide,by decide⟩
  ·split
   ·exact⟨by decide,by decide⟩
   ·exact Rx.KE _
structure ColQ(x:Instance)(c:Column):Prop where
 b:ColB c
 price: -9223372036854775808<=c.price/\c.price<=9223372036854775807
def Pm{x:Instance}{c:Column}(A:x.orders.length<=8)(h:c∈sP x):ColQ x c:=by
 obtain⟨k,s,h⟩:=Am A h;obtain⟨l,E,_,_,_⟩:=h.is;have h1:=h.pos;have F:=h.top;have I:(2:Int)^x.orders.length<=256:=by
  have:2^x.orders.length<=256:=Xag (Xaq (by decide) A) (by decide)
  exact_mod_cast this
 rw[E];exact⟨⟨by show 0<=(s:Int)/\(s:Int)<=9223372036854775807;omega⟩,TA _ _⟩
end Nu.Ps
namespace Nu
open Go.Nu
open Dec (kK gS dA)
end Nu
namespace Nu
open Go.Nu
open Dec (kK dA)
def jP(r:PRow)(l:List (Int×List Int))(i:Nat):PRow:=⟨r.coef++l.map fun c=>c.2.getD i 0,r.kind,r.right⟩
def pE(p:List Int×List PRow)(l:List (Int×List Int)):List Int×List PRow:=l.foldl (fun s c=>gM s c.1 c.2) p
def wP:∀(l:List (Int×List Int)) (p:List Int×List PRow),(pE p l).1=p.1++l.map (·.1)
 | [],p=>by simp[pE]
 | c::l,p=>by show(pE (gM p c.1 c.2) l).1=_;rw[wP l];unfold gM;simp
def yZ:∀(l:List (Int×List Int)) (p:List Int×List PRow),(∀c∈l,c.2.length=p.2.length)->∀i r,p.2[i]?=some r->(pE p l).2[i]?=some (jP r l i)
 | [],p,_,i,r,h=>by show p.2[i]?=_;rw[h];unfold jP;simp
 | c::l,p,hl,i,r,h=>by
  show(pE (gM p c.1 c.2) l).2[i]?=_;have F:=(List.getElem?_eq_some_iff.1 h).1;have A:(gM p c.1 c.2).2[i]?=some (vF r (c.2.getD i 0)):=by unfold gM;rw[sA,if_pos (by rw[hl c (by simp)];exact F),h];rfl
  rw[yZ l _ (fun d E=>by rw[(qW p c.1 c.2).1];exact hl d (by simp[E])) i _ A];unfold jP vF;simp
def Ep:∀(l:List (Int×List Int)) (p:List Int×List PRow),(pE p l).2.length=p.2.length
 | [],p=>rfl
 | c::l,p=>by show(pE (gM p c.1 c.2) l).2.length=_;rw[Ep l,(qW p c.1 c.2).1]
def abI(x:Instance)(cuts:List Cut)(ds:List Decision)(c:Column):Int×List Int:=(c.price,pK x c cuts ds)
def aaW(x:Instance)(n:Nat)(o:Int):Int×List Int:=(pZ x o,kX x o n)
def Tz(x:Instance)(cuts:List Cut)(ds:List Decision)(l:List Column):zP x cuts ds l=pE ([],kE x cuts ds) (l.map (abI x cuts ds)):=by unfold zP pE;rw[List.foldl_map];rfl
def TV(x:Instance)(n:Nat)(s0:List Int×List PRow)(l:List Int):zJ x n s0 l=pE s0 (l.map (aaW x n)):=by unfold zJ pE;rw[List.foldl_map];rfl
def Z2(x:Instance)(cuts:List Cut)(ds:List Decision)(L:List Column)(K:List Int)(i:Nat):List Int:=L.map (fun c=>(pK x c cuts ds).getD i 0)++K.map fun o=>(kX x o (fS x cuts ds)).getD i 0
def N9{x:Instance}{d:Nat}{A:List Column}{cuts:List Cut}{ds:List Decision}(h:(fZ x d A cuts ds).2=0):
  (fZ x d A cuts ds).1.cost=(inM A ds).map (·.price)++(gQ x ds).map (pZ x) /\
  ∀(i:Nat) (r:PRow),(kE x cuts ds)[i]?=some r->(fZ x d A cuts ds).1.rows[i]?=some (⟨Z2 x cuts ds (inM A ds) (gQ x ds) i,r.kind,r.right⟩:PRow):=by
 have F:(iM x).length<=fS x cuts ds:=by unfold fS;omega
 unfold fZ at h |-;split at h
 ·next h1=>exact absurd h h1
 next h1=>
 split at h
 ·cases h
 next J=>
 rw[if_neg h1,if_neg J];show(zJ x (fS x cuts ds) (zP x cuts ds (inM A ds)) (gQ x ds)).1=_/\∀(i:Nat) (r:PRow),(kE x cuts ds)[i]?=some r->(zJ x (fS x cuts ds) (zP x cuts ds (inM A ds)) (gQ x ds)).2[i]?=some (⟨Z2 x cuts ds (inM A ds) (gQ x ds) i,r.kind,r.right⟩:PRow);generalize inM A ds=L;generalize gQ x ds=K;rw[Tz,TV];refine⟨?_,fun i r I=>?_⟩
 ·rw[wP,wP,Xbo,List.map_map,List.map_map];rfl
 ·have E:r.coef=[]:=List.eq_nil_of_length_eq_zero ((Lc x cuts ds).2.2 r (Xac I));have M:=yZ (L.map (abI x cuts ds)) ([],kE x cuts ds) (fun c E=>by obtain⟨a,_,rfl⟩:=Xau.1 E;show(pK x a cuts ds).length=(kE x cuts ds).length;rw[zE,xH]) i r I;rw[yZ (K.map (aaW x (fS x cuts ds))) _ (fun c E=>by obtain⟨a,_,rfl⟩:=Xau.1 E;show(kX x a (fS x cuts ds)).length=_;rw[wA x a F,Ep];exact(xH x cuts ds).symm) i _ M];unfold jP Z2;rw[E,Xbo,List.map_map,List.map_map];rfl
end Nu
namespace Nu
open Go.Proofs.Tryz
open Go.Nu
open Dec (kK gS dA)
open Sq (EvalB BestQ sP Am oA gP)
open Ps (PrOk)
def kG(x:Instance)(b:Bool):Row:=⟨85,9,[[.sl (x.net.places.map Go.Aw.D.dB),.sl (x.net.arcs.map eH),.sl (x.types.map bM),.sl (x.orders.map bF),.sl (x.apart.map dL),.sl (x.before.map dL),.sl (if b=true then(sP x).map bA else[]),int 0,boo b]]⟩
def abV(x:Instance){d:Nat}(h:PrOk x d)(b:Bool){j:Nat}{H:aG}{K:AV->aG->Prop}(E:H j=some (kG x b))(M:∀H',H' j=some (kG x true)->(∀k r,k≠j->H k=some r->H' k=some r)->K (.tup [.sl ((sP x).map bA),int 0]) H'):aX prog 33 [.op j 0 0] H K:=by
 have T:=Sq.NC.pc2 (Sq.Y7 x h.ev h.n8 h.ty);refine aX.body (c:=f33.body.getD .skip) (fun _=>false) mixed func33 rfl (by kernel_rfl) ?_;unfold f33;simp only[Xbc];simp only[go_sem];simp only[go_sem,E,kG];refine aA (fun A=>?_) (fun A=>?_)
 ·have A:b=false:=by simpa using A
  subst A;simp only[go_sem,E,kG];refine aP (args:=[.agg (aE x)]) T ?_;simp only[go_sem];refine bO ⟨_,rfl,rfl⟩ E (by simp[kG]) ?_;simp only[go_sem];refine bO ⟨_,rfl,rfl⟩ (aB _ _ _) (by simp[kG]) ?_;simp only[go_sem];refine bO ⟨_,rfl,rfl⟩ (aB _ _ _) (by simp[kG]) ?_;generalize F:aI _ j _=G;have R:G j=some (kG x true):=by rw[<-F,aB];rfl
  have O:∀k r,k≠j->H k=some r->G k=some r:=fun k r J I=>by rw[<-F,aD _ _ _ _ J,aD _ _ _ _ J,aD _ _ _ _ J];exact I
  clear F;simp only[go_sem];refine dD (by rfl) (by kernel_rfl) ?_;simp only[go_sem,R,kG];exact M _ R O
 ·have A:b=true:=by simpa using A
  subst A;simp only[go_sem];refine dD (by rfl) (by kernel_rfl) ?_;simp only[go_sem,E,kG];exact M _ E fun k r _ I=>I
def Zd(s:ByteArray)(n:Int):Bool:=(vB s).2 == 0&&decide (Kl (vB s).1 (zed n)>=0)
def TL(p:PLin)(n:TNode)(price:Int):Int:=
 if(n.kind == 2)=true then(if(!DQ p n.dual)=true then 26 else 0)
 else if(!(qQ p n.dual).2|| !Zd (qQ p n.dual).1 price)=true then 26 else 0
def Jm(x:Instance)(d:Nat)(ds:List Decision)(n:TNode)(price:Int):Int:=
 if(!n.leaf||(n.kind != 1&&n.kind != 2))=true then 28
 else if(kK x ds != 0)=true then kK x ds
 else if n.cuts.length>24 then 27
 else if(n.cuts.any fun k=>mL x d k != 0)=true then 27
 else if((fZ x d (sP x) n.cuts ds).2 != 0)=true then(fZ x d (sP x) n.cuts ds).2
 else TL (fZ x d (sP x) n.cuts ds).1 n price
def Sp(a b:ByteArray):(EX a b).1.size<=1048576:=by
 unfold EX szZ;split
 ·split
  ·next h=>exact Xag (fT h) (by decide)
  ·exact Xab _
 ·exact Xab _
def Tq(s:ByteArray)(h:s.size<=1048576):(vB s).1.size<=1048576:=by
 obtain⟨_,_,A⟩:=CD s h;unfold vB;split
 ·exact Xab _
 ·split
  ·exact A
  ·exact Sp _ _
structure LeafB(x:Instance)(n:TNode)(ds:List Decision)(price:Int):Prop where
 types:∀t∈x.types,oX t.count
 cuts:∀q∈n.cuts,oX q.n/\q.set<=9223372036854775807
 dsn:∀d∈ds,oX d.n
 dl:ds.length<=1048576
 cl:n.cuts.length<=1048576
 dual:VarB n.dual
 price:oX price
def ST(s:Score):oX (gB s).1:=by
 unfold gB oX;split
 ·decide
 ·split
  ·decide
  ·exact Rx.KE _
def MP{x:Instance}{d:Nat}{A:List Column}{cuts:List Cut}{ds:List Decision}(E:∀c∈A,oX c.price)(h:(fZ x d A cuts ds).2=0)(i:Nat):oX ((fZ x d A cuts ds).1.cost.getD i 0):=by
 rw[(N9 h).1,List.getD];cases e:((inM A ds).map (·.price)++(gQ x ds).map (pZ x))[i]? with
 | none=>exact⟨by decide,by decide⟩
 | some n=>
  rcases Xas.1 (Xac e)with hm|hm <;> obtain⟨c,F,rfl⟩:=Xau.1 hm
  ·exact E c (List.mem_filter.1 F).1
  ·exact ST _
def Zx(x:Instance){d:Nat}(h:PrOk x d)(b:Bool)(ds:List Decision)(n:TNode)(price:Int)(T:LeafB x n ds price){j:Nat}{H:aG}{K:AV->aG->Prop}(hj:H j=some (kG x b))(M:∀H' b',H' j=some (kG x b')->K (int (Jm x d ds n price)) H'):aX prog 18 [.op j 0 0,.sl (ds.map aM),.agg (aY n),int price] H K:=by
 have hM:MIn x n.cuts ds:=⟨Xag h.n8 (by decide),Xag h.ty (by decide),T.cl,T.dl⟩;have am:(sP x).length<=1048576:=by have h8:2^x.orders.length<=256:=Xag (Xaq (by decide) h.n8) (by decide);exact Xag (Sq.Bz x _) (Xag (Nat.mul_le_mul h.ty h8) (by decide))
 have hB:=Xh x d (sP x) n.cuts ds h.lo h.ne hM am (fun c hc=>(Ps.Pm h.n8 hc).b.1.2) (fun q hq=>(T.cuts q hq).2);have hL:(fZ x d (sP x) n.cuts ds).2=0->LinW (fZ x d (sP x) n.cuts ds).1:=fun e=>⟨RT e ⟨T.types,fun q hq=>(T.cuts q hq).1,T.dsn⟩,fun r hr=>by obtain⟨_,h1,_,_,_,h5,_⟩:=Jy e ⟨T.types,fun q hq=>(T.cuts q hq).1,T.dsn⟩;rw[h5 r hr,h1],fun i _=>MP (fun c hc=>(Ps.Pm h.n8 hc).price) e i⟩
 obtain⟨L,hC⟩:∃L,L=Jm x d ds n price:=⟨_,rfl⟩;rw[<-hC]at M;unfold Jm at hC;refine aX.body (c:=f18.body.getD .skip) (fun _=>false) mixed func18 rfl (by kernel_rfl) ?_;unfold f18;simp only[Xbc];simp only[go_sem];refine aA (fun A=>?_) (fun A=>?_)
 ·rw[if_pos A]at hC;simp only[go_sem];rw[hC]at M;exact M _ _ hj
 rw[if_neg (by rw[A];simp)]at hC;simp only[go_sem,hj,kG];refine aP (args:=[.agg (aE x),.sl (ds.map aM)]) (Dec.Vq x ds T.dl) ?_;simp only[go_sem];refine aA (fun A=>?_) (fun A=>?_)
 ·rw[if_pos A]at hC;simp only[go_sem];rw[hC]at M;exact M _ _ hj
 rw[if_neg (by rw[A];simp)]at hC;simp only[go_sem,Xaa];refine aA (fun A=>?_) (fun A=>?_)
 ·rw[if_pos (by simp at A;omega)]at hC;simp only[go_sem];rw[hC]at M;exact M _ _ hj
 rw[if_neg (by simp at A;omega)]at hC;simp only[go_sem,Xaa];refine⟨fun ρ H=>∃(k:Nat),k<=n.cuts.length/\ρ 0=.op j 0 0/\ρ 1=.sl (ds.map aM)/\ρ 3=int price/\ρ 6=.rp (aY n) 0/\ρ 44=.sl (n.cuts.map eC)/\ρ 45=int (n.cuts.length:Nat)/\ρ 46=int k/\H j=some (kG x b)/\(∀q∈n.cuts.take k,mL x d q=0),fun ρ _=>n.cuts.length-aU (ρ 46),⟨0,Xab _,by simp only[go_sem],by simp only[go_sem],by simp only[go_sem],by simp only[go_sem],by simp only[go_sem],by simp only[go_sem,Xaa],(by simp only[go_sem];rfl),hj,by simp⟩,?_⟩;rintro ρ H ⟨k,hk,X,U,O,J,I,F,E,R,hz⟩;simp only[go_sem,X,U,O,J,I,F,E];refine aA (fun aa=>?_) (fun ae=>?_)
 ·have aa:=ltB (by simpa using aa);obtain⟨q,hq⟩:=aO aa;have b1:=inB aa;simp only[go_sem,X,U,O,J,I,F,E,aC hq,b1,Xaa];refine aJ fun i11 Y=>?_
  simp only[go_sem,X,U,O,J,I,F,E,R];refine bH Y (by simp[pB]) fun ac (ak:ac i11=some (⟨104,3,[eC q]⟩)) N=>?_
  replace R:=N R;obtain⟨ag,R⟩:=R;clear N Y;simp only[go_sem,X,U,O,J,I,F,E,ak,R];refine dD (by rfl) (by kernel_rfl) ?_;simp only[go_sem,X,U,O,J,I,F,E,R,ak,kG];refine⟨_,(LD x d q h.lo h.ne).q rfl,?_⟩;simp only[go_sem];refine aA (fun af=>?_) (fun af=>?_)
  ·rw[if_pos (Xan.2 ⟨q,Xac hq,af⟩)]at hC;simp only[go_sem];rw[hC]at M;exact M _ _ R
  simp only[go_sem,X,U,O,J,I,F,E,lG (show k<=4611686018427387904 by have:=T.cl;omega)];refine⟨⟨k+1,aa,rfl,R,?_⟩,by simp only[aF];omega⟩;exact fI (p:=fun q=>mL x d q=0) hq (by simpa using af) hz
 have ae:=geB hk (by simpa using ae);subst ae;rw[Xad]at hz;rw[if_neg (by simp only[Xan,not_exists,not_and];intro q hq;simp[hz q hq])]at hC;simp only[go_sem,X,U,O,J,I,F,E];refine abV x h b R fun H2 R2 al=>?_
 simp only[go_sem];refine aA (fun A=>by cases A) (fun A=>?_);simp only[go_sem,X,U,O,J,I,F,E];generalize ao:fZ x d (sP x) n.cuts ds=p at *;have hB:PC prog 34 [.agg (List.take 6 ((kG x true).es.getD 0 [])),.sl ((sP x).map bA),.sl (n.cuts.map eC),.sl (ds.map aM)] (.tup [.agg (gC p.1),int p.2]):=hB;refine jS [j] (.q 0 (.q 1 (.q 2 (.q 3 (.q 4 (.q 5 (.q 6 (.q 7 (.a2 8 (.q 9 (.q 10 (.q 11 (.a1 12 (.a1 13 (.q 14 .nil)))))) 12 (.a1 8 (.q 9 (.q 10 (.q 11 (.a1 13 (.q 14 .nil))))))))))))))) (fun ab H'=>ab 3=int price/\ab 6=.rp (aY n) 0/\ab 13=int p.2/\∃i,ab 14=.op i 0 0/\H' i=some ⟨110,2,[gC p.1]⟩/\H' j=some (kG x true)) (by simp[R2]) (by kernel_rfl) (fun K' ah Hp Hr hp hr _ an=>?_) ?_
 ·have Z:=(hp j (by simp)).trans R2;simp only[go_sem,X,U,O,J,I,F,E,Z];refine⟨⟨by simp[kG],by simp[kG]⟩,iB ?_ ?_⟩
  ·simp only[go_sem,X,U,O,J,I,F,E,Z];refine aP hB ?_;simp only[go_sem];refine aJ fun i h0=>?_
   simp only[go_sem];refine aN (aB _ _ _) (by simp[uV]) ?_;simp only[go_sem];refine mJ hr h0 fun h1=>ah _ _ ⟨by simp only[go_sem,X,U,O,J,I,F,E],by simp only[go_sem,X,U,O,J,I,F,E],by simp only[go_sem],i,by simp only[go_sem],(aB _ _ _).trans rfl,?_⟩
   rw[aD _ _ _ _ (bC R2 h1),aD _ _ _ _ (bC R2 h1)];exact R2
  ·simp only[go_sem,X,U,O,J,I,F,E,Z];refine aJ fun i h0=>?_
   simp only[go_sem];refine aP hB ?_;simp only[go_sem];refine aN (aB _ _ _) (by simp[uV]) ?_;simp only[go_sem];refine mJ hr h0 fun h1=>ah _ _ ⟨by simp only[go_sem,X,U,O,J,I,F,E],by simp only[go_sem,X,U,O,J,I,F,E],by simp only[go_sem],i,by simp only[go_sem],(aB _ _ _).trans rfl,?_⟩
   rw[aD _ _ _ _ (bC R2 h1),aD _ _ _ _ (bC R2 h1)];exact R2
 clear R R2 al;rintro ρ H ⟨O,J,ai,i,aj,Ri,R⟩;simp only[go_sem,ai];refine aA (fun A=>?_) (fun A=>?_)
 ·rw[if_pos A]at hC;simp only[go_sem,ai];rw[hC]at M;exact M _ _ R
 rw[if_neg (by rw[A];simp)]at hC;have h0:p.2=0:=by simpa using A
 unfold TL at hC;simp only[go_sem,J];refine aA (fun A=>?_) (fun A=>?_)
 ·rw[if_pos A]at hC;simp only[go_sem,J,aj,Ri];refine aP (RI p.1 n.dual (hL h0) T.dual) ?_;simp only[go_sem];refine aA (fun A=>?_) (fun A=>?_)
  ·rw[if_pos A]at hC;simp only[go_sem];rw[hC]at M;exact M _ _ R
  ·rw[if_neg (by rw[A];simp)]at hC;simp only[go_sem];rw[hC]at M;exact M _ _ R
 rw[if_neg (by rw[A];simp)]at hC;simp only[go_sem,J,aj,O,Ri];refine aP (VC p.1 n.dual (hL h0) T.dual) ?_;simp only[go_sem,O];have hs:(qQ p.1 n.dual).1.size<=1048576:=by
  unfold qQ;split
  ·decide
  ·split
   ·exact Xag uY (by decide)
   ·decide
 unfold Zd at hC;refine⟨_,fun _=>(ZD (qQ p.1 n.dual).1 price hs T.price.1 T.price.2 (Tq _ hs)).q rfl,?_⟩;simp only[go_sem];refine aA (fun A=>?_) (fun A=>?_)
 ·rw[if_pos A]at hC;simp only[go_sem];rw[hC]at M;exact M _ _ R
 ·rw[if_neg (fun h=>Bool.noConfusion (A.symm.trans h))]at hC;simp only[go_sem];rw[hC]at M;exact M _ _ R
end Nu
end Go.Proofs.YtkjdacijpeiphaaGreatDoor
