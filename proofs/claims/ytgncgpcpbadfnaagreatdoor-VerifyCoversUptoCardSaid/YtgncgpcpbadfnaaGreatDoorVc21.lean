import Derived.Test.YtgncgpcpbadfnaaGreatDoorVc20
set_option linter.unusedSimpArgs false
set_option linter.unusedVariables false
set_option linter.defProp false
set_option maxRecDepth 100000
namespace Go.Proofs.YtgncgpcpbadfnaaGreatDoor
open Go.Aw Go.Aw.D Go.Proofs Ty
namespace Sq
open Go.Proofs.Tryz
open Go.Proofs.YtgncgpcpbadfnaaGreatDoor.Nu (ltB geB)
open Mv (bZ cK aS)
def Sj(x:Instance)(kind set:Int):Bool:=((decide (kind<0)||decide (kind>=(x.types.length:Int)))||decide (set<=0))||(shV .shr .i64 set (x.orders.length:Nat) != 0)
def I0(x:Instance)(kind:Nat)(set:Int)(t:VType):Sr:=oG t 17 ⟨x,kind,set,xE x set,dV,false⟩ [] t.src (nZ t [] t.start 0)
def xN(x:Instance)(kind set:Int):Column×Int:=
 if Sj x kind set=true then(dV,2)
 else if(GW x set != 0)=true then(dV,24)
 else match x.types[kind.toNat]? with
 | none=>(dV,24)
 | some t=>if(I0 x kind.toNat set t).found=true then((I0 x kind.toNat set t).best,0)else(dV,24)
def abC(x:Instance)(kind set:Int)(hE:EvalB x)(hn:x.orders.length<=8):PC prog 102 [.agg (aE x),int kind,int set] (.tup [.agg (bH (xN x kind set).1),int (xN x kind set).2]):=by
 refine pcb (fun t=>t == 43||t == 75) func102 rfl rfl ?_;simp only[go_sem];have Y:xN x kind set=((if Sj x kind set=true then(dV,2)
  else if(GW x set != 0)=true then(dV,24)
  else match x.types[kind.toNat]? with
  | none=>(dV,24)
  | some t=>if(I0 x kind.toNat set t).found=true then((I0 x kind.toNat set t).best,0)else(dV,24)):Column×Int):=rfl
 generalize xN x kind set=RP at *;refine aJ fun j6 av=>?_
 generalize ar:aI _ j6 _=HG6;have X:HG6 j6=some (lH dV):=by rw[<-ar,aB];try rfl
 clear ar av;simp only[go_sem,X,Xaa];refine⟨fun _=>by omega,aA (fun hb=>?_) (fun hb=>?_)⟩
 ·simp only[go_sem,X];refine aN X (by simp only[go_sem]) ?_;generalize Y:aI _ j6 _=HP;replace X:HP j6=some (lH dV):=by rw[<-Y,aB];rfl
  clear Y;simp only[go_sem,X];have hb:Sj x kind set=true:=hb;rw[if_pos hb]at Y;rw[Y];exact .refl _
 have au:Sj x kind set=false:=hb;rw[if_neg (by rw[au];simp)]at Y;obtain⟨⟨⟨hk0,hk1⟩,hs0⟩,hs1⟩:((0<=kind/\kind<x.types.length)/\0<set)/\shV .shr .i64 set (x.orders.length:Nat)=0:=by simpa using hb
 rw[wW (by omega)]at hs1;obtain⟨k0,rfl⟩:=Int.eq_ofNat_of_zero_le hk0;have hk:k0<x.types.length:=by omega
 obtain⟨t,ht⟩:=aM hk;have bk:=inB hk;have al:set<2^x.orders.length:=by
  have hp:(0:Int)<2^x.orders.length:=Int.pow_pos (by decide);rcases Int.lt_or_le set (2^x.orders.length)with h|h
  ·exact h
  ·have:=Int.le_ediv_of_mul_le hp (show 1*2^x.orders.length<=set by omega);omega
 have hM:=U1 (x:=x) (by omega) al (by omega);have ay:=S6 (by omega) al (by omega);rw[show xE x set=pS x (fA set)from rfl]at *;simp only[go_sem,X,Xaa];refine aP (Dr x set (by omega) hE.apart hE.before) ?_;rw[Xbd,ht]at Y;unfold I0 at Y;simp only at Y;rw[show xE x set=pS x (fA set)from rfl]at Y;simp only[go_sem,X];refine aA (fun aj=>?_) (fun aj=>?_)
 ·simp only[go_sem,X];refine aN X (by simp only[go_sem]) ?_;generalize Y:aI _ j6 _=HP;replace X:HP j6=some (lH dV):=by rw[<-Y,aB];rfl
  clear Y;simp only[go_sem,X];rw[if_pos aj]at Y;rw[Y];exact .refl _
 rw[if_neg (by rw[aj];simp)]at Y;clear hb aj au;simp only[go_sem,X];refine Zp (a:=tM ⟨x,k0,set,0,dV,false⟩) rfl ⟨by rw[oX];decide,?_⟩;refine aJ fun js am=>?_
 have ah:j6≠js:=aR X am;simp only[go_sem,X];generalize ao:aI _ js _=HGs;replace X:=(congrFun ao.symm j6).trans ((aD _ _ _ _ ah).trans X);have R:HGs js=some (jR ⟨x,k0,set,0,dV,false⟩):=by rw[<-ao,aB]
 clear ao am;refine aP (jG set) ?_;simp only[go_sem,X,R,Xaa];have af:=pH set 63
 change (fA set).length<=63 at af
 generalize fA set=M at *;clear ay;have a0:M.length<=63:=af;refine⟨fun ρ H=>∃(k:Nat),k<=M.length/\ρ 1=int (k0:Nat)/\ρ 3=.rp (aE x) 0/\ρ 6=.op j6 0 0/\ρ 8=.op js 0 0/\ρ 45=.sl (M.map aQ)/\ρ 46=int (M.length:Nat)/\ρ 47=int k/\H j6=some (lH dV)/\H js=some (jR ⟨x,k0,set,pS x (M.take k),dV,false⟩),fun ρ _=>M.length-aT (ρ 47),⟨0,Xab _,by simp only[go_sem],by simp only[go_sem],by simp only[go_sem],by simp only[go_sem],by simp only[go_sem],by simp only[go_sem,Xaa],(by simp only[go_sem];rfl),X,R⟩,?_⟩;clear X R;rintro ρ H ⟨k,az,I,O,U,J,F,A,E,X,R⟩;simp only[go_sem,I,O,U,J,F,A,E];refine aA (fun ag=>?_) (fun ap=>?_)
 ·have ag:=ltB (by simpa using ag);obtain⟨i,hi⟩:=aM ag;have b1:=inB ag;have hs:=QR x hi;have hb:=Sf x M k;have hV:=rO x.orders i;generalize pS x (M.take k)=T at *;simp only[go_sem,I,O,U,J,F,A,E,aC hi,b1];refine lL [] (.q 0 (.q 1 (.q 2 (.q 4 (.q 5 (.q 6 (.a2 3 (.a1 7 (.q 8 (.q 9 (.q 10 (.q 11 (.a1 12 .nil)))))) 7 (.q 8 (.a1 3 (.q 9 (.q 10 (.q 11 (.a1 12 .nil)))))))))))))
   (fun ab H'=>ab 1=int (k0:Nat)/\ab 3=.rp (aE x) 0/\ab 6=.op j6 0 0/\ab 8=.op js 0 0/\ab 45=.sl (M.map aQ)/\ab 46=int (M.length:Nat)/\ab 47=int (k:Nat)/\H' j6=some (lH dV)/\H' js=some (jR ⟨x,k0,set,pS x (M.take (k+1)),dV,false⟩)) (by simp) (by kernel_rfl) (fun K' aq Hp Hr hp hr _ ax=>?_) ?_
  ·have Z:=(hr js (by simp)).trans R;simp only[go_sem,I,O,U,J,F,A,E];refine jN ?_ ?_
   ·simp only[go_sem,I,O,U,J,F,A,E,Z];refine aP (rC x.orders i) ?_;simp only[go_sem,I,O,U,J,F,A,E,Z,Xaa];refine bU so3 Z (by simp[oX]) ?_;simp only[go_sem];refine rU hr (by simp) (aq _ _ ⟨by simp only[go_sem,I,O,U,J,F,A,E],by simp only[go_sem,I,O,U,J,F,A,E],by simp only[go_sem,I,O,U,J,F,A,E],by simp only[go_sem,I,O,U,J,F,A,E],by simp only[go_sem,I,O,U,J,F,A,E],by simp only[go_sem,I,O,U,J,F,A,E],by simp only[go_sem,I,O,U,J,F,A,E],?_,?_⟩)
    ·rw[aD _ _ _ _ ah];exact X
    rw[hs,aB];refine congrArg (fun l=>some (⟨239,17,[l]⟩:Row)) ?_;rw[bG (by omega)];rfl
   ·simp only[go_sem,I,O,U,J,F,A,E,Z];refine aP (rC x.orders i) ?_;simp only[go_sem,I,O,U,J,F,A,E,Z,Xaa];refine bU so3 Z (by simp[oX]) ?_;simp only[go_sem];refine rU hr (by simp) (aq _ _ ⟨by simp only[go_sem,I,O,U,J,F,A,E],by simp only[go_sem,I,O,U,J,F,A,E],by simp only[go_sem,I,O,U,J,F,A,E],by simp only[go_sem,I,O,U,J,F,A,E],by simp only[go_sem,I,O,U,J,F,A,E],by simp only[go_sem,I,O,U,J,F,A,E],by simp only[go_sem,I,O,U,J,F,A,E],?_,?_⟩)
    ·rw[aD _ _ _ _ ah];exact X
    rw[hs,aB];refine congrArg (fun l=>some (⟨239,17,[l]⟩:Row)) ?_;rw[bG (by omega)];rfl
  clear X R I O U J F A E;rintro ρ H ⟨I,O,U,J,F,A,E,X,R⟩;simp only[go_sem,I,O,U,J,F,A,E,aV k];exact⟨⟨k+1,ag,rfl,X,R⟩,by simp only[aF];omega⟩
 have ap:=geB az (by simpa using ap);subst ap;rw[Xae]at R;simp only[go_sem,I,O,U,J,F,A,E,aC ht,bk];refine aJ fun i11 ac=>?_
 have ae:js≠i11:=aR R ac;have an:j6≠i11:=aR X ac;simp only[go_sem,I,O,U,J,F,A,E];refine aN (aB _ _ _) (by simp[jY]) ?_;generalize ak:aI (aI _ i11 _) i11 _=HGi;replace X:=kpR ak an an X;replace R:=kpR ak ae ae R;have ai:HGi i11=some (lA t):=by rw[<-ak,aB];try rfl
 clear ak ac;simp only[go_sem,I,O,U,J,F,A,E,ai];refine gW [i11] [(0,true),(1,true),(2,true),(3,true),(4,true),(5,true),(6,false),(7,false)] (by simp[ai]) (by kernel_rfl) fun Hp Hr hp hr _ ax=>?_
 have aw:=(hp i11 (by simp)).trans ai;have Z:=(hr js (by simpa using ae)).trans R;simp only[go_sem,I,O,U,J,F,A,E,aw];refine LC.use (WR Hr js _ t t.start 0 ht Z) ?_;simp only[go_sem,I,O,U,J,F,A,E];refine MC.use (Uh t js 17 ⟨x,k0,set,pS x M,dV,false⟩ ⟨ht,hE,hE.before,by show x.orders.length<=60;omega,by show pS x M<=16;omega⟩ Hr Z [] t.src (nZ t [] t.start 0) (Xab _) (by show pS x M-0<17;omega) (G7 t [] t.start 0)) ?_;have hB:=sI t 17 ⟨x,k0,set,pS x M,dV,false⟩ [] t.src (nZ t [] t.start 0);generalize oG t 17 ⟨x,k0,set,pS x M,dV,false⟩ [] t.src (nZ t [] t.start 0)=s' at *;simp only[go_sem,I,O,U,J,F,A,E];refine rU hr (by simpa using ae) ?_;have R2:aI HGi js (some (jR s')) js=some (jR s'):=aB _ _ _;have aa:aI HGi js (some (jR s')) j6=some (lH dV):=(aD _ _ _ _ ah).trans X;generalize aI HGi js (some (jR s'))=HX at *;clear X R ai;simp only[go_sem,I,O,U,J,F,A,E,R2];refine aA (fun hb=>?_) (fun hb=>?_)
 ·simp only[go_sem,I,O,U,J,F,A,E,aa];refine aN aa (by simp only[go_sem]) ?_;generalize Y:aI _ j6 _=HP;replace aa:HP j6=some (lH dV):=by rw[<-Y,aB];rfl
  clear Y;simp only[go_sem,I,O,U,J,F,A,E,aa];rw[if_neg (by simpa using hb)]at Y;rw[Y];exact .refl _
 simp only[go_sem,I,O,U,J,F,A,E,R2,aa];refine aN aa (by simp[eH]) ?_;generalize Y:aI _ j6 _=HP;replace aa:HP j6=some (lH s'.best):=by rw[<-Y,aB];rfl
 clear Y;simp only[go_sem,I,O,U,J,F,A,E,aa];rw[if_pos (by simpa using hb)]at Y;rw[Y];exact .refl _
structure BestQ(x:Instance)(k:Nat)(set:Int)(c:Column):Prop where
 lt:k<x.types.length
 pos:0<set
 top:set<2^x.orders.length
 is:∃l,c=⟨(k:Nat),set,(gO x ⟨(k:Nat),0,[],l⟩).1,⟨(k:Nat),0,[],l⟩⟩/\(gO x ⟨(k:Nat),0,[],l⟩).2=0/\zK x set l/\l.length=xE x set
def YS{x:Instance}{k:Nat}{set:Int}(Y:x.orders.length<=8)(h:(xN x (k:Nat) set).2=0):BestQ x k set (xN x (k:Nat) set).1:=by
 unfold xN at h |-;split at h
 ·exact absurd h (by decide)
 split at h
 ·exact absurd h (by decide)
 next hb _=>
 rw[Xbd]at *;split at h
 ·exact absurd h (by decide)
 next t ht=>
 split at h
 case isFalse=>exact absurd h (by decide)
 next O=>
 have I:Sj x (k:Nat) set=false:=by simpa using hb
 unfold Sj at I;obtain⟨⟨⟨hk0,hk1⟩,hs0⟩,hs1⟩:((0<=(k:Int)/\(k:Int)<x.types.length)/\0<set)/\shV .shr .i64 set (x.orders.length:Nat)=0:=by simpa using I
 rw[wW (by omega)]at hs1;have E:set<2^x.orders.length:=by
  have X:(0:Int)<2^x.orders.length:=Int.pow_pos (by decide);rcases Int.lt_or_le set (2^x.orders.length)with h|h
  ·exact h
  ·have:=Int.le_ediv_of_mul_le X (show 1*2^x.orders.length<=set by omega);omega
 rw[if_neg hb,if_neg (by assumption)];simp only[O,if_true];have A:=sI t 17 ⟨x,k,set,xE x set,dV,false⟩ [] t.src (nZ t [] t.start 0);obtain⟨l,U,M,J,T⟩:=DP t 17 ⟨x,k,set,xE x set,dV,false⟩ [] t.src (nZ t [] t.start 0) (fun h=>Bool.noConfusion h) zK.nil O;unfold I0;generalize oG t 17 ⟨x,k,set,xE x set,dV,false⟩ [] t.src (nZ t [] t.start 0)=s' at *;have F:mA s' l=⟨(k:Nat),0,[],l⟩:=by unfold mA;rw[A.kind]
 rw[F,A.x]at M;rw[A.x,A.set]at J;rw[A.total]at T;refine⟨by omega,hs0,E,l,?_,M,J,T⟩;rw[U];unfold Lj;rw[F,A.x,A.set,A.kind]
abbrev lP(l:List Column):Row:=⟨160,7,l.map bH⟩
def GB(x:Instance)(kind set:Nat):List Column:=if((xN x (kind:Nat) (set:Nat)).2 == 0)=true then[(xN x (kind:Nat) (set:Nat)).1]else[]
def tV(x:Instance)(kind m:Nat):List Column:=(List.range m).flatMap fun s=>GB x kind (s+1)
def Ea(x:Instance)(k:Nat):List Column:=(List.range k).flatMap fun kind=>tV x kind (2^x.orders.length-1)
def qS(x:Instance):List Column:=Ea x x.types.length
def DZ(x:Instance)(kind m:Nat):tV x kind (m+1)=tV x kind m++GB x kind (m+1):=by unfold tV;rw[Xbt,List.flatMap_append];simp
def G1(x:Instance)(k:Nat):Ea x (k+1)=Ea x k++tV x k (2^x.orders.length-1):=by unfold Ea;rw[Xbt,List.flatMap_append];simp
def Vw(x:Instance)(kind set:Nat):(GB x kind set).length<=1:=by unfold GB;split <;> simp
def A9(x:Instance)(kind:Nat):∀m,(tV x kind m).length<=m
 | 0=>Xag _
 | m+1=>by rw[DZ,Xaf];have:=A9 x kind m;have:=Vw x kind (m+1);omega
def C7(x:Instance):∀k,(Ea x k).length<=k*2^x.orders.length
 | 0=>Xab _
 | k+1=>by rw[G1,Xaf,Nat.succ_mul];have:=C7 x k;have:=A9 x k (2^x.orders.length-1);have A:0<2^x.orders.length:=Nat.two_pow_pos _;omega
def VX{x:Instance}{kind set:Nat}{c:Column}(A:x.orders.length<=8)(h:c∈GB x kind set):BestQ x kind set c:=by
 unfold GB at h;split at h
 next E=>have:=YS (x:=x) (k:=kind) (set:=(set:Nat)) A (by simpa using E);rw[Xbg.1 h];exact this
 ·cases h
def pK{x:Instance}{c:Column}(A:x.orders.length<=8)(h:c∈qS x):∃kind set:Nat,BestQ x kind set c:=by unfold qS Ea tV at h;obtain⟨kind,_,h⟩:=List.mem_flatMap.1 h;obtain⟨s,_,h⟩:=List.mem_flatMap.1 h;exact⟨kind,s+1,VX A h⟩
def Xm(l:List Column)(c:Column):(⟨160,7,l.map bH++[bH c]⟩:Row)=lP (l++[c]):=by show _=(⟨160,7,(l++[c]).map bH⟩:Row);rw[Xan];rfl
def Ui{s n:Nat}(A:n<=8):shV .shr .i64 ((s:Nat):Int) ((n:Nat):Int)=((s/2^n:Nat):Int):=by rw[wW (by omega)];simp
def afG(x:Instance)(hE:EvalB x)(hn:x.orders.length<=8)(ht:x.types.length<=1000):NC prog 64 [.agg (aE x)] (lP (qS x)) (fun j=>.tup [.os j,int 0]):=by
 refine ncb (fun t=>t == 4) func64 rfl rfl ?_;simp only[go_sem];refine eQ fun j ah ag (R:ah j=some (lP [])) N=>?_
 clear N ag;simp only[go_sem,R];refine⟨fun ρ H=>∃(k:Nat) (j:Nat),k<=x.types.length/\ρ 1=.rp (aE x) 0/\ρ 11=int (x.types.length:Nat)/\ρ 12=int k/\ρ 4=.os j/\H j=some (lP (Ea x k)),fun ρ _=>x.types.length-aT (ρ 12),⟨0,j,Xab _,by simp only[go_sem],by simp only[go_sem,Xaa],(by simp only[go_sem];rfl),by simp only[go_sem],R⟩,?_⟩;rintro ρ H ⟨k,j,hk,I,F,E,J,R⟩;simp only[go_sem,I,F,E,J];refine aA (fun Z=>?_) (fun X=>?_)
 ·have Z:=ltB (by simpa using Z);have hs:=G1 x k;have al:=C7 x k;have h8:2^x.orders.length<=256:=Xai (Xau (by decide) hn) (by decide);have hp:0<2^x.orders.length:=Nat.two_pow_pos _;have an:k*2^x.orders.length<=256000:=Xai (Nat.mul_le_mul (show k<=1000 by omega) h8) (by decide);generalize am:Ea x k=A at *;simp only[go_sem,I,F,E,J];refine⟨fun ρ H=>∃m j:Nat,m<=2^x.orders.length-1/\ρ 1=.rp (aE x) 0/\ρ 5=int (k:Nat)/\ρ 6=int (m+1:Nat)/\ρ 11=int x.types.length/\ρ 12=int (k:Nat)/\ρ 4=.os j/\H j=some (lP (A++tV x k m)),fun ρ _=>2^x.orders.length-aT (ρ 6),⟨0,j,Xab _,by simp only[go_sem,I,F,E,J],by simp only[go_sem,I,F,E,J],(by simp only[go_sem,I,F,E,J];rfl),by simp only[go_sem,I,F,E,J],by simp only[go_sem,I,F,E,J],by simp only[go_sem,I,F,E,J],by simpa[tV]using R⟩,?_⟩;clear I J F E R;rintro ρ H ⟨m,j,hm,I,O,U,F,E,J,R⟩;simp only[go_sem,I,J,O,U,F,E,Xaa];refine⟨by omega,aA (fun ac=>?_) (fun aa=>?_)⟩
  ·rw[Ui hn]at ac;have Y:(m+1)/2^x.orders.length=0:=by
    have:(((m+1)/2^x.orders.length:Nat):Int)=0:=by simpa using ac
    omega
   have aj:m+1<2^x.orders.length:=(Nat.div_eq_zero_iff.1 Y).resolve_left (by omega);have M:=DZ x k m;have ap:=A9 x k m;simp only[go_sem,I,J,O,U,F,E];refine aP (abC x (k:Nat) ((m+1:Nat):Int) hE hn) ?_;have ai:GB x k (m+1)=if((xN x (k:Nat) ((m+1:Nat):Int)).2 == 0)=true then[(xN x (k:Nat) ((m+1:Nat):Int)).1]else[]:=rfl
   rw[ai]at M;generalize xN x (k:Nat) ((m+1:Nat):Int)=B at *;generalize tV x k m=KM at *;simp only[go_sem,I,J,O,U,F,E];refine aJ fun i7 T=>?_
   simp only[go_sem,I,J,O,U,F,E,R];refine bP T (by simp[eH]) fun ab (R7:ab i7=some (lP [B.1])) N=>?_
   replace R:=N R;obtain⟨ae,R⟩:=R;clear N T;simp only[go_sem,I,J,O,U,F,E,R7,R];refine aA (fun hc=>?_) (fun hc=>?_)
   ·rw[if_pos hc]at M;simp only[go_sem,I,J,O,U,F,E,R7];refine aX R ⟨rfl,rfl⟩ (by simp only[go_sem]) (by simp only[Xaa,Xaf,Xad,List.length_nil];omega) (fun j2 ao=>?_);simp only[go_sem,I,J,O,U,F,E,mX (show m+1<=4611686018427387904 by omega)];refine⟨⟨m+1,j2,by omega,rfl,rfl,?_⟩,by simp only[aF];omega⟩;rw[M,<-Xar,aB];exact congrArg some (Xm _ _)
   ·rw[if_neg (by rw[hc];simp),Xak]at M;simp only[go_sem,I,J,O,U,F,E,mX (show m+1<=4611686018427387904 by omega)];refine⟨⟨m+1,j,by omega,rfl,rfl,?_⟩,by simp only[aF];omega⟩;rw[M];exact R
  ·rw[Ui hn]at aa;have Y:¬(m+1)/2^x.orders.length=0:=by
    have:¬(((m+1)/2^x.orders.length:Nat):Int)=0:=by simpa using aa
    omega
   have ak:¬m+1<2^x.orders.length:=fun h=>Y (Nat.div_eq_of_lt h)
   have af:m=2^x.orders.length-1:=by omega
   subst af;simp only[go_sem,I,J,F,E,aV k];refine⟨⟨k+1,j,Z,rfl,rfl,?_⟩,by simp only[aF];omega⟩;rw[hs];exact R
 have X:=geB hk (by simpa using X);subst X;simp only[go_sem,I,F,E,J];exact⟨j,rfl,R⟩
end Sq
namespace Sq
open Mv (bZ cK aS)
end Sq
namespace Nu
open Go.Proofs.Tryz
open Go.Nu
abbrev mM(f:Nat->Nat)(i:Nat)(r:PRow):List AV:=[.os (f i),int r.kind,int r.right]
abbrev wN(f:Nat->Nat)(rows:List PRow):Row:=⟨157,3,rows.mapIdx (mM f)⟩
def wH(f:Nat->Nat)(k c:Nat):Nat->Nat:=fun i=>if i=k then c else f i
structure LinH(H:aH)(jr:Nat)(f:Nat->Nat)(rows:List PRow):Prop where
 row:H jr=some (wN f rows)
 coef:∀(i:Nat) (r:PRow),rows[i]?=some r->H (f i)=some (eL r.coef)
 inj:∀i k,i<rows.length->k<rows.length->f i=f k->i=k
def UX(f:Nat->Nat)(rows:List PRow)(c:Nat)(E A:Int):rows.mapIdx (mM f)++[[.os c,int E,int A]]=(rows++[(⟨[],E,A⟩:PRow)]).mapIdx (mM (wH f rows.length c)):=by
 rw[List.mapIdx_append]
 congr 1
 ·refine List.ext_getElem? fun i=>?_
  rw[List.getElem?_mapIdx,List.getElem?_mapIdx];cases h:rows[i]? with
  | none=>rfl
  | some r=>have F:=(List.getElem?_eq_some_iff.1 h).1;show some (mM f i r)=some (mM (wH f rows.length c) i r);unfold mM wH;rw[if_neg (by omega)]
 ·simp[mM,wH]
def Wd(f:Nat->Nat)(rows:List PRow)(k c:Nat)(r:PRow)(l:List Int)(h:rows[k]?=some r):(rows.mapIdx (mM f)).set k [.os c,int r.kind,int r.right]=(rows.set k (⟨l,r.kind,r.right⟩:PRow)).mapIdx (mM (wH f k c)):=by
 have A:=(List.getElem?_eq_some_iff.1 h).1;refine List.ext_getElem? fun i=>?_
 rw[List.getElem?_set,List.getElem?_mapIdx,List.getElem?_mapIdx,List.getElem?_set];by_cases E:k=i
 ·subst E;rw[if_pos rfl,if_pos rfl,List.length_mapIdx,if_pos A,if_pos A];show some _=some (mM (wH f k c) k _);unfold mM wH;rw[if_pos rfl]
 ·rw[if_neg E,if_neg E];cases F:rows[i]? with
  | none=>rfl
  | some r2=>show some (mM f i r2)=some (mM (wH f k c) i r2);unfold mM wH;rw[if_neg (fun e=>E e.symm)]
structure RowsS(H0 H:aH)(j:Nat)(f:Nat->Nat)(rows:List PRow):Prop where
 lin:LinH H j f rows
 keep:∀k row,H0 k=some row->H k=some row
 nj:H0 j=none
 nf:∀i,i<rows.length->H0 (f i)=none
def Jq{H0 H:aH}(h:∀k row,H0 k=some row->H k=some row){c:Nat}(A:H c=none):H0 c=none:=by
 cases e:H0 c with
 | none=>rfl
 | some row=>rw[h c row e]at A;cases A
def LinH.ne{H:aH}{j:Nat}{f:Nat->Nat}{rows:List PRow}(h:LinH H j f rows){i:Nat}(E:i<rows.length):f i≠j:=fun e=>by obtain⟨r,A⟩:=aM E;have h1:=h.coef i r A;rw[e,h.row]at h1;have F:(wN f rows).e=(eL r.coef).e:=congrArg Row.e (Option.some.inj h1);exact absurd (show(157:Nat)=3 from F) (by decide)
def LinH.new{H:aH}{j:Nat}{f:Nat->Nat}{rows:List PRow}(h:LinH H j f rows){i:Nat}(A:H i=none)(a:Option Row):LinH (aI H i a) j f rows:=by
 refine⟨?_,fun k r E=>?_,h.inj⟩
 ·rw[aD _ _ _ _ (fun e=>by subst e;rw[h.row]at A;cases A)];exact h.row
 ·have:=h.coef k r E;rw[aD _ _ _ _ (fun e=>by rw[e,A]at this;cases this)];exact this
def RowsS.new{H0 H:aH}{j:Nat}{f:Nat->Nat}{rows:List PRow}(h:RowsS H0 H j f rows){i:Nat}(A:H i=none)(a b:Option Row):RowsS H0 (aI (aI H i a) i b) j f rows:=by
 have e:aI (aI H i a) i b=aI H i b:=by
  funext k;by_cases e:k=i
  ·subst e;rw[aB,aB]
  ·rw[aD _ _ _ _ e,aD _ _ _ _ e,aD _ _ _ _ e]
 rw[e];refine⟨h.lin.new A b,fun k row E=>?_,h.nj,h.nf⟩;have:=h.keep k row E;rw[aD _ _ _ _ (fun e=>by subst e;rw[A]at this;cases this)];exact this
def RowsS.app{H0 H:aH}{j:Nat}{f:Nat->Nat}{rows:List PRow}(h:RowsS H0 H j f rows){c j':Nat}(T:H c=none)(J:aI H c (some (eL [])) j'=none)(kd rt:Int):
  RowsS H0 (aI (aI (aI H c (some (eL []))) j none) j' (some ⟨157,3,rows.mapIdx (mM f)++[[.os c,int kd,int rt]]⟩)) j' (wH f rows.length c) (rows++[⟨[],kd,rt⟩]):=by
 have Y:c≠j':=fun e=>by subst e;rw[aB]at J;cases J
 have M:H j'=none:=by rwa [aD _ _ _ _ Y.symm]at J
 have aa:c≠j:=fun e=>by subst e;rw[h.lin.row]at T;cases T
 refine⟨⟨?_,fun i r O=>?_,fun i k I U A=>?_⟩,fun k row U=>?_,Jq h.keep M,fun i I=>?_⟩
 ·rw[aB,UX]
 ·unfold wH;by_cases e:i=rows.length
  ·subst e;rw[if_pos rfl,aD _ _ _ _ Y,aD _ _ _ _ aa,aB];have:r=⟨[],kd,rt⟩:=by simpa using O.symm
   rw[this]
  ·have X:i<rows.length:=by have:=(List.getElem?_eq_some_iff.1 O).1;rw[Xaf]at this;simp at this;omega
   rw[if_neg e];rw[List.getElem?_append_left X]at O;have E:=h.lin.coef i r O;rw[aD _ _ _ _ (fun e=>by rw[e,M]at E;cases E),aD _ _ _ _ (h.lin.ne X),aD _ _ _ _ (fun e=>by rw[e,T]at E;cases E)];exact E
 ·have F : ∀ i, i < rows.length -> f i ≠ c := fun i I e => by obtain⟨r,O⟩:=aM I;have:=h.lin.coef i r O;rw[e,T]at this;cases this
  rw[Xaf]at I U;simp at I U;unfold wH at A;by_cases e1:i=rows.length
  ·by_cases Z:k=rows.length
   ·omega
   ·rw[if_pos e1,if_neg Z]at A;exact absurd A.symm (F k (by omega))
  ·by_cases Z:k=rows.length
   ·rw[if_neg e1,if_pos Z]at A;exact absurd A (F i (by omega))
   ·rw[if_neg e1,if_neg Z]at A;exact h.lin.inj i k (by omega) (by omega) A
 ·have E:=h.keep k row U;rw[aD _ _ _ _ (fun e=>by rw[e,M]at E;cases E),aD _ _ _ _ (fun e=>by rw[e,h.nj]at U;cases U),aD _ _ _ _ (fun e=>by rw[e,T]at E;cases E)];exact E
 ·unfold wH;by_cases e:i=rows.length
  ·rw[if_pos e];exact Jq h.keep T
  ·rw[if_neg e];rw[Xaf]at I;simp at I;exact h.nf i (by omega)
def Hv(d:Decision):Option PRow:=if d.kind=3 then some ⟨[],1,d.n⟩else if d.kind=4 then some ⟨[],3,d.n⟩else none
def AJ(k:Nat):List PRow:=List.replicate k ⟨[],2,1⟩
def sO(l:List VType):List PRow:=l.map fun t=>⟨[],1,t.count⟩
def sU(l:List Cut):List PRow:=l.map fun q=>⟨[],(GM q).1,(GM q).2⟩
def qD(l:List Decision):List PRow:=l.filterMap Hv
def lW(x:Instance)(cuts:List Cut)(ds:List Decision):List PRow:=AJ (jT x).length++sO x.types++sU cuts++qD ds
def Ju(ds:List Decision):(qD ds).length=(ds.filter ET).length:=by
 unfold qD;induction ds with
 | nil=>rfl
 | cons d l ih=>
  rw[List.filterMap_cons,List.filter_cons];by_cases A:d.kind=3
  ·rw[show Hv d=some ⟨[],1,d.n⟩from if_pos A,if_pos (show ET d=true by simp[ET,A])]
   try simp only[Xad,ih]
  ·by_cases E:d.kind=4
   ·rw[show Hv d=some ⟨[],3,d.n⟩from(if_neg A).trans (if_pos E),if_pos (show ET d=true by simp[ET,E])]
    try simp only[Xad,ih]
   ·rw[show Hv d=none from(if_neg A).trans (if_neg E),if_neg (show ¬ET d=true by simp[ET,A,E])]
    try exact ih
def Ay(x:Instance)(cuts:List Cut)(ds:List Decision):(lW x cuts ds).length=gQ x cuts ds:=by unfold lW AJ sO sU gQ;simp only[Xaf,Xaa,Xbv,Ju]
def GF{ds:List Decision}{k:Nat}{d:Decision}(h:ds[k]?=some d):qD (ds.take (k+1))=qD (ds.take k)++(Hv d).toList:=by
 unfold qD;rw[bE h,List.filterMap_append]
 congr 1
def adO(x:Instance)(cuts:List Cut)(ds:List Decision)(h:MIn x cuts ds)(H0:aH)(K:AV->aH->Prop)(hK:∀j f Hn,RowsS H0 Hn j f (lW x cuts ds)->K (.os j) Hn):
  bF prog 66 [.agg (aE x),.sl (cuts.map eP),.sl (ds.map aO)] H0 K:=by
 have h1:=h.orders;have h2:=h.types;have h3:=h.cl;have h4:=h.dl;have am:=FI x;refine bF.body (c:=f66.body.getD .skip) (fun t=>t == 7||t == 23||t == 37||t == 55||t == 72||t == 80) mixed func66 rfl (by kernel_rfl) ?_;unfold f66;simp only[Xbh];simp only[go_sem];refine aJ fun j hj=>?_
 have S:RowsS H0 (aI H0 j (some ⟨157,3,[]⟩)) j id []:=by refine⟨⟨aB _ _ _,fun i r hr=>(by simp at hr),fun i k hi=>absurd hi (by simp)⟩,fun k row hk=>?_,hj,fun i hi=>absurd hi (by simp)⟩;rw[aD _ _ _ _ (fun e=>by subst e;rw[hj]at hk;cases hk)];exact hk
 generalize aI H0 j _=H1 at S |-;simp only[go_sem];refine aP (Nz x h1) ?_;simp only[go_sem];refine aP (jG _) ?_;rw[La x h1];simp only[go_sem,Xaa];refine⟨fun ρ H=>∃(k:Nat) (j:Nat) (f:Nat->Nat),k<=(jT x).length/\ρ 1=.sl (cuts.map eP)/\ρ 2=.sl (ds.map aO)/\ρ 3=.rp (aE x) 0/\ρ 19=int ((jT x).length:Nat)/\ρ 20=int k/\ρ 7=.os j/\RowsS H0 H j f (AJ k),fun ρ _=>(jT x).length-aT (ρ 20),⟨0,j,id,Xab _,by simp only[go_sem],by simp only[go_sem],by simp only[go_sem],by simp only[go_sem,Xaa],(by simp only[go_sem];rfl),by simp only[go_sem],S⟩,?_⟩;rintro ρ H ⟨k,j,f,hk,X,I,e3,ag,af,E,S⟩;simp only[go_sem,X,I,e3,ag,af,E];refine aA (fun A=>?_) (fun F=>?_)
 ·have A:=ltB (by simpa using A);simp only[go_sem,X,I,e3,ag,af,E];refine aJ fun c hc=>?_
  have R:=(S.lin.new hc (some (eL []))).row;refine aX R ⟨rfl,rfl⟩ ⟨rfl,trivial⟩ (by simp only[List.length_mapIdx,AJ,Xbv,Xad,List.length_nil];omega) (fun j' T=>?_);have S2:=S.app hc T 2 1;have e:AJ (k+1)=AJ k++[⟨[],2,1⟩]:=List.replicate_succ';rw[<-e]at S2;simp only[go_sem,X,I,e3,ag,af,E,aV k];exact⟨⟨k+1,j',_,A,rfl,rfl,S2⟩,by simp only[aF];omega⟩
 have F:=geB hk (by simpa using F);subst F;simp only[go_sem,X,I,e3,ag,af,E,Xaa];generalize hB:AJ (jT x).length=B at S;have an:B.length<=62:=by rw[<-hB];unfold AJ;rw[Xbv];omega
 refine⟨fun ρ H=>∃(k:Nat) (j:Nat) (f:Nat->Nat),k<=x.types.length/\ρ 1=.sl (cuts.map eP)/\ρ 2=.sl (ds.map aO)/\ρ 28=.sl (x.types.map aZ)/\ρ 29=int (x.types.length:Nat)/\ρ 30=int k/\ρ 7=.os j/\RowsS H0 H j f (B++sO (x.types.take k)),fun ρ _=>x.types.length-aT (ρ 30),⟨0,j,f,Xab _,by simp only[go_sem,X,I],by simp only[go_sem,X,I],by simp only[go_sem,X,I],by simp only[go_sem,Xaa,X,I],(by simp only[go_sem,X,I];rfl),by simp only[go_sem,E],by simpa[sO]using S⟩,?_⟩;rintro ρ H ⟨k,j,f,hk,X,I,ab,ae,ac,E,S⟩;simp only[go_sem,X,I,ab,ae,ac,E];refine aA (fun A=>?_) (fun F=>?_)
 ·have A:=ltB (by simpa using A);obtain⟨t,ht⟩:=aM A;have b1:=inB A;have ah:(B++sO (x.types.take k)).length<=62+k:=by unfold sO;simp only[Xaf,Xaa,Xal];omega
  simp only[go_sem,X,I,ab,ae,ac,E,aC ht,b1];refine aJ fun i9 h9=>?_
  simp only[go_sem,X,I,ab,ae,ac,E];refine aN (aB _ _ _) (by simp[jY]) ?_;have U:=S.new h9;generalize hG:aI (aI H i9 _) i9 _=HG;replace U:RowsS H0 HG j f (B++sO (x.types.take k)):=by rw[<-hG];exact U _ _
  have R9:HG i9=some (⟨124,14,[aZ t]⟩:Row):=by rw[<-hG,aB];rfl
  clear hG h9;simp only[go_sem,X,I,ab,ae,ac,E,R9];refine aJ fun c hc=>?_
  have R:=(U.lin.new hc (some (eL []))).row;refine aX R ⟨rfl,rfl⟩ ⟨rfl,trivial⟩ (by simp only[List.length_mapIdx,Xad,List.length_nil];omega) (fun j' T=>?_);have S2:=U.app hc T 1 t.count;have e:B++sO (x.types.take (k+1))=B++sO (x.types.take k)++[⟨[],1,t.count⟩]:=by unfold sO;rw[bE ht,Xan,Xar];rfl
  rw[<-e]at S2;simp only[go_sem,X,I,ab,ae,ac,E,aV k];exact⟨⟨k+1,j',_,A,rfl,rfl,S2⟩,by simp only[aF];omega⟩
 have F:=geB hk (by simpa using F);subst F;rw[Xae]at S;simp only[go_sem,X,I,ab,ae,ac,E,Xaa];generalize aj:B++sO x.types=B2 at S;have al:B2.length<=62+1048576:=by rw[<-aj];unfold sO;rw[Xaf,Xaa];omega
 refine⟨fun ρ H=>∃(k:Nat) (j:Nat) (f:Nat->Nat),k<=cuts.length/\ρ 2=.sl (ds.map aO)/\ρ 41=.sl (cuts.map eP)/\ρ 42=int (cuts.length:Nat)/\ρ 43=int k/\ρ 7=.os j/\RowsS H0 H j f (B2++sU (cuts.take k)),fun ρ _=>cuts.length-aT (ρ 43),⟨0,j,f,Xab _,by simp only[go_sem,I],by simp only[go_sem,I],by simp only[go_sem,Xaa,I],(by simp only[go_sem,I];rfl),by simp only[go_sem,E],by simpa[sU]using S⟩,?_⟩;rintro ρ H ⟨k,j,f,hk,I,Z,Y,aa,E,S⟩;simp only[go_sem,I,Z,Y,aa,E];refine aA (fun A=>?_) (fun F=>?_)
 ·have A:=ltB (by simpa using A);obtain⟨q,hq⟩:=aM A;have b1:=inB A;have ah:(B2++sU (cuts.take k)).length<=62+1048576+k:=by unfold sU;simp only[Xaf,Xaa,Xal];omega
  simp only[go_sem,I,Z,Y,aa,E,aC hq,b1];refine aJ fun i9 h9=>?_
  simp only[go_sem,I,Z,Y,aa,E];refine aN (aB _ _ _) (by simp[sK]) ?_;have U:=S.new h9;generalize hG:aI (aI H i9 _) i9 _=HG;replace U:RowsS H0 HG j f (B2++sU (cuts.take k)):=by rw[<-hG];exact U _ _
  have R9:HG i9=some (⟨105,3,[eP q]⟩:Row):=by rw[<-hG,aB];rfl
  clear hG h9;simp only[go_sem,I,Z,Y,aa,E,R9];refine aP (aiV q) ?_;simp only[go_sem,I,Z,Y,aa,E];refine aJ fun c hc=>?_
  have R:=(U.lin.new hc (some (eL []))).row;refine aX R ⟨rfl,rfl⟩ ⟨rfl,trivial⟩ (by simp only[List.length_mapIdx,Xad,List.length_nil];omega) (fun j' T=>?_);have S2:=U.app hc T (GM q).1 (GM q).2;have e:B2++sU (cuts.take (k+1))=B2++sU (cuts.take k)++[⟨[],(GM q).1,(GM q).2⟩]:=by unfold sU;rw[bE hq,Xan,Xar];rfl
  rw[<-e]at S2;simp only[go_sem,I,Z,Y,aa,E,aV k];exact⟨⟨k+1,j',_,A,rfl,rfl,S2⟩,by simp only[aF];omega⟩
 have F:=geB hk (by simpa using F);subst F;rw[Xae]at S;simp only[go_sem,I,Z,Y,aa,E,Xaa];generalize ai:B2++sU cuts=B3 at S;have ak:B3.length<=62+1048576+1048576:=by rw[<-ai];unfold sU;rw[Xaf,Xaa];omega
 refine⟨fun ρ H=>∃(k:Nat) (j:Nat) (f:Nat->Nat),k<=ds.length/\ρ 59=.sl (ds.map aO)/\ρ 60=int (ds.length:Nat)/\ρ 61=int k/\ρ 7=.os j/\RowsS H0 H j f (B3++qD (ds.take k)),fun ρ _=>ds.length-aT (ρ 61),⟨0,j,f,Xab _,by simp only[go_sem],by simp only[go_sem,Xaa],(by simp only[go_sem];rfl),by simp only[go_sem,E],by simpa[qD]using S⟩,?_⟩;rintro ρ H ⟨k,j,f,hk,O,M,J,E,S⟩;simp only[go_sem,O,M,J,E];refine aA (fun A=>?_) (fun F=>?_)
 ·have A:=ltB (by simpa using A);obtain⟨d,hd⟩:=aM A;have b1:=inB A;have hs:=GF hd;have ah:(B3++qD (ds.take k)).length<=62+1048576+1048576+k:=by have:=M6 ds k;rw[Xaf,Ju];omega
  simp only[go_sem,O,M,J,E,aC hd,b1];refine aJ fun i9 h9=>?_
  simp only[go_sem,O,M,J,E];refine aN (aB _ _ _) (by simp[gK]) ?_;have U:=S.new h9;generalize hG:aI (aI H i9 _) i9 _=HG;replace U:RowsS H0 HG j f (B3++qD (ds.take k)):=by rw[<-hG];exact U _ _
  have R9:HG i9=some (⟨58,4,[aO d]⟩:Row):=by rw[<-hG,aB];rfl
  clear hG h9;simp only[go_sem,O,M,J,E,R9];refine aA (fun hb=>?_) (fun hb=>?_)
  ·have h3:d.kind=3:=by simpa using hb
   rw[show Hv d=some ⟨[],1,d.n⟩from if_pos h3]at hs;simp only[go_sem,O,M,J,E,R9];refine aJ fun c hc=>?_
   have R:=(U.lin.new hc (some (eL []))).row;refine aX R ⟨rfl,rfl⟩ ⟨rfl,trivial⟩ (by simp only[List.length_mapIdx,Xad,List.length_nil];omega) (fun j' T=>?_);have S2:=U.app hc T 1 d.n;have e:B3++qD (ds.take (k+1))=B3++qD (ds.take k)++[⟨[],1,d.n⟩]:=by rw[hs,Xar];rfl
   rw[<-e]at S2;simp only[go_sem,O,M,J,E,aV k];exact⟨⟨k+1,j',_,A,rfl,rfl,S2⟩,by simp only[aF];omega⟩
  have h3:d.kind≠3:=by simpa using hb
  simp only[go_sem,O,M,J,E,R9];refine aA (fun hb=>?_) (fun hb=>?_)
  ·have h4:d.kind=4:=by simpa using hb
   rw[show Hv d=some ⟨[],3,d.n⟩from(if_neg h3).trans (if_pos h4)]at hs;simp only[go_sem,O,M,J,E,R9];refine aJ fun c hc=>?_
   have R:=(U.lin.new hc (some (eL []))).row;refine aX R ⟨rfl,rfl⟩ ⟨rfl,trivial⟩ (by simp only[List.length_mapIdx,Xad,List.length_nil];omega) (fun j' T=>?_);have S2:=U.app hc T 3 d.n;have e:B3++qD (ds.take (k+1))=B3++qD (ds.take k)++[⟨[],3,d.n⟩]:=by rw[hs,Xar];rfl
   rw[<-e]at S2;simp only[go_sem,O,M,J,E,aV k];exact⟨⟨k+1,j',_,A,rfl,rfl,S2⟩,by simp only[aF];omega⟩
  have h4:d.kind≠4:=by simpa using hb
  rw[show Hv d=none from(if_neg h3).trans (if_neg h4)]at hs;simp only[go_sem,O,M,J,E,aV k];refine⟨⟨k+1,j,f,A,rfl,rfl,?_⟩,by simp only[aF];omega⟩;rw[hs];simpa using U
 have F:=geB hk (by simpa using F);subst F;rw[Xae]at S;simp only[go_sem,O,M,J,E];refine hK j f _ ?_;unfold lW;rw[hB,aj,ai];exact S
abbrev EA(jc jr:Nat):Row:=⟨111,2,[[.os jc,.os jr]]⟩
def zR(r:PRow)(n:Int):PRow:=⟨r.coef++[n],r.kind,r.right⟩
def nM(rows:List PRow)(col:List Int):Nat->List PRow
 | 0=>rows
 | k+1=>(nM rows col k).set k (zR (rows.getD k ⟨[],0,0⟩) (col.getD k 0))
def kL(rows:List PRow)(A:List Int):∀k,(nM rows A k).length=rows.length
 | 0=>rfl
 | k+1=>by rw[nM,Xbe,kL rows A k]
def uK(rows:List PRow)(A:List Int):∀k i,(nM rows A k)[i]?=if i<k then(rows[i]?).map (fun r=>zR r (A.getD i 0))else rows[i]?
 | 0,i=>by rw[if_neg (by omega)];rfl
 | k+1,i=>by
  rw[nM,List.getElem?_set,kL];by_cases e:k=i
  ·subst e;rw[if_pos rfl,if_pos (show k<k+1 by omega)];by_cases E:k<rows.length
   ·rw[if_pos E,List.getD,List.getElem?_eq_getElem E];rfl
   ·rw[if_neg E,List.getElem?_eq_none (show rows.length<=k by omega)];rfl
  ·rw[if_neg e,uK rows A k i];by_cases F:i<k
   ·rw[if_pos F,if_pos (by omega)]
   ·rw[if_neg F,if_neg (by omega)]
structure AddS(H0 H:aH)(jp jc jr:Nat)(f:Nat->Nat)(n:Nat)(jc':Nat)(f':Nat->Nat)(cost:List Int)(rows:List PRow)(k:Nat):Prop where
 p:H jp=some (EA jc' jr)
 c:H jc'=some (eL cost)
 lin:LinH H jr f' rows
 fc:∀i,i<rows.length->f' i≠jc'
 rest:∀i,k<=i->f' i=f i
 keep:∀q row,q≠jp->q≠jc->q≠jr->(∀i,i<n->q≠f i)->H0 q=some row->H q=some row
def AddS.step{H0 H:aH}{jp jc jr:Nat}{f:Nat->Nat}{n jc':Nat}{f':Nat->Nat}{cost:List Int}{rows:List PRow}{k:Nat}(S:AddS H0 H jp jc jr f n jc' f' cost rows k)(hn:n=rows.length){r:PRow}(X:rows[k]?=some r){j':Nat}
  (A:H j'=none) (m:Int):AddS H0 (aI (aI (aI H (f' k) none) j' (some (eL (r.coef++[m])))) jr (some ⟨157,3,(rows.mapIdx (mM f')).set k [.os j',int r.kind,int r.right]⟩)) jp jc jr f n jc' (wH f' k j') cost (rows.set k (zR r m)) (k+1):=by
 have U:=(List.getElem?_eq_some_iff.1 X).1;have ae:=S.lin.coef k r X;have ab:jp≠jr:=fun e=>by have h1:=S.p;rw[e,S.lin.row]at h1;have h2:(wN f' rows).e=(EA jc' jr).e:=congrArg Row.e (Option.some.inj h1);exact absurd (show(157:Nat)=111 from h2) (by decide)
 have Y:jp≠f' k:=fun e=>by have h1:=S.p;rw[e,ae]at h1;have h2:(eL r.coef).e=(EA jc' jr).e:=congrArg Row.e (Option.some.inj h1);exact absurd (show(3:Nat)=111 from h2) (by decide)
 have ac:jc'≠jr:=fun e=>by have h1:=S.c;rw[e,S.lin.row]at h1;have h2:(wN f' rows).e=(eL cost).e:=congrArg Row.e (Option.some.inj h1);exact absurd (show(157:Nat)=3 from h2) (by decide)
 have Z:jp≠j':=fun e=>by rw[<-e,S.p]at A;cases A
 have M:jc'≠j':=fun e=>by rw[<-e,S.c]at A;cases A
 have aa:jr≠j':=fun e=>by rw[<-e,S.lin.row]at A;cases A
 refine⟨?_,?_,⟨?_,fun i r2 F=>?_,fun i l J hl E=>?_⟩,fun i J=>?_,fun i J=>?_,fun q row q1 q2 q3 q4 hq=>?_⟩
 ·rw[aD _ _ _ _ ab,aD _ _ _ _ Z,aD _ _ _ _ Y];exact S.p
 ·rw[aD _ _ _ _ ac,aD _ _ _ _ M,aD _ _ _ _ (S.fc k U).symm];exact S.c
 ·rw[aB];exact congrArg (fun l=>some (⟨157,3,l⟩:Row)) (Wd f' rows k j' r (r.coef++[m]) X)
 ·rw[List.getElem?_set]at F;unfold wH;by_cases e:k=i
  ·subst e;rw[if_pos rfl,if_pos U]at F;rw[if_pos rfl,aD _ _ _ _ aa.symm,aB];have:r2=zR r m:=(Option.some.inj F).symm;rw[this];rfl
  ·rw[if_neg e]at F;have T:=S.lin.coef i r2 F;have O:=(List.getElem?_eq_some_iff.1 F).1;rw[if_neg (fun h=>e h.symm),aD _ _ _ _ (S.lin.ne O),aD _ _ _ _ (fun h=>by rw[h,A]at T;cases T),aD _ _ _ _ (fun h=>e (S.lin.inj k i U O h.symm))];exact T
 ·rw[Xbe]at J hl;have I:∀i,i<rows.length->f' i≠j':=fun i J e=>by obtain⟨r,X⟩:=aM J;have:=S.lin.coef i r X;rw[e,A]at this;cases this
  unfold wH at E;by_cases e1:i=k
  ·by_cases e2:l=k
   ·omega
   ·rw[if_pos e1,if_neg e2]at E;exact absurd E.symm (I l hl)
  ·by_cases e2:l=k
   ·rw[if_neg e1,if_pos e2]at E;exact absurd E (I i J)
   ·rw[if_neg e1,if_neg e2]at E;exact S.lin.inj i l J hl E
 ·rw[Xbe]at J;unfold wH;by_cases e:i=k
  ·rw[if_pos e];exact M.symm
  ·rw[if_neg e];exact S.fc i J
 ·unfold wH;rw[if_neg (by omega)];exact S.rest i (by omega)
 ·have T:=S.keep q row q1 q2 q3 q4 hq;rw[aD _ _ _ _ q3,aD _ _ _ _ (fun h=>by rw[h,A]at T;cases T),aD _ _ _ _ (fun h=>q4 k (by omega) (h.trans (S.rest k (Xag _))))];exact T
def Xt(f:Nat->Nat)(rows:List PRow){k:Nat}{r:PRow}(h:rows[k]?=some r):(rows.mapIdx (mM f)).getD k []=mM f k r:=by rw[List.getD,List.getElem?_mapIdx,h];rfl
def afA(n:Int)(A:List Int)(jp jc jr:Nat)(f:Nat->Nat)(cost:List Int)(rows:List PRow)(H0:aH)(K:AV->aH->Prop)(Hp:H0 jp=some (EA jc jr))(Hc:H0 jc=some (eL cost))(L:LinH H0 jr f rows)(am:∀i,i<rows.length->f i≠jc)
  (a4:A.length=rows.length) (hl:A.length<=1048576) (a6:cost.length<=1048576) (az:∀r∈rows,r.coef.length<=1048576)
  (hK:∀a jc' f' Hn,AddS H0 Hn jp jc jr f rows.length jc' f' (cost++[n]) (nM rows A A.length) A.length->K a Hn):
  bF prog 69 [int n,.sl (A.map aQ),.op jp 0 0] H0 K:=by
 refine bF.body (c:=f69.body.getD .skip) (fun _=>false) mixed func69 rfl (by kernel_rfl) ?_;unfold f69;simp only[Xbh];simp only[go_sem];simp only[Hp,go_sem];refine aX Hc ⟨rfl,rfl⟩ ⟨rfl,trivial⟩ (by simp only[Xaa,Xad,List.length_nil];omega) (fun j' O=>?_);have ax:jp≠jc:=fun e=>by have h1:=Hp;rw[e,Hc]at h1;have X:(eL cost).e=(EA jc jr).e:=congrArg Row.e (Option.some.inj h1);exact absurd (show(3:Nat)=111 from X) (by decide)
 have an:jr≠jc:=fun e=>by have h1:=L.row;rw[e,Hc]at h1;have X:(eL cost).e=(wN f rows).e:=congrArg Row.e (Option.some.inj h1);exact absurd (show(3:Nat)=157 from X) (by decide)
 have Y:jr≠jp:=fun e=>by have h1:=L.row;rw[e,Hp]at h1;have X:(EA jc jr).e=(wN f rows).e:=congrArg Row.e (Option.some.inj h1);exact absurd (show(111:Nat)=157 from X) (by decide)
 have ag:=cT (r':=(⟨3,1,(eL cost).es++[[int n]]⟩:Row)) Hp ax.symm O;simp only[go_sem];refine bU agF ag ⟨by simp,rfl,by simp⟩ ?_;have S:AddS H0 (aI (aI (aI H0 jc none) j' (some (⟨3,1,(eL cost).es++[[int n]]⟩:Row))) jp (some (EA j' jr))) jp jc jr f rows.length j' f (cost++[n]) rows 0:=by
  have U:jp≠j':=aR Hp O;have ay:jr≠j':=aR L.row O;have ai:∀i,i<rows.length->f i≠j':=fun i hi e=>by obtain⟨r,M⟩:=aM hi;have:=L.coef i r M;rw[e,O]at this;cases this
  have ap:∀i,i<rows.length->f i≠jp:=fun i hi e=>by obtain⟨r,M⟩:=aM hi;have h1:=L.coef i r M;rw[e,Hp]at h1;have X:(EA jc jr).e=(eL r.coef).e:=congrArg Row.e (Option.some.inj h1);exact absurd (show(111:Nat)=3 from X) (by decide)
  refine⟨aB _ _ _,?_,⟨?_,fun i r M=>?_,L.inj⟩,ai,fun _ _=>rfl,fun q row q1 q2 q3 q4 hq=>?_⟩
  ·rw[aD _ _ _ _ U.symm,aB];exact congrArg (fun l=>some (⟨3,1,l⟩:Row)) (Xan (f:=aQ) (l₁:=cost) (l₂:=[n])).symm
  ·rw[aD _ _ _ _ Y,aD _ _ _ _ ay,aD _ _ _ _ an];exact L.row
  ·have hi:=(List.getElem?_eq_some_iff.1 M).1;rw[aD _ _ _ _ (ap i hi),aD _ _ _ _ (ai i hi),aD _ _ _ _ (am i hi)];exact L.coef i r M
  ·rw[aD _ _ _ _ q1,aD _ _ _ _ (aR hq O),aD _ _ _ _ q2];exact hq
 generalize hG:aI (aI (aI H0 jc none) j' _) jp _=HG;replace S:AddS H0 HG jp jc jr f rows.length j' f (cost++[n]) rows 0:=by rw[<-hG];exact S
 clear hG ag O;simp only[go_sem,Xaa];refine⟨fun ρ H=>∃(k:Nat) (jc':Nat) (f':Nat->Nat),k<=A.length/\ρ 2=.op jp 0 0/\ρ 13=.sl (A.map aQ)/\ρ 14=int (A.length:Nat)/\ρ 15=int k/\AddS H0 H jp jc jr f rows.length jc' f' (cost++[n]) (nM rows A k) k,fun ρ _=>A.length-aT (ρ 15),⟨0,j',f,Xab _,by simp only[go_sem],by simp only[go_sem],by simp only[go_sem,Xaa],(by simp only[go_sem];rfl),S⟩,?_⟩;rintro ρ H ⟨k,jc',f',hk,e2,J,I,F,S⟩;simp only[go_sem,e2,J,I,F];refine aA (fun T=>?_) (fun aa=>?_)
 ·have T:=ltB (by simpa using T);obtain⟨m,hm⟩:=aM T;have b1:=inB T;obtain⟨r,M⟩:=aM (l:=nM rows A k) (k:=k) (by rw[kL];omega);have b2:(0:Int)<=(k:Int)/\(k:Int)<((nM rows A k).length:Int):=by rw[kL];omega
  have ah:rows[k]?=some r:=by rw[uK,if_neg (by omega)]at M;exact M
  have a0:=az r (Xac ah);have af:nM rows A (k+1)=(nM rows A k).set k (zR r m):=by rw[nM,List.getD,ah,List.getD,hm];rfl
  have aq:=kL rows A k;generalize nM rows A k=rowsK at *;have aj:=Xt f' rowsK M;simp only[go_sem,e2,J,I,F,aC hm,b1];refine Av [jp] (.q 0 (.q 1 (.q 2 (.q 3 (.q 4 (.q 5 (.q 9 (.a2 6 (.q 7 (.a2 8 (.a1 10 (.a1 11 (.a1 12 (.a1 13 (.a1 14 .nil))))) 10 (.a1 8 (.a1 11 (.a1 12 (.a1 13 (.a1 14 .nil))))))) 10 (.a1 6 (.q 7 (.a1 8 (.a1 11 (.a1 12 (.a1 13 (.a1 14 .nil))))))))))))))) (by simp[S.p]) (by kernel_rfl) fun Hp Hr hp hq a5 a7=>?_
  have Pp:=(hp jp (by simp)).trans S.p;simp only[go_sem,e2,J,I,F,Pp];have ak:f' k≠jp:=fun e=>by have h1:=S.lin.coef k r M;rw[e,S.p]at h1;have X:(EA jc' jr).e=(eL r.coef).e:=congrArg Row.e (Option.some.inj h1);exact absurd (show(111:Nat)=3 from X) (by decide)
  have Rr:Hr jr=some (wN f' rowsK):=(hq jr (by simpa using Y)).trans S.lin.row;have Rk:Hr (f' k)=some (eL r.coef):=(hq (f' k) (by simpa using ak)).trans (S.lin.coef k r M);have au:f' k≠jr:=S.lin.ne (by omega);have av:∀(E:Nat) (G:aH),Hr E=none->G=aI (aI (aI Hr (f' k) none) E (some (eL (r.coef++[m])))) jr (some ⟨157,3,(rowsK.mapIdx (mM f')).set k [.os E,int r.kind,int r.right]⟩)->(∀q,q∈[jp]->G q=none)->∀Hm:aH,(∀q,q∈[jp]->Hm q=H q)->(∀q,¬q∈[jp]->Hm q=G q)->AddS H0 Hm jp jc jr f rows.length jc' (wH f' k E) (cost++[n]) (nM rows A (k+1)) (k+1):=by
   intro E G ao hG hd Hm ab ac;have U:jp≠E:=fun e=>by have:=hd jp (by simp);rw[hG,aD _ _ _ _ Y.symm,e,aB]at this;cases this
   have ar:H E=none:=by rw[<-hq E (by simpa using U.symm)];exact ao
   have S2:=S.step aq.symm M ar m;rw[af];have eM:Hm=aI (aI (aI H (f' k) none) E (some (eL (r.coef++[m])))) jr (some ⟨157,3,(rowsK.mapIdx (mM f')).set k [.os E,int r.kind,int r.right]⟩):=by
    funext q;by_cases ae:q=jp
    ·subst ae;rw[ab q (by simp),aD _ _ _ _ Y.symm,aD _ _ _ _ U,aD _ _ _ _ ak.symm]
    ·rw[ac q (by simpa using ae),hG];simp only[aI];rw[hq q (by simpa using ae)]
   rw[eM];exact S2
  repeat' (first|(refine jN ?_ ?_)|(simp only[go_sem,e2,J,I,F,Rr,List.length_mapIdx,b2,aj]))
  all_goals
   refine⟨by omega,aX Rk ⟨rfl,rfl⟩ ⟨rfl,trivial⟩ (by simp only[Xaa,Xad,List.length_nil];omega) (fun E Z=>?_)⟩;have aw:Hr E=none:=Z;have al:=cT (r':=(⟨3,1,(eL r.coef).es++[[int m]]⟩:Row)) Rr au Z;simp only[go_sem,e2,J,I,F,al,List.length_mapIdx,b2];refine bU agF al ⟨by rw[List.length_mapIdx];omega,rfl,by simp⟩ ?_;rw[aj];simp only[go_sem];refine dX fun hd Hm ab ac=>?_
   have S3:=av E _ aw (by rw[show(eL (r.coef++[m]))=(⟨3,1,(eL r.coef).es++[[int m]]⟩:Row)from congrArg (fun l=>(⟨3,1,l⟩:Row)) (Xan (f:=aQ) (l₁:=r.coef) (l₂:=[m]))]) hd Hm ab ac;simp only[go_sem,e2,J,I,F,aV k];exact⟨⟨k+1,jc',_,T,rfl,S3⟩,by simp only[aF];omega⟩
 have aa:=geB hk (by simpa using aa);subst aa;simp only[go_sem,e2,J,I,F];exact hK _ jc' f' _ S
def cD(n N:Int):Bool:=decide (n<0)||decide (n>=N)
def cC(s:Score):(bD s).length=4:=(rfl)
def wF(s:Score):(bD s).getD 0 .any=int s.cost:=(rfl)
def vV(s:Score):(bD s).getD 1 .any=int s.moved:=(rfl)
def vZ(s:Score):(bD s).getD 2 .any=int s.other:=(rfl)
def xG(s:Score):(bD s).getD 3 .any=int s.work:=(rfl)
def qL(s:Score):(bD s).take 4=bD s:=(rfl)
def bJ:Score:=⟨0,0,0,0⟩
def eT(o:Order):Score×Int:=if o.off=true then(bJ,9)else if(o.penalty == -1)=true then(bJ,23)else(⟨o.penalty,if(o.now != -1)=true then 1 else 0,0,0⟩,0)
def cE(x:Instance)(k:Int):Score×Int:=if cD k x.orders.length=true then(bJ,2)else match x.orders[k.toNat]? with|some o=>eT o|none=>(bJ,2)
def DY(x:Instance)(k:Int):PC prog 49 [.agg (aE x),int k] (.tup [.agg (bD (cE x k).1),int (cE x k).2]):=by
 refine pcd func49 rfl rfl ?_;simp only[go_sem];refine aJ fun j hj=>?_
 have R:=aB bS j (some (⟨83,4,[[int 0,int 0,int 0,int 0]]⟩:Row));generalize aI bS j _=H0 at R |-;clear hj;simp only[go_sem];refine aA (fun h1=>?_) (fun h1=>?_)
 ·have e:cE x k=(bJ,2):=if_pos h1;rw[e];simp only[go_sem];refine aN R (by simp) ?_;simp only[go_sem];exact .refl _
 have O:0<=k/\k<(x.orders.length:Int):=by simp only[Xah,decide_eq_false_iff_not]at h1;omega
 obtain⟨o,ho⟩:=aM (show k.toNat<x.orders.length by omega);have e:cE x k=eT o:=by unfold cE;rw[if_neg (by rw[show cD k x.orders.length=false from h1];simp),ho]
 rw[e];simp only[go_sem,aC ho,O];refine aJ fun i Z=>?_
 have J:j≠i:=aR R Z;simp only[go_sem];refine aN (aB _ _ _) (by simp[kF]) ?_;generalize A:aI (aI H0 i _) i _=H1;have E:H1 i=some ⟨81,16,[aW o]⟩:=by rw[<-A,aB];rfl
 have R:H1 j=some ⟨83,4,[[int 0,int 0,int 0,int 0]]⟩:=by rw[<-A,aD _ _ _ _ J,aD _ _ _ _ J];exact R
 clear A Z;simp only[go_sem,E];refine aA (fun M=>?_) (fun M=>?_)
 ·have e:eT o=(bJ,9):=if_pos M;rw[e];simp only[go_sem];refine aN R (by simp) ?_;simp only[go_sem];exact .refl _
 simp only[go_sem,E];refine aA (fun X=>?_) (fun X=>?_)
 ·have e:eT o=(bJ,23):=by unfold eT;rw[if_neg (by rw[M];simp),if_pos X]
  rw[e];simp only[go_sem];refine aN R (by simp) ?_;simp only[go_sem];exact .refl _
 have e:eT o=(⟨o.penalty,if(o.now != -1)=true then 1 else 0,0,0⟩,0):=by unfold eT;rw[if_neg (by rw[M];simp),if_neg (by rw[X];simp)]
 rw[e];simp only[go_sem,E];refine aJ fun q Y=>?_
 have F:j≠q:=aR R Y;have I:i≠q:=aR E Y;simp only[go_sem];refine aN (aB _ _ _) (by simp) ?_;generalize A:aI (aI H1 q _) q _=H2;have U:H2 q=some ⟨83,4,[[int o.penalty,int 0,int 0,int 0]]⟩:=by rw[<-A,aB];rfl
 have E:H2 i=some ⟨81,16,[aW o]⟩:=by rw[<-A,aD _ _ _ _ I,aD _ _ _ _ I];exact E
 have R:H2 j=some ⟨83,4,[[int 0,int 0,int 0,int 0]]⟩:=by rw[<-A,aD _ _ _ _ F,aD _ _ _ _ F];exact R
 clear A Y;simp only[go_sem,E,U];refine aA (fun T=>?_) (fun T=>?_)
 ·simp only[go_sem];refine bU so3 U ⟨by simp,rfl,by simp⟩ ?_;simp only[go_sem];refine aN (by rw[aD _ _ _ _ F];exact R) (by simp) ?_;simp only[go_sem];rw[if_pos T];exact .refl _
 ·simp only[go_sem,U];refine aN R (by simp) ?_;simp only[go_sem];rw[if_neg (by rw[T];simp)];exact .refl _
def ahD(s:Score):Int:=IntKind.i64.wrap (IntKind.i64.wrap (IntKind.i64.wrap (IntKind.i64.wrap (IntKind.i64.wrap (IntKind.i64.wrap (s.cost*16)+s.moved)*16)+s.other)*65536)+s.work)
def gV(s:Score):Int×Int:=if(decide (s.cost<0)||decide (s.moved<0)||decide (s.other<0)||decide (s.work<0))=true then(0,2)
 else if(decide (s.cost>1073741824)||decide (s.moved>=16)||decide (s.other>=16)||decide (s.work>=65536))=true then(0,4)else(ahD s,0)
def yD(s:Score):PC prog 50 [.agg (bD s)] (.agg (bD s)):=by
 refine pcd func50 rfl rfl ?_;simp only[go_sem];refine aJ fun j A=>?_
 simp only[go_sem];refine aN (aB _ _ _) (by simp) ?_;simp only[go_sem];exact .refl _
def Ah(s:Score):PC prog 23 [.agg (bD s)] (.tup [int (gV s).1,int (gV s).2]):=by
 refine pcd func23 rfl rfl ?_;simp only[go_sem];refine aP (yD s) ?_;simp only[go_sem];refine aJ fun j O=>?_
 simp only[go_sem];refine bP O (by simp[cC]) fun Y (R:Y j=some (⟨134,4,[bD s]⟩)) N=>?_
 clear N O;simp only[go_sem,R];refine⟨fun ρ H=>∃(k:Nat),k<=4/\ρ 1=.rp (bD s) 0/\ρ 9=.agg (bD s)/\ρ 10=int k/\(∀e∈[s.cost,s.moved,s.other,s.work].take k,¬e<0),fun ρ _=>4-aT (ρ 10),⟨0,Xab _,by simp only[go_sem],by simp only[go_sem],(by simp only[go_sem];rfl),by simp⟩,?_⟩;rintro ρ H ⟨k,hk,I,J,A,M⟩;simp only[go_sem,I,J,A];refine aA (fun E=>?_) (fun F=>?_)
 ·have E:k<4:=by simp at E;omega
  obtain⟨e,U⟩:=aM (l:=[s.cost,s.moved,s.other,s.work]) (show k<[s.cost,s.moved,s.other,s.work].length from E);have hg:(bD s).getD k .any=int e:=by
   have:bD s=[s.cost,s.moved,s.other,s.work].map fun n=>int n:=rfl
   rw[this,List.getD,List.getElem?_map,U];rfl
  simp only[go_sem,I,J,A];refine⟨by omega,by omega,?_⟩;rw[Nat.mul_one,hg];simp only[go_sem,I,J,A];refine aA (fun T=>?_) (fun T=>?_)
  ·simp only[go_sem];have Z:=Xac U;simp only[List.mem_cons,List.not_mem_nil,or_false]at Z;have e:gV s=(0,2):=if_pos (by simp at T |-;rcases Z with h|h|h|h <;> omega);rw[e];exact .refl _
  ·simp only[go_sem,I,J,A,aV k];refine⟨⟨k+1,E,rfl,fG (p:=fun e:Int=>¬e<0) U (by simpa using T) M⟩,by simp only[aF];omega⟩
 have F:k=4:=by simp at F;omega
 subst F;have T:¬(decide (s.cost<0)||decide (s.moved<0)||decide (s.other<0)||decide (s.work<0))=true:=by have h0:=M s.cost (by simp);have h1:=M s.moved (by simp);have h2:=M s.other (by simp);have h3:=M s.work (by simp);simp;omega
 unfold gV;rw[if_neg T];simp only[go_sem,I,J,A];refine aA (fun X=>?_) (fun X=>?_)
 ·rw[if_pos X];simp only[go_sem];exact .refl _
 rw[if_neg (by rw[X];simp)];simp only[go_sem,I,J,A];exact .refl _
end Nu
namespace Nu
open Go.Proofs.Tryz
open Go.Nu
open Dec (jH dC cL kS)
abbrev Hs:Row:=⟨111,2,[[.sl [],.sl []]]⟩
structure BldS(H:aH)(i8 i11 jc jr:Nat)(f:Nat->Nat)(cost:List Int)(rows:List PRow):Prop where
 r8:H i8=some Hs
 p:H i11=some (EA jc jr)
 c:H jc=some (eL cost)
 lin:LinH H jr f rows
 fc:∀i,i<rows.length->f i≠jc
 ne:i8≠i11
def LinH.mono{H H':aH}{jr:Nat}{f:Nat->Nat}{rows:List PRow}(h:LinH H jr f rows)(A:∀k row,H k=some row->H' k=some row):LinH H' jr f rows:=
 ⟨A _ _ h.row,fun i r E=>A _ _ (h.coef i r E),h.inj⟩
def BldS.mono{H H':aH}{i8 i11 jc jr:Nat}{f:Nat->Nat}{cost:List Int}{rows:List PRow}(h:BldS H i8 i11 jc jr f cost rows)(A:∀k row,H k=some row->H' k=some row):BldS H' i8 i11 jc jr f cost rows:=
 ⟨A _ _ h.r8,A _ _ h.p,A _ _ h.c,h.lin.mono A,h.fc,h.ne⟩
def GS{H:aH}{i:Nat}(E:H i=none)(a:Option Row):∀k row,H k=some row->aI H i a k=some row:=fun k row A=>by rw[aD _ _ _ _ (fun e=>by subst e;rw[E]at A;cases A)];exact A
def At{H:aH}{i:Nat}(E:H i=none)(a b:Option Row):∀k row,H k=some row->aI (aI H i a) i b k=some row:=fun k row A=>by rw[aD _ _ _ _ (fun e=>by subst e;rw[E]at A;cases A)];exact GS E a k row A
def BldS.add{H I:aH}{i8 i11 jc jr:Nat}{f:Nat->Nat}{cost:List Int}{rows:List PRow}(h:BldS H i8 i11 jc jr f cost rows){jc':Nat}{f':Nat->Nat}{E:List Int}{A:List PRow}{k:Nat}
  (S:AddS H I i11 jc jr f rows.length jc' f' E A k):BldS I i8 i11 jc' jr f' E A:=by
 refine⟨S.keep i8 _ h.ne (fun e=>?_) (fun e=>?_) (fun i M e=>?_) h.r8,S.p,S.c,S.lin,S.fc,h.ne⟩
 ·have h1:=h.r8;rw[e,h.c]at h1;have F:(eL cost).e=Hs.e:=congrArg Row.e (Option.some.inj h1);exact absurd (show(3:Nat)=111 from F) (by decide)
 ·have h1:=h.r8;rw[e,h.lin.row]at h1;have F:(wN f rows).e=Hs.e:=congrArg Row.e (Option.some.inj h1);exact absurd (show(157:Nat)=111 from F) (by decide)
 ·have h1:=h.r8;obtain⟨r,J⟩:=aM M;rw[e,h.lin.coef i r J]at h1;have F:(eL r.coef).e=Hs.e:=congrArg Row.e (Option.some.inj h1);exact absurd (show(3:Nat)=111 from F) (by decide)
def iO(p:List Int×List PRow)(cost:Int)(col:List Int):List Int×List PRow:=(p.1++[cost],nM p.2 col col.length)
def kA(x:Instance)(o:Int)(n k:Nat):List Int:=((jT x).take k).map (fun i=>xX (i == o))++List.replicate (n-k) 0
def mP(x:Instance)(o:Int)(n:Nat):List Int:=(jT x).map (fun i=>xX (i == o))++List.replicate (n-(jT x).length) 0
def tH(x:Instance)(o:Int):Int:=(gV (cE x o).1).1
def Bd(x:Instance)(cuts:List Cut)(ds:List Decision)(l:List Column):List Int×List PRow:=l.foldl (fun s c=>iO s c.price (rR x c cuts ds)) ([],lW x cuts ds)
def BB(x:Instance)(n:Nat)(s0:List Int×List PRow)(l:List Int):List Int×List PRow:=l.foldl (fun s o=>iO s (tH x o) (mP x o n)) s0
def iE(x:Instance)(d:Nat)(cols:List Column)(cuts:List Cut)(ds:List Decision):PLin×Int:=
 if Ac x d cols cuts ds≠0 then(⟨[],[]⟩,Ac x d cols cuts ds)
 else if gQ x cuts ds>64\/(inM cols ds).length+(iZ x ds).length>8192 then(⟨[],[]⟩,4)
 else(⟨(BB x (gQ x cuts ds) (Bd x cuts ds (inM cols ds)) (iZ x ds)).1,(BB x (gQ x cuts ds) (Bd x cuts ds (inM cols ds)) (iZ x ds)).2⟩,0)
def tN(p:List Int×List PRow)(cost:Int)(A:List Int):(iO p cost A).2.length=p.2.length/\(iO p cost A).1.length=p.1.length+1:=by unfold iO;exact⟨kL _ _ _,by simp⟩
def Sz(p:List Int×List PRow)(n k:Nat):Prop:=p.1.length=k/\p.2.length=n/\∀r∈p.2,r.coef.length=k
def Sz.add{p:List Int×List PRow}{n k:Nat}(h:Sz p n k)(cost:Int){A:List Int}(O:A.length=n):Sz (iO p cost A) n (k+1):=by obtain⟨h1,M,J⟩:=h;refine⟨by rw[(tN p cost A).2,h1],by rw[(tN p cost A).1,M],fun r I=>?_⟩;obtain⟨i,F,rfl⟩:=List.getElem_of_mem I;have E:=List.getElem?_eq_getElem F;unfold iO at E F;rw[uK]at E;rw[kL]at F;rw[if_pos (by omega),List.getElem?_eq_getElem (by omega)]at E;have:(iO p cost A).2[i]=zR (p.2[i]'(by omega)) (A.getD i 0):=(Option.some.inj E).symm;rw[this];unfold zR;rw[Xaf,J _ (List.getElem_mem _)];rfl
def OO(x:Instance)(cuts:List Cut)(ds:List Decision):Sz ([],lW x cuts ds) (gQ x cuts ds) 0:=by
 refine⟨rfl,Ay x cuts ds,fun r A=>?_⟩;unfold lW AJ sO sU qD at A;simp only[Xat,Xay,List.mem_filterMap]at A;rcases A with((h|⟨t,_,rfl⟩)|⟨t,_,rfl⟩)|⟨t,_,h⟩
 ·rw[List.eq_of_mem_replicate h];rfl
 ·rfl
 ·rfl
 ·unfold Hv at h;split at h
  ·cases h;rfl
  ·split at h
   ·cases h;rfl
   ·cases h
def DE{x:Instance}{cuts:List Cut}{ds:List Decision}{l:List Column}{k:Nat}{c:Column}(h:l[k]?=some c):Bd x cuts ds (l.take (k+1))=iO (Bd x cuts ds (l.take k)) c.price (rR x c cuts ds):=by unfold Bd;rw[bE h,List.foldl_append];rfl
def Dk{x:Instance}{n:Nat}{s0:List Int×List PRow}{l:List Int}{k:Nat}{o:Int}(h:l[k]?=some o):BB x n s0 (l.take (k+1))=iO (BB x n s0 (l.take k)) (tH x o) (mP x o n):=by unfold BB;rw[bE h,List.foldl_append];rfl
def E8(x:Instance)(cuts:List Cut)(ds:List Decision)(l:List Column):∀k,k<=l.length->Sz (Bd x cuts ds (l.take k)) (gQ x cuts ds) k
 | 0,_=>OO x cuts ds
 | k+1,hk=>by obtain⟨c,A⟩:=aM (show k<l.length by omega);rw[DE A];exact(E8 x cuts ds l k (by omega)).add _ (Bq x c cuts ds)
def zJ(x:Instance)(o:Int){n:Nat}(h:(jT x).length<=n):(mP x o n).length=n:=by unfold mP;rw[Xaf,Xaa,Xbv];omega
def Lt(x:Instance){n m:Nat}{s0:List Int×List PRow}(A:(jT x).length<=n)(h0:Sz s0 n m)(l:List Int):∀k,k<=l.length->Sz (BB x n s0 (l.take k)) n (m+k)
 | 0,_=>h0
 | k+1,hk=>by obtain⟨c,E⟩:=aM (show k<l.length by omega);rw[Dk E];exact(Lt x A h0 l k (by omega)).add _ (zJ x c A)
def VE{H:aH}(f:Nat->Nat)(rows:List PRow)(h:∀(i:Nat) (r:PRow),rows[i]?=some r->H (f i)=some (eL r.coef)):ConvE H (rows.mapIdx (mM f)) (rows.map jU):=by
 induction rows generalizing f with
 | nil=>exact .nil
 | cons r l ih=>rw[List.mapIdx_cons,Xaw];refine .cons _ _ _ _ (.cons _ _ _ _ (.row _ _ _ (h 0 r rfl) (ConvE.refl _)) (ConvL.refl _)) ?_;exact ih (fun i=>f (i+1)) fun i r2 A=>h (i+1) r2 (by rw[List.getElem?_cons_succ];exact A)
def P9{x:Instance}{d:Nat}{A:List Column}{cuts:List Cut}{ds:List Decision}(h:Ac x d A cuts ds=0):jH x ds=0/\(∀q∈cuts,oI x d q=0)/\∀c∈A,FY x c=false:=by
 unfold Ac at h;split at h
 ·next h1=>exact absurd h h1
 next h1=>
 split at h
 ·next E=>exact absurd h E
 next E=>
 split at h
 ·cases h
 next J=>
 refine⟨by simpa using h1,fun q M=>Dec.pD (by simpa using E) _ (Xay.2 ⟨q,M,rfl⟩),fun c F=>?_⟩;exact Bool.eq_false_iff.2 fun I=>J (Xao.2 ⟨c,F,I⟩)
def Rz{x:Instance}{d:Nat}{q:Cut}(h:oI x d q=0):0<=q.set:=by
 unfold oI wM at h;refine Decidable.byContradiction fun A=>?_
 rw[decide_eq_false (show ¬q.set>=0 by omega)]at h;simp at h;split at h
 ·cases h
 ·split at h
  ·cases h
  ·cases h
def Xb{x:Instance}{c:Column}(h:FY x c=false):0<c.set:=by unfold FY at h;simp only[Xah,decide_eq_false_iff_not]at h;omega
def S4{α:Type}(a b:α)(R:List α):∀A:List α,(A++a::R).set A.length b=A++b::R
 | []=>rfl
 | c::A=>by rw[List.cons_append,Xad,List.set_cons_succ,S4 a b R A];rfl
def Oj{x:Instance}{o:Int}{n k:Nat}{i:Int}(h:(jT x)[k]?=some i)(E:k<n):kA x o n (k+1)=(kA x o n k).set k (xX (i == o)):=by have A:=(List.getElem?_eq_some_iff.1 h).1;unfold kA;rw[bE h,Xan,show n-k=(n-(k+1))+1 by omega,List.replicate_succ,Xar];have:=S4 (0:Int) (xX (i == o)) (List.replicate (n-(k+1)) 0) (((jT x).take k).map fun i=>xX (i == o));rw[Xaa,Xal,show min k (jT x).length=k by omega]at this;rw[this];rfl
def OX{x:Instance}{o:Int}{n k:Nat}(h:k<=(jT x).length)(A:(jT x).length<=n):(kA x o n k).length=n:=by unfold kA;rw[Xaf,Xaa,Xal,Xbv];omega
def XW(H:aH)(i:Nat)(a:Option Row)(h:H i=none):aI (aI H i a) i none=H:=by
 funext k;by_cases e:k=i
 ·subst e;rw[aB,h]
 ·rw[aD _ _ _ _ e,aD _ _ _ _ e]
def acV(H:aH)(i:Nat)(a b:Option Row):aI (aI H i a) i b=aI H i b:=by
 funext k;by_cases e:k=i
 ·subst e;rw[aB,aB]
 ·rw[aD _ _ _ _ e,aD _ _ _ _ e,aD _ _ _ _ e]
def abF(x:Instance)(d:Nat)(Y:List Column)(cuts:List Cut)(ds:List Decision)(bd:LoadsOk x d)(bh:x.types≠[])(h:MIn x cuts ds)(hl:Y.length<=1048576)(hs:∀c∈Y,c.set<=9223372036854775807)(hq:∀q∈cuts,q.set<=9223372036854775807):
  PC prog 43 [.agg (aE x),.sl (Y.map bH),.sl (cuts.map eP),.sl (ds.map aO)] (.tup [.agg (iG (iE x d Y cuts ds).1),int (iE x d Y cuts ds).2]):=by
 have h1:=h.orders;have h2:=h.types;have h3:=h.cl;have h4:=h.dl;have bz:=FI x;refine pcb (fun t=>t == 39) func43 rfl rfl ?_;simp only[go_sem];refine aJ fun i8 h8=>?_
 have R8:=aB bS i8 (some Hs);generalize aI bS i8 _=HGi8 at R8 |-;clear h8;simp only[go_sem];refine aP (aaM x d Y cuts ds bd bh h hl hs) ?_;unfold iE;simp only[go_sem];refine aA (fun hb=>?_) (fun hb=>?_)
 ·rw[if_pos (by simpa using hb)];simp only[go_sem];refine aN R8 (by simp) ?_;simp only[go_sem];exact .refl _
 rw[if_neg (by simpa using hb)];simp only[go_sem];refine adO x cuts ds h _ _ fun jr f H1 S=>?_
 have R8:=S.keep i8 _ R8;have Sl:=S.lin;have bq:=Ay x cuts ds;simp only[go_sem];refine aJ fun ia ha=>?_
 refine aJ fun ib a8=>?_
 refine aJ fun i11 ax=>?_
 simp only[go_sem];refine aN (aB _ _ _) (by simp) ?_;have B:BldS (aI (aI (aI (aI H1 ia (some (⟨3,1,[]⟩:Row))) ib (some ⟨157,3,[]⟩)) i11 (some Hs)) i11 (some (EA ia jr))) i8 i11 ia jr f [] (lW x cuts ds):=by
  have m1:=GS ha (some (⟨3,1,[]⟩:Row));have m2:=GS a8 (some (⟨157,3,[]⟩:Row));have m3:=At ax (some Hs) (some (EA ia jr));refine⟨m3 _ _ (m2 _ _ (m1 _ _ R8)),aB _ _ _,m3 _ _ (m2 _ _ (aB _ _ _)),((Sl.mono m1).mono m2).mono m3,fun i hi e=>?_,fun e=>?_⟩
  ·obtain⟨r,hr⟩:=aM hi;have:=Sl.coef i r hr;rw[e,ha]at this;cases this
  ·have:=m2 _ _ (m1 _ _ R8);rw[e,ax]at this;cases this
 generalize hG:aI (aI (aI (aI H1 ia _) ib _) i11 _) i11 _=G;replace B:BldS G i8 i11 ia jr f [] (lW x cuts ds):=by rw[<-hG];exact B
 clear hG ax a8 ha Sl R8 S;simp only[go_sem];refine aP (Dr Y ds hl h4) ?_;simp only[go_sem];refine aP (abM x ds h1 h4) ?_;have b0:(inM Y ds).length<=Y.length:=Xbu _ _;have bw:(iZ x ds).length<=(jT x).length:=Xbu _ _;have bp:∀c∈inM Y ds,c∈Y:=fun c hc=>(List.mem_filter.1 hc).1
 obtain⟨_,bo,bk⟩:=P9 (show Ac x d Y cuts ds=0 by simpa using hb);have bc:CutsB cuts:=⟨fun q a6=>⟨Rz (bo q a6),hq q a6⟩⟩;have bu:∀o∈iZ x ds,o∈jT x:=fun o ho=>(List.mem_filter.1 ho).1
 generalize inM Y ds=L at *;generalize iZ x ds=K at *;have w:IntKind.i64.wrap ((L.length:Int)+(K.length:Int))=((L.length+K.length:Nat):Int):=by rw[bG (by omega)];omega
 simp only[go_sem,B.p,B.lin.row,List.length_mapIdx,Xaa,bq,w];refine aA (fun hb=>?_) (fun hb=>?_)
 ·rw[if_pos (by simp at hb;omega)];simp only[go_sem];refine aN B.r8 (by simp) ?_;simp only[go_sem];exact .refl _
 have bx:gQ x cuts ds<=64/\L.length+K.length<=8192:=by simp at hb;omega
 rw[if_neg (by omega)];have aw:(jT x).length<=gQ x cuts ds:=by unfold gQ;omega
 simp only[go_sem];refine⟨fun ρ H=>∃(k:Nat) (jc:Nat) (f:Nat->Nat),k<=L.length/\ρ 2=.sl (cuts.map eP)/\ρ 3=.sl (ds.map aO)/\ρ 4=.rp (aE x) 0/\ρ 8=.op i8 0 0/\ρ 11=.op i11 0 0/\ρ 12=.sl (K.map aQ)/\ρ 13=.fn 69 [.op i11 0 0]/\ρ 60=.sl (L.map bH)/\ρ 61=int (L.length:Nat)/\ρ 62=int k/\BldS H i8 i11 jc jr f (Bd x cuts ds (L.take k)).1 (Bd x cuts ds (L.take k)).2,fun ρ _=>L.length-aT (ρ 62),⟨0,ia,f,Xab _,by simp only[go_sem],by simp only[go_sem],by simp only[go_sem],by simp only[go_sem],by simp only[go_sem],by simp only[go_sem],by simp only[go_sem],by simp only[go_sem],by simp only[go_sem,Xaa],(by simp only[go_sem];rfl),B⟩,?_⟩;rintro ρ H ⟨k,jc,f,hk,e2,e3,T,O,E,ac,A,ab,af,ag,B⟩;simp only[go_sem,e2,e3,T,O,E,ac,A,ab,af,ag];refine aA (fun Z=>?_) (fun aa=>?_)
 ·have Z:=ltB (by simpa using Z);obtain⟨c,hc⟩:=aM Z;have b1:=inB Z;have a7:=bp c (Xac hc);have hz:=E8 x cuts ds L k (by omega);have az:=DE (x:=x) (cuts:=cuts) (ds:=ds) hc;generalize Bd x cuts ds (L.take k)=p at *;simp only[go_sem,e2,e3,T,O,E,ac,A,ab,af,ag,aC hc,b1];refine aJ fun ao ap=>?_
  simp only[go_sem,e2,e3,T,O,E,ac,A,ab,af,ag];refine aN (aB _ _ _) (by simp[eH]) ?_;have B1:=B.mono (At ap (some (⟨160,7,[[int 0,int 0,int 0,int 0,int 0,.sl [],.sl []]]⟩:Row)) (some (⟨160,7,[bH c]⟩:Row)));generalize hG:aI (aI H ao _) ao _=HG;replace B1:BldS HG i8 i11 jc jr f p.1 p.2:=by rw[<-hG];exact B1
  have a0:HG ao=some (⟨160,7,[bH c]⟩:Row):=by rw[<-hG,aB];rfl
  have a5:∀q row,H q=some row->q≠ao/\HG q=some row:=fun q row ak=>⟨(fun e=>by subst e;rw[ap]at ak;cases ak),(by rw[<-hG];exact At ap _ _ q row ak)⟩
  clear hG ap;simp only[go_sem,e2,e3,T,O,E,ac,A,ab,af,ag];refine gW [ao] [(0,true),(1,true),(2,true),(3,true),(4,true),(5,true),(6,true),(7,false),(8,false)] (by simp[a0]) (by kernel_rfl) fun Hp Hr hp bi _ bv=>?_
  have Pp:=(hp ao (by simp)).trans a0;simp only[go_sem,e2,e3,T,O,E,ac,A,ab,af,ag,Pp];refine aP (abQ x c cuts ds h ⟨by have:=Xb (bk c a7);omega,hs c a7⟩ bc) ?_;have B2:BldS Hr i8 i11 jc jr f p.1 p.2:=B.mono fun q row ak=>(bi q (by simpa using(a5 q row ak).1)).trans (a5 q row ak).2
  have av:=Bq x c cuts ds;generalize rR x c cuts ds=C at *;simp only[go_sem,e2,e3,T,O,E,ac,A,ab,af,ag];refine afA c.price C i11 jc jr f p.1 p.2 Hr _ B2.p B2.c B2.lin B2.fc (by rw[av,hz.2.1]) (by omega) (by rw[hz.1];omega) (fun r hr=>by rw[hz.2.2 r hr];omega) fun a jc' f' Hn S=>?_
  have B3:=B2.add S;simp only[go_sem,e2,e3,T,O,E,ac,A,ab,af,ag];refine dX fun hd Hm _ bj=>?_
  have B4:BldS Hm i8 i11 jc' jr f' (p.1++[c.price]) (nM p.2 C C.length):=B3.mono fun q row ak=>by
   have:q≠ao:=fun e=>by subst e;rw[hd q (by simp)]at ak;cases ak
   rw[bj q (by simpa using this)];exact ak
  simp only[go_sem,e2,e3,T,O,E,ac,A,ab,af,ag,aV k];refine⟨⟨k+1,jc',f',Z,rfl,?_⟩,by simp only[aF];omega⟩;rw[az];exact B4
 have aa:=geB hk (by simpa using aa);subst aa;rw[Xae]at B;have hz:=E8 x cuts ds L L.length (Xag _);rw[Xae]at hz;generalize Bd x cuts ds L=s1 at *;simp only[go_sem,e2,e3,T,O,E,ac,A,ab,af,ag];refine aP (Nz x h1) ?_;simp only[go_sem,e2,e3,T,O,E,ac,A,ab,af,ag];refine aP (jG _) ?_;rw[La x h1];simp only[go_sem,e2,e3,T,O,E,ac,A,ab,af,ag,Xaa];refine⟨fun ρ H=>∃(k:Nat) (jc:Nat) (f:Nat->Nat),k<=K.length/\ρ 4=.rp (aE x) 0/\ρ 8=.op i8 0 0/\ρ 11=.op i11 0 0/\ρ 13=.fn 69 [.op i11 0 0]/\ρ 16=.sl ((jT x).map aQ)/\ρ 79=.sl (K.map aQ)/\ρ 80=int (K.length:Nat)/\ρ 81=int k/\BldS H i8 i11 jc jr f (BB x (gQ x cuts ds) s1 (K.take k)).1 (BB x (gQ x cuts ds) s1 (K.take k)).2,fun ρ _=>K.length-aT (ρ 81),⟨0,jc,f,Xab _,by simp only[go_sem,T,O,E,A],by simp only[go_sem,T,O,E,A],by simp only[go_sem,T,O,E,A],by simp only[go_sem,T,O,E,A],by simp only[go_sem,T,O,E,A],by simp only[go_sem,T,O,E,A],by simp only[go_sem,Xaa,T,O,E,A],(by simp only[go_sem,T,O,E,A];rfl),B⟩,?_⟩;rintro ρ H ⟨k,jc,f,hk,T,O,E,A,J,F,I,M,B⟩;simp only[go_sem,T,O,E,A,J,F,I,M];refine aA (fun Z=>?_) (fun aa=>?_)
 ·have Z:=ltB (by simpa using Z);obtain⟨o,ho⟩:=aM Z;have b1:=inB Z;have aq:=Lt x aw hz K k (by omega);have az:=Dk (x:=x) (n:=gQ x cuts ds) (s0:=s1) ho;generalize BB x (gQ x cuts ds) s1 (K.take k)=p at *;simp only[go_sem,T,O,E,A,J,F,I,M,aC ho,b1,B.p,B.lin.row,List.length_mapIdx,aq.2.1];refine⟨by omega,aJ fun X a9=>?_⟩;have ba:aI H X (some (⟨3,1,List.replicate (gQ x cuts ds) [int 0]⟩:Row)) X=some (eL (kA x o (gQ x cuts ds) 0)):=by rw[aB];exact congrArg (fun l=>some (⟨3,1,l⟩:Row)) (by unfold kA;rw[List.take_zero,List.map_nil,Xbl,Nat.sub_zero,List.map_replicate];rfl)
  have B1:BldS (aI (aI H X (some (⟨3,1,List.replicate (gQ x cuts ds) [int 0]⟩:Row))) X none) i8 i11 jc jr f p.1 p.2:=by rw[XW _ _ _ a9];exact B
  generalize aI H X (some _)=HG at ba B1 |-;generalize br:gQ x cuts ds=N at *;clear a9;simp only[go_sem,T,O,E,A,J,F,I,M,Xaa];generalize k=k0 at *;refine⟨fun ρ H=>∃(k:Nat),k<=(jT x).length/\ρ 4=.rp (aE x) 0/\ρ 8=.op i8 0 0/\ρ 11=.op i11 0 0/\ρ 13=.fn 69 [.op i11 0 0]/\ρ 16=.sl ((jT x).map aQ)/\ρ 18=int o/\ρ 19=.os X/\ρ 79=.sl (K.map aQ)/\ρ 80=int (K.length:Nat)/\ρ 81=int (k0:Nat)/\ρ 89=.sl ((jT x).map aQ)/\ρ 90=int ((jT x).length:Nat)/\ρ 91=int k/\H X=some (eL (kA x o N k))/\BldS (aI H X none) i8 i11 jc jr f p.1 p.2,fun ρ _=>(jT x).length-aT (ρ 91),⟨0,Xab _,by simp only[go_sem,T,O,E,A,J,F,I,M],by simp only[go_sem,T,O,E,A,J,F,I,M],by simp only[go_sem,T,O,E,A,J,F,I,M],by simp only[go_sem,T,O,E,A,J,F,I,M],by simp only[go_sem,T,O,E,A,J,F,I,M],by simp only[go_sem,T,O,E,A,J,F,I,M],by simp only[go_sem,T,O,E,A,J,F,I,M],by simp only[go_sem,T,O,E,A,J,F,I,M],by simp only[go_sem,T,O,E,A,J,F,I,M],by simp only[go_sem,T,O,E,A,J,F,I,M],by simp only[go_sem,T,O,E,A,J,F,I,M],by simp only[go_sem,Xaa,T,O,E,A,J,F,I,M],(by simp only[go_sem,T,O,E,A,J,F,I,M];rfl),ba,B1⟩,?_⟩;rintro ρ H ⟨k,hk,T,O,E,A,J,am,ah,F,I,M,ai,aj,al,R,B⟩;simp only[go_sem,T,O,E,A,J,am,ah,F,I,M,ai,aj,al];refine aA (fun Z=>?_) (fun aa=>?_)
  ·have Z:=ltB (by simpa using Z);obtain⟨i,hi⟩:=aM Z;have b2:=inB Z;have bt:=OX (x:=x) (o:=o) hk aw;simp only[go_sem,T,O,E,A,J,am,ah,F,I,M,ai,aj,al,aC hi,b2];refine aP (S5 _) ?_;simp only[go_sem,T,O,E,A,J,am,ah,F,I,M,ai,aj,al,R,Xaa];have au:((kA x o N k).map aQ).set k (lV (((kA x o N k).map aQ).getD k []) 0 [int (xX (i == o))])=(kA x o N (k+1)).map aQ:=by obtain⟨v,hv⟩:=aM (l:=kA x o N k) (k:=k) (by omega);rw[aC hv,Oj hi (by omega),List.map_set];rfl
   refine⟨by omega,bU so3 R ⟨by rw[Xaa];omega,rfl,by simp⟩ ?_⟩;have R2:aI H X (some (⟨3,1,((kA x o N k).map aQ).set k (lV (((kA x o N k).map aQ).getD k []) 0 [int (xX (i == o))])⟩:Row)) X=some (eL (kA x o N (k+1))):=by rw[aB,au]
   have B2:BldS (aI (aI H X (some (⟨3,1,((kA x o N k).map aQ).set k (lV (((kA x o N k).map aQ).getD k []) 0 [int (xX (i == o))])⟩:Row))) X none) i8 i11 jc jr f p.1 p.2:=by rw[acV];exact B
   simp only[go_sem,T,O,E,A,J,am,ah,F,I,M,ai,aj,al,aV k];exact⟨⟨k+1,Z,rfl,(aB _ _ _).symm.trans R2,B2⟩,by simp only[aF];omega⟩
  have aa:=geB hk (by simpa using aa);subst aa;have bb:kA x o N (jT x).length=mP x o N:=by unfold kA mP;rw[Xae]
  rw[bb]at R;have av:=zJ x o aw;generalize mP x o N=C at *;simp only[go_sem,T,O,E,A,J,am,ah,F,I,M,ai,aj,al];refine aP (DY x o) ?_;have bg:(gV (cE x o).1).1=tH x o:=rfl;generalize cE x o=U at *;obtain⟨U,eU⟩:=U;simp only[go_sem,T,O,E,A,J,am,ah,F,I,M,ai,aj,al];refine aJ fun ae ay=>?_
  simp only[go_sem,T,O,E,A,J,am,ah,F,I,M,ai,aj,al];refine aN (aB _ _ _) (by simp[cC]) ?_;have an:X≠ae:=aR R ay;have a4:∀a b:Option Row,aI (aI (aI H ae a) ae b) X none=aI (aI (aI H X none) ae a) ae b:=by
   intro a b;funext q;simp only[aI];by_cases e1:q=X
   ·subst e1;rw[if_pos rfl,if_neg an,if_neg an,if_pos rfl]
   ·rw[if_neg e1,if_neg e1]
  have ar:aI H X none ae=none:=by rw[aD _ _ _ _ an.symm];exact ay
  have B1:BldS (aI (aI (aI H ae (some (⟨83,4,[[int 0,int 0,int 0,int 0]]⟩:Row))) ae (some (⟨83,4,[bD U]⟩:Row))) X none) i8 i11 jc jr f p.1 p.2:=by rw[a4];exact B.mono (At ar _ _)
  generalize hG:aI (aI H ae _) ae _=HG;have R1:HG X=some (eL C):=by rw[<-hG,aD _ _ _ _ an,aD _ _ _ _ an];exact R
  replace B1:BldS (aI HG X none) i8 i11 jc jr f p.1 p.2:=by rw[<-hG];exact B1
  have bm:HG ae=some (⟨83,4,[bD U]⟩:Row):=by rw[<-hG,aB];rfl
  clear hG ay ar a4;simp only[go_sem,T,O,E,A,J,am,ah,F,I,M,ai,aj,al,bm];refine aP (Ah U) ?_;rw[bg];simp only[go_sem,T,O,E,A,J,am,ah,F,I,M,ai,aj,al];refine bF.frz [X] (args':=[int (tH x o),.sl (C.map aQ),.op i11 0 0]) (.cons _ _ _ _ (.refl _) (.cons _ _ _ _ (.row _ _ _ (by simp;exact R1) (ConvE.refl _)) (.cons _ _ _ _ (.refl _) .nil))) ?_;rw[show(fun q=>if q∈[X]then none else HG q)=aI HG X none from funext fun q=>by simp only[aI,Xbg]];refine afA (tH x o) C i11 jc jr f p.1 p.2 _ _ B1.p B1.c B1.lin B1.fc (by rw[av,aq.2.1]) (by omega) (by rw[aq.1];omega) (fun r hr=>by rw[aq.2.2 r hr];omega) fun a jc' f' Hn S=>?_
  have B3:=B1.add S;simp only[go_sem,T,O,E,A,J,am,ah,F,I,M,ai,aj,al,aV k0];refine⟨⟨k0+1,jc',f',by omega,rfl,?_⟩,by simp only[aF];omega⟩;rw[az];exact B3
 have aa:=geB hk (by simpa using aa);subst aa;rw[Xae]at B;generalize BB x (gQ x cuts ds) s1 K=s2 at *;simp only[go_sem,T,O,E,A,B.p];refine aN B.r8 (by simp) ?_;have be:jc≠i8:=fun e=>by have h1:=B.r8;rw[<-e,B.c]at h1;have h2:(eL s2.1).e=Hs.e:=congrArg Row.e (Option.some.inj h1);exact absurd (show(3:Nat)=111 from h2) (by decide)
 have bf:jr≠i8:=fun e=>by have h1:=B.r8;rw[<-e,B.lin.row]at h1;have h2:(wN f s2.2).e=Hs.e:=congrArg Row.e (Option.some.inj h1);exact absurd (show(157:Nat)=111 from h2) (by decide)
 have bn:∀(i:Nat) (r:PRow),s2.2[i]?=some r->f i≠i8:=fun i r hr e=>by have h1:=B.r8;rw[<-e,B.lin.coef i r hr]at h1;have h2:(eL r.coef).e=Hs.e:=congrArg Row.e (Option.some.inj h1);exact absurd (show(3:Nat)=111 from h2) (by decide)
 simp only[go_sem,T,O,E,A];refine .tup _ _ (.cons _ _ _ _ (.agg _ _ (.cons _ _ _ _ (.row _ _ _ (by rw[aD _ _ _ _ be];exact B.c) (ConvE.refl _)) (.cons _ _ _ _ (.row _ _ _ (by rw[aD _ _ _ _ bf];exact B.lin.row) (VE f s2.2 fun i r hr=>(aD _ _ _ _ (bn i r hr)).trans (B.lin.coef i r hr))) .nil))) (.cons _ _ _ _ (.refl _) .nil))
end Nu
namespace Nu
open Go.Nu
open Dec (jH dC cL kS)
def is0(s:ByteArray):Bool:=bl s == [48]
def is1(s:ByteArray):Bool:=bl s == [49]
def Sj(s:ByteArray):Bool:= !is0 s&& !is1 s
def Br(rows:List PRow):Prop:=∀r∈rows,(∀n∈r.coef,n=0\/n=1)/\nE r.right
def NJ{rows:List PRow}{A:List Int}(h:Br rows)(T:∀n∈A,n=0\/n=1):Br (nM rows A A.length):=by
 intro r O;obtain⟨i,F,rfl⟩:=List.getElem_of_mem O;have I:=List.getElem?_eq_getElem F;rw[uK]at I;rw[kL]at F;have M:=h _ (List.getElem_mem F);by_cases E:i<A.length
 ·rw[if_pos E,List.getElem?_eq_getElem F]at I;have e:(nM rows A A.length)[i]'(by rw[kL];exact F)=zR (rows[i]) (A.getD i 0):=(Option.some.inj I).symm;rw[e];unfold zR;refine⟨fun n J=>?_,M.2⟩;rcases Xat.1 J with J|J
  ·exact M.1 n J
  ·have U:n=A.getD i 0:=by simpa using J
   rw[U,List.getD,List.getElem?_eq_getElem E];exact T _ (List.getElem_mem E)
 ·rw[if_neg E,List.getElem?_eq_getElem F]at I;have e:(nM rows A A.length)[i]'(by rw[kL];exact F)=rows[i]:=(Option.some.inj I).symm;rw[e];exact M
structure RightB(x:Instance)(cuts:List Cut)(ds:List Decision):Prop where
 types:∀t∈x.types,nE t.count
 cuts:∀q∈cuts,nE q.n
 ds:∀d∈ds,nE d.n
def Z8{x:Instance}{cuts:List Cut}{ds:List Decision}(h:RightB x cuts ds):Br (lW x cuts ds):=by
 intro r A;have h1:nE 1:=by unfold nE;omega
 unfold lW AJ sO sU qD at A;simp only[Xat,Xay,List.mem_filterMap]at A;rcases A with((A|⟨t,I,rfl⟩)|⟨q,J,rfl⟩)|⟨d,F,A⟩
 ·rw[List.eq_of_mem_replicate A];exact⟨fun n E=>(by cases E),h1⟩
 ·exact⟨fun n E=>(by cases E),h.types t I⟩
 ·refine⟨fun n E=>(by cases E),?_⟩;show nE (GM q).2;unfold GM;split
  ·exact h1
  ·split
   ·exact h.cuts q J
   ·unfold nE;omega
 ·unfold Hv at A;split at A
  ·cases A;exact⟨fun n E=>(by cases E),h.ds d F⟩
  ·split at A
   ·cases A;exact⟨fun n E=>(by cases E),h.ds d F⟩
   ·cases A
def T1{x:Instance}{cuts:List Cut}{ds:List Decision}(h:RightB x cuts ds)(l:List Column):∀k,k<=l.length->Br (Bd x cuts ds (l.take k)).2
 | 0,_=>Z8 h
 | k+1,hk=>by obtain⟨c,A⟩:=aM (show k<l.length by omega);rw[DE A];exact NJ (T1 h l k (by omega)) fun n E=>Vm E
def PO{x:Instance}{o:Int}{n:Nat}{m:Int}(h:m∈mP x o n):m=0\/m=1:=by
 unfold mP at h;rcases Xat.1 h with h|h
 ·obtain⟨i,_,rfl⟩:=Xay.1 h;exact E6 _
 ·exact .inl (List.eq_of_mem_replicate h)
def TO{x:Instance}{n:Nat}{s0:List Int×List PRow}(h:Br s0.2)(l:List Int):∀k,k<=l.length->Br (BB x n s0 (l.take k)).2
 | 0,_=>h
 | k+1,hk=>by obtain⟨c,A⟩:=aM (show k<l.length by omega);rw[Dk A];exact NJ (TO h l k (by omega)) fun n E=>PO E
def OR{x:Instance}{d:Nat}{A:List Column}{cuts:List Cut}{ds:List Decision}(h:(iE x d A cuts ds).2=0)(O:RightB x cuts ds):
  Ac x d A cuts ds=0/\(iE x d A cuts ds).1.cost.length=(inM A ds).length+(iZ x ds).length/\(inM A ds).length+(iZ x ds).length<=8192/\(iE x d A cuts ds).1.rows.length=gQ x cuts ds/\gQ x cuts ds<=64 /\
   (∀r∈(iE x d A cuts ds).1.rows,r.coef.length=(inM A ds).length+(iZ x ds).length)/\Br (iE x d A cuts ds).1.rows:=by
 unfold iE at h |-;split at h
 ·next h1=>exact absurd h h1
 next h1=>
 split at h
 ·cases h
 next T=>
 rw[if_neg h1,if_neg T];have M:=E8 x cuts ds (inM A ds) _ (Xag _);have F:=T1 O (inM A ds) _ (Xag _);rw[Xae]at M F;have J:(jT x).length<=gQ x cuts ds:=by unfold gQ;omega
 have I:=Lt x J M (iZ x ds) _ (Xag _);have E:=TO (x:=x) (n:=gQ x cuts ds) F (iZ x ds) _ (Xag _);rw[Xae]at I E;exact⟨by simpa using h1,I.1,by omega,I.2.1,by omega,I.2.2,E⟩
def UR{x:Instance}{d:Nat}{A:List Column}{cuts:List Cut}{ds:List Decision}(h:(iE x d A cuts ds).2=0)(E:RightB x cuts ds):LinB (iE x d A cuts ds).1:=by obtain⟨_,h1,O,M,J,_,F⟩:=OR h E;exact⟨by omega,by omega,fun r E n I=>by rcases(F r E).1 n I with e|e <;> unfold nE <;> omega,fun r E=>(F r E).2⟩
end Nu
namespace Nu.Ps
open Go.Nu Go.So
open Dec (jH dC cL kS)
open Sq (EvalB BestQ qS pK lP afG)
structure PrOk(x:Instance)(d:Nat):Prop where
 ev:EvalB x
 n8:x.orders.length<=8
 ty:x.types.length<=1000
 lo:LoadsOk x d
 ne:x.types≠[]
end Nu.Ps
namespace Nu.Ps
open Go.Nu Go.So
open Dec (jH dC cL kS)
open Sq (EvalB BestQ qS pK lP gO)
def ZQ(x:Instance)(r:Route): -9223372036854775808<=(gO x r).1/\(gO x r).1<=9223372036854775807:=by
 unfold gO;split
 ·show -9223372036854775808<=(0:Int)/\(0:Int)<=9223372036854775807;omega
 ·unfold Sq.gV;split
  ·exact⟨by decide,by decide⟩
  ·split
   ·exact⟨by decide,by decide⟩
   ·exact Rx.zE _
structure ColQ(x:Instance)(c:Column):Prop where
 b:ColB c
 price: -9223372036854775808<=c.price/\c.price<=9223372036854775807
def T0{x:Instance}{c:Column}(A:x.orders.length<=8)(h:c∈qS x):ColQ x c:=by
 obtain⟨k,s,h⟩:=pK A h;obtain⟨l,E,_,_,_⟩:=h.is;have h1:=h.pos;have I:=h.top;have F:(2:Int)^x.orders.length<=256:=by
  have:2^x.orders.length<=256:=Xai (Xau (by decide) A) (by decide)
  exact_mod_cast this
 rw[E];exact⟨⟨by show 0<=(s:Int)/\(s:Int)<=9223372036854775807;omega⟩,ZQ _ _⟩
end Nu.Ps
namespace Nu
open Go.Nu
open Dec (jH dC cL kS)
end Nu
namespace Nu
open Go.Nu
open Dec (jH cL kS)
def lH(r:PRow)(l:List (Int×List Int))(i:Nat):PRow:=⟨r.coef++l.map fun c=>c.2.getD i 0,r.kind,r.right⟩
def sJ(p:List Int×List PRow)(l:List (Int×List Int)):List Int×List PRow:=l.foldl (fun s c=>iO s c.1 c.2) p
def yR:∀(l:List (Int×List Int)) (p:List Int×List PRow),(sJ p l).1=p.1++l.map (·.1)
 | [],p=>by simp[sJ]
 | c::l,p=>by show(sJ (iO p c.1 c.2) l).1=_;rw[yR l];unfold iO;simp
def A5:∀(l:List (Int×List Int)) (p:List Int×List PRow),(∀c∈l,c.2.length=p.2.length)->∀i r,p.2[i]?=some r->(sJ p l).2[i]?=some (lH r l i)
 | [],p,_,i,r,h=>by show p.2[i]?=_;rw[h];unfold lH;simp
 | c::l,p,hl,i,r,h=>by
  show(sJ (iO p c.1 c.2) l).2[i]?=_;have E:=(List.getElem?_eq_some_iff.1 h).1;have F:(iO p c.1 c.2).2[i]?=some (zR r (c.2.getD i 0)):=by unfold iO;rw[uK,if_pos (by rw[hl c (by simp)];exact E),h];rfl
  rw[A5 l _ (fun d A=>by rw[(tN p c.1 c.2).1];exact hl d (by simp[A])) i _ F];unfold lH zR;simp
def GK:∀(l:List (Int×List Int)) (p:List Int×List PRow),(sJ p l).2.length=p.2.length
 | [],p=>rfl
 | c::l,p=>by show(sJ (iO p c.1 c.2) l).2.length=_;rw[GK l,(tN p c.1 c.2).1]
def ajJ(x:Instance)(cuts:List Cut)(ds:List Decision)(c:Column):Int×List Int:=(c.price,rR x c cuts ds)
def ajK(x:Instance)(n:Nat)(o:Int):Int×List Int:=(tH x o,mP x o n)
def Y4(x:Instance)(cuts:List Cut)(ds:List Decision)(l:List Column):Bd x cuts ds l=sJ ([],lW x cuts ds) (l.map (ajJ x cuts ds)):=by unfold Bd sJ;rw[List.foldl_map];rfl
def W6(x:Instance)(n:Nat)(s0:List Int×List PRow)(l:List Int):BB x n s0 l=sJ s0 (l.map (ajK x n)):=by unfold BB sJ;rw[List.foldl_map];rfl
def aiA(x:Instance)(cuts:List Cut)(ds:List Decision)(L:List Column)(K:List Int)(i:Nat):List Int:=L.map (fun c=>(rR x c cuts ds).getD i 0)++K.map fun o=>(mP x o (gQ x cuts ds)).getD i 0
def PH{x:Instance}{d:Nat}{A:List Column}{cuts:List Cut}{ds:List Decision}(h:(iE x d A cuts ds).2=0):
  (iE x d A cuts ds).1.cost=(inM A ds).map (·.price)++(iZ x ds).map (tH x) /\
  ∀(i:Nat) (r:PRow),(lW x cuts ds)[i]?=some r->(iE x d A cuts ds).1.rows[i]?=some (⟨aiA x cuts ds (inM A ds) (iZ x ds) i,r.kind,r.right⟩:PRow):=by
 have F:(jT x).length<=gQ x cuts ds:=by unfold gQ;omega
 unfold iE at h |-;split at h
 ·next h1=>exact absurd h h1
 next h1=>
 split at h
 ·cases h
 next M=>
 rw[if_neg h1,if_neg M];show(BB x (gQ x cuts ds) (Bd x cuts ds (inM A ds)) (iZ x ds)).1=_/\∀(i:Nat) (r:PRow),(lW x cuts ds)[i]?=some r->(BB x (gQ x cuts ds) (Bd x cuts ds (inM A ds)) (iZ x ds)).2[i]?=some (⟨aiA x cuts ds (inM A ds) (iZ x ds) i,r.kind,r.right⟩:PRow);generalize inM A ds=L;generalize iZ x ds=K;rw[Y4,W6];refine⟨?_,fun i r I=>?_⟩
 ·rw[yR,yR,Xbl,List.map_map,List.map_map];rfl
 ·have E:r.coef=[]:=List.eq_nil_of_length_eq_zero ((OO x cuts ds).2.2 r (Xac I));have J:=A5 (L.map (ajJ x cuts ds)) ([],lW x cuts ds) (fun c E=>by obtain⟨a,_,rfl⟩:=Xay.1 E;show(rR x a cuts ds).length=(lW x cuts ds).length;rw[Bq,Ay]) i r I;rw[A5 (K.map (ajK x (gQ x cuts ds))) _ (fun c E=>by obtain⟨a,_,rfl⟩:=Xay.1 E;show(mP x a (gQ x cuts ds)).length=_;rw[zJ x a F,GK];exact(Ay x cuts ds).symm) i _ J];unfold lH aiA;rw[E,Xbl,List.map_map,List.map_map];rfl
end Nu
namespace Nu
open Go.Proofs.Tryz
open Go.Nu
open Dec (jH dC cL kS)
open Sq (EvalB BestQ qS pK lP gO)
open Ps (PrOk)
def lU(x:Instance)(b:Bool):Row:=⟨72,9,[[.sl (x.net.places.map Go.Aw.D.dL),.sl (x.net.arcs.map eA),.sl (x.types.map aZ),.sl (x.orders.map aW),.sl (x.apart.map cN),.sl (x.before.map cN),.sl (if b=true then(qS x).map bH else[]),int 0,boo b]]⟩
def ajY(x:Instance){d:Nat}(h:PrOk x d)(b:Bool){j:Nat}{H:aH}{K:AV->aH->Prop}(E:H j=some (lU x b))(M:∀H',H' j=some (lU x true)->(∀k r,k≠j->H k=some r->H' k=some r)->K (.tup [.sl ((qS x).map bH),int 0]) H'):bF prog 42 [.op j 0 0] H K:=by
 have T:=Sq.NC.pc2 (Sq.afG x h.ev h.n8 h.ty);refine bF.body (c:=f42.body.getD .skip) (fun _=>false) mixed func42 rfl (by kernel_rfl) ?_;unfold f42;simp only[Xbh];simp only[go_sem];simp only[go_sem,E,lU];refine aA (fun A=>?_) (fun A=>?_)
 ·have A:b=false:=by simpa using A
  subst A;simp only[go_sem,E,lU];refine aP (args:=[.agg (aE x)]) T ?_;simp only[go_sem];refine bU ⟨_,rfl,rfl⟩ E (by simp[lU]) ?_;simp only[go_sem];refine bU ⟨_,rfl,rfl⟩ (aB _ _ _) (by simp[lU]) ?_;simp only[go_sem];refine bU ⟨_,rfl,rfl⟩ (aB _ _ _) (by simp[lU]) ?_;generalize I:aI _ j _=G;have R:G j=some (lU x true):=by rw[<-I,aB];rfl
  have O:∀k r,k≠j->H k=some r->G k=some r:=fun k r J F=>by rw[<-I,aD _ _ _ _ J,aD _ _ _ _ J,aD _ _ _ _ J];exact F
  clear I;simp only[go_sem];refine dF (by rfl) (by kernel_rfl) ?_;simp only[go_sem,R,lU];exact M _ R O
 ·have A:b=true:=by simpa using A
  subst A;simp only[go_sem];refine dF (by rfl) (by kernel_rfl) ?_;simp only[go_sem,E,lU];exact M _ E fun k r _ F=>F
def afD(s:ByteArray)(n:Int):Bool:=(zW s).2 == 0&&decide (L8 (zW s).1 (zed n)>=0)
def XD(p:PLin)(n:TNode)(price:Int):Int:=
 if(n.kind == 2)=true then(if(!Gk p n.dual)=true then 26 else 0)
 else if(!(tD p n.dual).2|| !afD (tD p n.dual).1 price)=true then 26 else 0
def MP(x:Instance)(d:Nat)(ds:List Decision)(n:TNode)(price:Int):Int:=
 if(!n.leaf||(n.kind != 1&&n.kind != 2))=true then 28
 else if(jH x ds != 0)=true then jH x ds
 else if n.cuts.length>24 then 27
 else if(n.cuts.any fun k=>oI x d k != 0)=true then 27
 else if((iE x d (qS x) n.cuts ds).2 != 0)=true then(iE x d (qS x) n.cuts ds).2
 else XD (iE x d (qS x) n.cuts ds).1 n price
def V2(a b:ByteArray):(Hz a b).1.size<=1048576:=by
 unfold Hz szZ;split
 ·split
  ·next h=>exact Xai (gS h) (by decide)
  ·exact Xab _
 ·exact Xab _
def U3(s:ByteArray)(h:s.size<=1048576):(zW s).1.size<=1048576:=by
 obtain⟨_,_,A⟩:=Er s h;unfold zW;split
 ·exact Xab _
 ·split
  ·exact A
  ·exact V2 _ _
structure LeafB(x:Instance)(n:TNode)(ds:List Decision)(price:Int):Prop where
 types:∀t∈x.types,nE t.count
 cuts:∀q∈n.cuts,nE q.n/\q.set<=9223372036854775807
 dsn:∀d∈ds,nE d.n
 dl:ds.length<=1048576
 cl:n.cuts.length<=1048576
 dual:VarB n.dual
 price:nE price
def UG(s:Score):nE (gV s).1:=by
 unfold gV nE;split
 ·decide
 ·split
  ·decide
  ·exact Rx.zE _
def Qt{x:Instance}{d:Nat}{A:List Column}{cuts:List Cut}{ds:List Decision}(F:∀c∈A,nE c.price)(h:(iE x d A cuts ds).2=0)(i:Nat):nE ((iE x d A cuts ds).1.cost.getD i 0):=by
 rw[(PH h).1,List.getD];cases e:((inM A ds).map (·.price)++(iZ x ds).map (tH x))[i]? with
 | none=>exact⟨by decide,by decide⟩
 | some n=>
  rcases Xat.1 (Xac e)with hm|hm <;> obtain⟨c,E,rfl⟩:=Xay.1 hm
  ·exact F c (List.mem_filter.1 E).1
  ·exact UG _
def aiN(x:Instance){d:Nat}(h:PrOk x d)(b:Bool)(ds:List Decision)(n:TNode)(price:Int)(U:LeafB x n ds price){j:Nat}{H:aH}{K:AV->aH->Prop}(hj:H j=some (lU x b))(J:∀H' b',H' j=some (lU x b')->K (int (MP x d ds n price)) H'):bF prog 20 [.op j 0 0,.sl (ds.map aO),.agg (bO n),int price] H K:=by
 have hM:MIn x n.cuts ds:=⟨Xai h.n8 (by decide),Xai h.ty (by decide),U.cl,U.dl⟩;have an:(qS x).length<=1048576:=by have h8:2^x.orders.length<=256:=Xai (Xau (by decide) h.n8) (by decide);exact Xai (Sq.C7 x _) (Xai (Nat.mul_le_mul h.ty h8) (by decide))
 have hB:=abF x d (qS x) n.cuts ds h.lo h.ne hM an (fun c hc=>(Ps.T0 h.n8 hc).b.1.2) (fun q Y=>(U.cuts q Y).2);have hL:(iE x d (qS x) n.cuts ds).2=0->LinW (iE x d (qS x) n.cuts ds).1:=fun e=>⟨UR e ⟨U.types,fun q Y=>(U.cuts q Y).1,U.dsn⟩,fun r hr=>by obtain⟨_,h1,_,_,_,h5,_⟩:=OR e ⟨U.types,fun q Y=>(U.cuts q Y).1,U.dsn⟩;rw[h5 r hr,h1],fun i _=>Qt (fun c hc=>(Ps.T0 h.n8 hc).price) e i⟩
 obtain⟨L,hC⟩:∃L,L=MP x d ds n price:=⟨_,rfl⟩;rw[<-hC]at J;unfold MP at hC;refine bF.body (c:=f20.body.getD .skip) (fun _=>false) mixed func20 rfl (by kernel_rfl) ?_;unfold f20;simp only[Xbh];simp only[go_sem];refine aA (fun F=>?_) (fun F=>?_)
 ·rw[if_pos F]at hC;simp only[go_sem];rw[hC]at J;exact J _ _ hj
 rw[if_neg (by rw[F];simp)]at hC;simp only[go_sem,hj,lU];refine aP (args:=[.agg (aE x),.sl (ds.map aO)]) (Dec.X8 x ds U.dl) ?_;simp only[go_sem];refine aA (fun F=>?_) (fun F=>?_)
 ·rw[if_pos F]at hC;simp only[go_sem];rw[hC]at J;exact J _ _ hj
 rw[if_neg (by rw[F];simp)]at hC;simp only[go_sem,Xaa];refine aA (fun F=>?_) (fun F=>?_)
 ·rw[if_pos (by simp at F;omega)]at hC;simp only[go_sem];rw[hC]at J;exact J _ _ hj
 rw[if_neg (by simp at F;omega)]at hC;simp only[go_sem,Xaa];refine⟨fun ρ H=>∃(k:Nat),k<=n.cuts.length/\ρ 0=.op j 0 0/\ρ 1=.sl (ds.map aO)/\ρ 3=int price/\ρ 6=.rp (bO n) 0/\ρ 44=.sl (n.cuts.map eP)/\ρ 45=int (n.cuts.length:Nat)/\ρ 46=int k/\H j=some (lU x b)/\(∀q∈n.cuts.take k,oI x d q=0),fun ρ _=>n.cuts.length-aT (ρ 46),⟨0,Xab _,by simp only[go_sem],by simp only[go_sem],by simp only[go_sem],by simp only[go_sem],by simp only[go_sem],by simp only[go_sem,Xaa],(by simp only[go_sem];rfl),hj,by simp⟩,?_⟩;rintro ρ H ⟨k,hk,X,T,O,M,E,I,A,R,hz⟩;simp only[go_sem,X,T,O,M,E,I,A];refine aA (fun Z=>?_) (fun ae=>?_)
 ·have Z:=ltB (by simpa using Z);obtain⟨q,Y⟩:=aM Z;have b1:=inB Z;simp only[go_sem,X,T,O,M,E,I,A,aC Y,b1,Xaa];refine aJ fun i11 ab=>?_
  simp only[go_sem,X,T,O,M,E,I,A,R];refine bP ab (by simp[sK]) fun ag (aj:ag i11=some (⟨105,3,[eP q]⟩)) N=>?_
  replace R:=N R;obtain⟨ah,R⟩:=R;clear N ab;simp only[go_sem,X,T,O,M,E,I,A,aj,R];refine dF (by rfl) (by kernel_rfl) ?_;simp only[go_sem,X,T,O,M,E,I,A,R,aj,lU];refine⟨_,(NR x d q h.lo h.ne).q rfl,?_⟩;simp only[go_sem];refine aA (fun af=>?_) (fun af=>?_)
  ·rw[if_pos (Xao.2 ⟨q,Xac Y,af⟩)]at hC;simp only[go_sem];rw[hC]at J;exact J _ _ R
  simp only[go_sem,X,T,O,M,E,I,A,mX (show k<=4611686018427387904 by have:=U.cl;omega)];refine⟨⟨k+1,Z,rfl,R,?_⟩,by simp only[aF];omega⟩;exact fG (p:=fun q=>oI x d q=0) Y (by simpa using af) hz
 have ae:=geB hk (by simpa using ae);subst ae;rw[Xae]at hz;rw[if_neg (by simp only[Xao,not_exists,not_and];intro q Y;simp[hz q Y])]at hC;simp only[go_sem,X,T,O,M,E,I,A];refine ajY x h b R fun H2 R2 am=>?_
 simp only[go_sem];refine aA (fun F=>by cases F) (fun F=>?_);simp only[go_sem,X,T,O,M,E,I,A];generalize ap:iE x d (qS x) n.cuts ds=p at *;have hB:PC prog 43 [.agg (List.take 6 ((lU x true).es.getD 0 [])),.sl ((qS x).map bH),.sl (n.cuts.map eP),.sl (ds.map aO)] (.tup [.agg (iG p.1),int p.2]):=hB;refine lL [j] (.q 0 (.q 1 (.q 2 (.q 3 (.q 4 (.q 5 (.q 6 (.q 7 (.a2 8 (.q 9 (.q 10 (.q 11 (.a1 12 (.a1 13 (.q 14 .nil)))))) 12 (.a1 8 (.q 9 (.q 10 (.q 11 (.a1 13 (.q 14 .nil))))))))))))))) (fun ac H'=>ac 3=int price/\ac 6=.rp (bO n) 0/\ac 13=int p.2/\∃i,ac 14=.op i 0 0/\H' i=some ⟨111,2,[iG p.1]⟩/\H' j=some (lU x true)) (by simp[R2]) (by kernel_rfl) (fun K' ai Hp Hr hp hr _ ao=>?_) ?_
 ·have aa:=(hp j (by simp)).trans R2;simp only[go_sem,X,T,O,M,E,I,A,aa];refine⟨⟨by simp[lU],by simp[lU]⟩,jN ?_ ?_⟩
  ·simp only[go_sem,X,T,O,M,E,I,A,aa];refine aP hB ?_;simp only[go_sem];refine aJ fun i h0=>?_
   simp only[go_sem];refine aN (aB _ _ _) (by simp[zC]) ?_;simp only[go_sem];refine oS hr h0 fun h1=>ai _ _ ⟨by simp only[go_sem,X,T,O,M,E,I,A],by simp only[go_sem,X,T,O,M,E,I,A],by simp only[go_sem],i,by simp only[go_sem],(aB _ _ _).trans rfl,?_⟩
   rw[aD _ _ _ _ (aR R2 h1),aD _ _ _ _ (aR R2 h1)];exact R2
  ·simp only[go_sem,X,T,O,M,E,I,A,aa];refine aJ fun i h0=>?_
   simp only[go_sem];refine aP hB ?_;simp only[go_sem];refine aN (aB _ _ _) (by simp[zC]) ?_;simp only[go_sem];refine oS hr h0 fun h1=>ai _ _ ⟨by simp only[go_sem,X,T,O,M,E,I,A],by simp only[go_sem,X,T,O,M,E,I,A],by simp only[go_sem],i,by simp only[go_sem],(aB _ _ _).trans rfl,?_⟩
   rw[aD _ _ _ _ (aR R2 h1),aD _ _ _ _ (aR R2 h1)];exact R2
 clear R R2 am;rintro ρ H ⟨O,M,al,i,ak,Ri,R⟩;simp only[go_sem,al];refine aA (fun F=>?_) (fun F=>?_)
 ·rw[if_pos F]at hC;simp only[go_sem,al];rw[hC]at J;exact J _ _ R
 rw[if_neg (by rw[F];simp)]at hC;have h0:p.2=0:=by simpa using F
 unfold XD at hC;simp only[go_sem,M];refine aA (fun F=>?_) (fun F=>?_)
 ·rw[if_pos F]at hC;simp only[go_sem,M,ak,Ri];refine aP (Vb p.1 n.dual (hL h0) U.dual) ?_;simp only[go_sem];refine aA (fun F=>?_) (fun F=>?_)
  ·rw[if_pos F]at hC;simp only[go_sem];rw[hC]at J;exact J _ _ R
  ·rw[if_neg (by rw[F];simp)]at hC;simp only[go_sem];rw[hC]at J;exact J _ _ R
 rw[if_neg (by rw[F];simp)]at hC;simp only[go_sem,M,ak,O,Ri];refine aP (ZA p.1 n.dual (hL h0) U.dual) ?_;simp only[go_sem,O];have hs:(tD p.1 n.dual).1.size<=1048576:=by
  unfold tD;split
  ·decide
  ·split
   ·exact Xai zO (by decide)
   ·decide
 unfold afD at hC;refine⟨_,fun _=>(aiF (tD p.1 n.dual).1 price hs U.price.1 U.price.2 (U3 _ hs)).q rfl,?_⟩;simp only[go_sem];refine aA (fun F=>?_) (fun F=>?_)
 ·rw[if_pos F]at hC;simp only[go_sem];rw[hC]at J;exact J _ _ R
 ·rw[if_neg (fun h=>Bool.noConfusion (F.symm.trans h))]at hC;simp only[go_sem];rw[hC]at J;exact J _ _ R
end Nu
end Go.Proofs.YtgncgpcpbadfnaaGreatDoor
