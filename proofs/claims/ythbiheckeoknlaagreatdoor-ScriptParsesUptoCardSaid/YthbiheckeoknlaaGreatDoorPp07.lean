import Derived.Test.YthbiheckeoknlaaGreatDoorRows
import Derived.Carry
import Derived.OpenShut
import Derived.JoinedCond
import Derived.WalkKit
import Derived.ProofKit
import Derived.WideKeyArgs
import Derived.Test.YthbiheckeoknlaaGreatDoorPp04
set_option linter.unusedSimpArgs false
set_option linter.unusedVariables false
set_option linter.defProp false
set_option maxRecDepth 100000
section
namespace Go.Proofs.YthbiheckeoknlaaGreatDoor
open Go.Proofs.Tryz
open Go.Aw Go.Aw.D Go.Proofs Ty
def inR(n lo hi:Int):Bool:=decide (n≥lo)&&decide (n≤hi)
theorem kH(n lo hi:Int):PC prog 155 [int n,int lo,int hi] (boo (inR n lo hi)):=by refine pcd func155 rfl rfl ?_;simp only[go_sem];exact .refl _
theorem Bb(n lo hi:Int):PC prog 210 [int n,int lo,int hi] (boo (inR n lo hi)):=by refine pcd func210 rfl rfl ?_;simp only[go_sem];exact .refl _
theorem NJ(n:Int):PC prog 206 [int n] (boo (inR n 0 4096)):=by refine pcd func206 rfl rfl ?_;simp only[go_sem];exact .refl _
def fG(c:Int):Bool:=decide (c≥48)&&decide (c≤57)
theorem oG(c:Int):PC prog 159 [.v (.int .u8 c)] (boo (fG c)):=by refine pcd func159 rfl rfl ?_;simp only[go_sem];exact .refl _
def jX(c:Int):Bool:=decide (c≥97)&&decide (c≤122)||decide (c≥65)&&decide (c≤90)||c == 95
theorem AZ(c:Int):PC prog 163 [.v (.int .u8 c)] (boo (jX c)):=by refine pcd func163 rfl rfl ?_;simp only[go_sem];exact .refl _
def eK(s:Stop):Bool:=s.place == -1&&s.start == 0&&s.close == 0&&s.service == 0
def qI(s:Stop):Bool:=decide (s.place<0)||decide (s.start<0)||decide (s.start>s.close)||decide (s.close>4096)||decide (s.service<0)||decide (s.service>4096)
def dR(s:Stop):Int:=if eK s then 0 else if qI s then 2 else 0
theorem Gi(s:Stop):PC prog 211 [.agg (dQ s)] (int (dR s)):=by
 refine pcd func211 rfl rfl ?_;simp only[go_sem];refine aA (fun h=>?_) (fun h=>?_)
 ·simp only[go_sem];have:dR s=0:=if_pos h;rw[this];exact .refl _
 ·simp only[go_sem];refine aA (fun h2=>?_) (fun h2=>?_)
  ·simp only[go_sem];have:dR s=2:=by unfold dR;rw[if_neg (by simp[eK,h])];exact if_pos h2
   rw[this];exact .refl _
  ·simp only[go_sem];have:dR s=0:=by unfold dR;rw[if_neg (by simp[eK,h]),if_neg (by simp only[qI,h2];simp)]
   rw[this];exact .refl _
def lD(n:Int):ByteArray:=strOfNums [IntKind.u8.wrap (IntKind.i64.wrap (48+n))]
def cO(n:Nat):ByteArray:=if n<10 then lD n else cO (n/10)++lD (n%10:Nat)
theorem nQ(x:Int):(strOfNums [x]).size=1:=by simp[strOfNums];rfl
theorem lY(n:Int):(lD n).size=1:=nQ _
theorem nD{n:Nat}(h:10≤n):cO n=cO (n/10)++lD (n%10:Nat):=by rw[cO,if_neg (by omega)]
theorem lF{n:Nat}(h:n<10):cO n=lD n:=by rw[cO,if_pos h]
theorem gG(n:Nat):(cO n).size≤n+1:=by
 induction n using Nat.strongRecOn with
 | ind n ih=>
  rcases Xbc n 10 with h|h
  ·rw[lF h,lY];omega
  ·rw[nD h,ByteArray.size_append,lY];have:=ih (n/10) (by omega);omega
theorem AH(m:Nat):(m:Int).tmod 10=((m%10:Nat):Int):=by rw[Int.tmod_eq_emod_of_nonneg (by omega)];rfl
theorem A5(m:Nat):(m:Int).tdiv 10=((m/10:Nat):Int):=by rw[Int.tdiv_eq_ediv_of_nonneg (by omega)];rfl
theorem Rt{k:Nat}(h:k≤4611686018427387904):IntKind.i64.wrap (k:Int)=(k:Int):=dI (by omega)
theorem bA:IntKind.i64.max=9223372036854775807:=by decide
theorem Rn(n:Nat)(hn:n≤4611686018427387904):PC prog 212 [int n] (str (cO n)):=by
 refine pcd func212 rfl rfl ?_;simp only[go_sem];refine⟨fun ρ _=>∃(m:Nat) (s:ByteArray),ρ 0=int m∧ρ 3=str s∧cO n=cO m++s∧s.size+m≤n,
  fun ρ _=>bO (ρ 0),⟨n,ByteArray.empty,rfl,rfl,by simp,by simp⟩,?_⟩
 rintro ρ H ⟨k,s,h0,h3,he,hs⟩;simp only[go_sem,h0,h3];refine aA (fun hlt=>?_) (fun hge=>?_)
 ·have hlt : 10 ≤ k := by
   have:(10:Int)≤k:=by simpa using hlt
   omega
  simp only[go_sem,h0,h3,A5,AH,Rt (show k/10≤4611686018427387904 by omega),aE];refine⟨by omega,?_,by omega,⟨k/10,_,rfl,rfl,?_,?_⟩,by omega⟩
  ·rw[nQ,bA];omega
  ·rw[he,nD hlt,ByteArray.append_assoc];rfl
  ·rw[ByteArray.size_append,nQ];omega
 ·have hge : k < 10 := by
   have:¬(10:Int)≤k:=by simpa using hge
   omega
  simp only[go_sem,h0,h3];refine⟨by rw[nQ,bA];omega,?_⟩;rw[he,lF hge];exact .refl _
def vT:AV→Nat
 | .v (.bool true)=>1
 | _=>0
theorem nE(n:Nat)(hn:n≤4611686018427387904):PC prog 53 [int n] (str (cO n)):=by
 refine pcd func53 rfl rfl ?_;simp only[go_sem];refine⟨fun ρ _=>∃(b:Bool) (m:Nat) (s:ByteArray),ρ 0=int n∧ρ 5=boo b∧ρ 4=int m∧ρ 3=str s∧(b=true→cO n=cO m++s∧s.size+m≤n)∧(b=false→cO n=s),
  fun ρ _=>bO (ρ 4)+vT (ρ 5),⟨true,n,ByteArray.empty,rfl,rfl,rfl,rfl,fun _=>by simp,by simp⟩,?_⟩
 rintro ρ H ⟨b,k,s,h0,h5,h4,h3,ht,hf⟩;simp only[go_sem,h0,h3,h4,h5];refine aA (fun hb=>?_) (fun hb=>?_)
 ·subst hb;obtain⟨he,hs⟩:=ht rfl;simp only[go_sem,h0,h3,h4,h5,A5,AH];refine⟨by omega,?_⟩;refine aA (fun hb=>?_) (fun hb=>?_)
  ·exfalso;simp at hb;omega
  ·simp only[go_sem,h0,h3,h4,h5,A5,AH,Rt (show k/10≤4611686018427387904 by omega),aE];refine⟨by rw[nQ,bA];omega,by omega,⟨_,k/10,_,rfl,rfl,rfl,?_,?_⟩,?_⟩
   ·intro hb;have:10≤k:=by simp at hb;omega
    refine⟨?_,?_⟩
    ·rw[he,nD this,ByteArray.append_assoc];rfl
    ·rw[ByteArray.size_append,nQ];omega
   ·intro hb;have h10:k<10:=by simp at hb;omega
    rw[he,lF h10,Nat.mod_eq_of_lt h10];rfl
   ·rcases Xbc k 10 with h|h
    ·have:k/10=0:=by omega
     simp[this,vT]
    ·simp only[vT];split <;> omega
 ·simp only[go_sem,h0,h3,h4,h5];refine aA (fun hb=>?_) (fun hb=>?_)
  ·exfalso;simp at hb;omega
  ·simp only[go_sem,h0,h3,h4,h5];rw[hf (by assumption)];exact .refl _
def gM(l:List Int)(d:Int):Bool:=if(l.length:Int)=d then l.all fun n=> !(decide (n<0)||decide (n>1000))else false
theorem wE{α:Type}{p:α→Bool}{l:List α}(h:∀x∈l,p x=true):l.all p=true:=Xax.2 h
theorem sT{α:Type}{p:α→Bool}{l:List α}{x:α}(h:x∈l)(hp:p x=false):l.all p=false:=by
 cases hb:l.all p with
 | false=>rfl
 | true=>rw[Xax.1 hb x h]at hp;cases hp
theorem aQ{α:Type}{l:List α}{k:Nat}{x:α}(h:l[k]?=some x):x∈l:=Xbg h
theorem mE{α:Type}{q:α→Prop}{l:List α}{k:Nat}{x:α}(hr:l[k]?=some x)(h:∀y∈l.take k,q y)(hx:q x):∀y∈l.take (k+1),q y:=by
 rw[fL hr];intro y hy;rcases Xap.1 hy with hy|hy
 ·exact h y hy
 ·simp at hy;subst hy;exact hx
theorem bD{k n:Nat}(h:decide ((k:Int)<(n:Int))=true):k<n:=by simpa using h
theorem bK{k n:Nat}(hk:k≤n)(h:decide ((k:Int)<(n:Int))=false):k=n:=by
 have:¬k<n:=by simpa using h
 omega
theorem Qj(l:List Int)(d:Int)(hl:l.length≤1048576):PC prog 209 [.sl (l.map aY),int d] (boo (gM l d)):=by
 refine pcd func209 rfl rfl ?_;simp only[go_sem];refine aA (fun hd=>?_) (fun hd=>?_)
 ·simp only[go_sem];have:gM l d=false:=by unfold gM;rw[if_neg (by simpa using hd)]
  rw[this];exact .refl _
 ·have hd:(l.length:Int)=d:=by simpa using hd
  simp only[go_sem];refine⟨fun ρ _=>∃k:Nat,k≤l.length∧ρ 0=.sl (l.map aY)∧ρ 5=int k∧∀n∈l.take k,(decide (n<0)||decide (n>1000))=false,fun ρ _=>l.length-bO (ρ 5),⟨0,Xad _,rfl,rfl,by simp⟩,?_⟩;rintro ρ H ⟨k,hk,h0,h5,hn⟩;simp only[go_sem,h0,h5];refine aA (fun hlt=>?_) (fun hge=>?_)
  ·have hlt:=bD hlt;obtain⟨r,hr⟩:=cG hlt;have b1:=inB hlt;simp only[go_sem,h0,h5,b1,aM hr];refine aA (fun hb=>?_) (fun hb=>?_)
   ·simp only[go_sem];have:gM l d=false:=by unfold gM;rw[if_pos hd];exact sT (aQ hr) (by simp only[hb];rfl)
    rw[this];exact .refl _
   ·simp only[go_sem,h0,h5,cH k];exact⟨⟨k+1,hlt,rfl,mE hr hn hb⟩,by simp only[aE];omega⟩
  ·have hge:=bK hk hge;subst hge;simp only[go_sem];have:gM l d=true:=by unfold gM;rw[if_pos hd];exact wE fun n h=>by rw[hn n (by simpa using h)];rfl
   rw[this];exact .refl _
def nY(l:List Int)(d:Int):Bool:=if(!inR l.length 1 3||(l.length:Int) != d)=true then false else l.all fun n=>inR n 0 1000
theorem S8(l:List Int)(d:Int)(hl:l.length≤1048576):PC prog 208 [.sl (l.map aY),int d] (boo (nY l d)):=by
 refine pcd func208 rfl rfl ?_;simp only[go_sem];refine bB (kH _ _ _) ?_;simp only[go_sem];refine aA (fun hd=>?_) (fun hd=>?_)
 ·simp only[go_sem];have:nY l d=false:=by unfold nY;rw[if_pos hd]
  rw[this];exact .refl _
 ·simp only[go_sem];refine⟨fun ρ _=>∃k:Nat,k≤l.length∧ρ 0=.sl (l.map aY)∧ρ 5=int k∧∀n∈l.take k,inR n 0 1000=true,fun ρ _=>l.length-bO (ρ 5),⟨0,Xad _,rfl,rfl,by simp⟩,?_⟩;rintro ρ H ⟨k,hk,h0,h5,hn⟩;simp only[go_sem,h0,h5];refine aA (fun hlt=>?_) (fun hge=>?_)
  ·have hlt:=bD hlt;obtain⟨r,hr⟩:=cG hlt;have b1:=inB hlt;simp only[go_sem,h0,h5,b1,aM hr];refine bB (kH _ _ _) ?_;simp only[go_sem];refine aA (fun hb=>?_) (fun hb=>?_)
   ·simp only[go_sem];have:nY l d=false:=by unfold nY;rw[if_neg (by rw[hd];simp)];exact sT (aQ hr) (by simpa using hb)
    rw[this];exact .refl _
   ·simp only[go_sem,h0,h5,cH k];exact⟨⟨k+1,hlt,rfl,mE hr hn (by simpa using hb)⟩,by simp only[aE];omega⟩
  ·have hge:=bK hk hge;subst hge;simp only[go_sem];have:nY l d=true:=by unfold nY;rw[if_neg (by rw[hd];simp)];exact wE fun n h=>hn n (by simpa using h)
   rw[this];exact .refl _
def cP(s:ByteArray)(i:Nat):Int:=((s.data.getD i 0).toNat:Int)
def dM(s:ByteArray):Bool:=if(decide ((s.size:Int)<1)||decide ((s.size:Int)>16)||fG (cP s 0))=true then false else(List.range s.size).all fun i=>jX (cP s i)||fG (cP s i)
theorem nF{n k:Nat}(h:k<n):(List.range n)[k]?=some k:=by simp[h]
theorem oU(s:ByteArray)(hl:s.size≤1048576):PC prog 104 [str s] (boo (dM s)):=by
 refine pcd func104 rfl rfl ?_;simp only[go_sem];refine⟨fun h=>⟨by omega,by simp at h;omega⟩,_,fun _=>(oG _).q rfl,?_⟩;simp only[go_sem];refine aA (fun hd=>?_) (fun hd=>?_)
 ·simp only[go_sem];have:dM s=false:=by unfold dM;rw[if_pos (by exact hd)]
  rw[this];exact .refl _
 ·simp only[go_sem];refine⟨fun ρ _=>∃k:Nat,k≤s.size∧ρ 0=str s∧ρ 3=int k∧∀i∈(List.range s.size).take k,(jX (cP s i)||fG (cP s i))=true,fun ρ _=>s.size-bO (ρ 3),⟨0,Xad _,rfl,rfl,by simp⟩,?_⟩;rintro ρ H ⟨k,hk,h0,h3,hn⟩;simp only[go_sem,h0,h3];refine aA (fun hlt=>?_) (fun hge=>?_)
  ·have hlt:=bD hlt;have b1:=inB hlt;simp only[go_sem,h0,h3,b1];refine bB (AZ _) ?_;simp only[go_sem,h0,h3,b1];refine⟨_,fun _=>(oG _).q rfl,?_⟩;simp only[go_sem];refine aA (fun hb=>?_) (fun hb=>?_)
   ·simp only[go_sem];have:dM s=false:=by unfold dM;rw[if_neg (by intro h;exact absurd (h.symm.trans hd) (by simp))];exact sT (aQ (nF hlt)) (by simpa[cP]using hb)
    rw[this];exact .refl _
   ·simp only[go_sem,h0,h3,cH k];exact⟨⟨k+1,hlt,rfl,mE (nF hlt) hn (by
     have:(!jX (cP s k)&& !fG (cP s k))=false:=hb
     revert this;cases jX (cP s k) <;> cases fG (cP s k) <;> simp)⟩,by simp only[aE];omega⟩
  ·have hge:=bK hk hge;subst hge;simp only[go_sem];have:dM s=true:=by unfold dM;rw[if_neg (by intro h;exact absurd (h.symm.trans hd) (by simp))];exact wE fun n h=>hn n (by rw[Xaj (by simp)];exact h)
   rw[this];exact .refl _
def hY(l:List VType):Int:=match l with|[]=>0|t::_=>t.cap.length
theorem NG(l:List VType):PC prog 93 [.sl (l.map aX)] (int (hY l)):=by
 refine pcd func93 rfl rfl ?_;simp only[go_sem];cases l with
 | nil=>
  simp only[go_sem];refine aA (fun hb=>?_) (fun hb=>?_)
  ·simp only[go_sem];exact .refl _
  ·simp at hb
 | cons t l=>
  refine aA (fun hb=>?_) (fun hb=>?_)
  ·simp at hb;omega
  ·simp only[go_sem];exact⟨⟨by omega,by omega⟩,.refl _⟩
def mI(l:List VType)(k:Nat)(s:ByteArray):Bool:=(l.take k).any fun t=>t.name.toList == s.toList
theorem Qb(l:List VType)(m:Nat)(s:ByteArray)(hm:m≤l.length)(hl:l.length≤1048576):PC prog 207 [.sl (l.map aX),int m,str s] (boo (mI l m s)):=by
 refine pcd func207 rfl rfl ?_;simp only[go_sem];refine⟨fun ρ _=>∃k:Nat,k≤m∧ρ 0=.sl (l.map aX)∧ρ 1=int m∧ρ 2=str s∧ρ 7=int k∧∀t∈l.take k,(t.name.toList == s.toList)=false,fun ρ _=>m-bO (ρ 7),⟨0,Xad _,rfl,rfl,rfl,rfl,by simp⟩,?_⟩;rintro ρ H ⟨k,hk,h0,h1,h2,h7,hn⟩;simp only[go_sem,h0,h1,h2,h7];refine aA (fun hlt=>?_) (fun hge=>?_)
 ·have hlt:=bD hlt;obtain⟨r,hr⟩:=cG (show k<l.length by omega);have b1:=inB (show k<l.length by omega);simp only[go_sem,h0,h1,h2,h7,b1,aM hr];refine aA (fun hb=>?_) (fun hb=>?_)
  ·simp only[go_sem];have:mI l m s=true:=by refine List.any_eq_true.2 ⟨r,?_,hb⟩;exact Xbg (i:=k) (by rw[List.getElem?_take];simp[hlt,hr])
   rw[this];exact .refl _
  ·simp only[go_sem,h0,h1,h2,h7,cH k];exact⟨⟨k+1,hlt,rfl,mE hr hn hb⟩,by simp only[aE];omega⟩
 ·have hge:=bK hk hge;subst hge;simp only[go_sem];have:mI l k s=false:=List.any_eq_false.2 fun t ht=>by simp[hn t ht]
  rw[this];exact .refl _
def gT(p:Point):Bool:=decide (p.t<0)||decide (p.t>4096)||decide (p.a<p.t)||decide (p.a>IntKind.i64.wrap (p.t+4096))
def Bl(p q:Point):Bool:=decide (p.t≤q.t)||decide (p.a<q.a)
def yS(l:List Point)(i:Nat):Point:=l.getD i ⟨0,0⟩
def qT(n lo hi:Int):Bool:=decide (n<lo)||decide (n>hi)
def dX(l:List Point)(i:Nat):List Fault:=
 opt (gT (yS l i)) ⟨2,cO i⟩++opt (decide ((i:Int)>0)&&Bl (yS l i) (yS l (i-1))) ⟨13,cO i⟩
def jH(l:List Point):List Fault:=opt (qT l.length 1 16) ⟨4,ByteArray.empty⟩++(List.range l.length).flatMap (dX l)
theorem JS(l:List Point)(i:Nat):(dX l i).length≤2:=by unfold dX;rw[Xac];have:=aU (gT (yS l i)) (⟨2,cO i⟩:Fault);have:=aU (decide ((i:Int)>0)&&Bl (yS l i) (yS l (i-1))) (⟨13,cO i⟩:Fault);omega
theorem cJ{α β:Type}{f:α→List β}{c:Nat}(h:∀x,(f x).length≤c):∀l:List α,(l.flatMap f).length≤c*l.length
 | []=>by simp
 | x::r=>by have h1:=h x;have h2:=cJ h r;simp only[List.flatMap_cons,Xac,Xaa,Nat.mul_add,Nat.mul_one];omega
theorem cU{β:Type}(f:Nat→List β)(k:Nat):(List.range (k+1)).flatMap f=(List.range k).flatMap f++f k:=by rw[List.range_succ,List.flatMap_append];simp
theorem lT{l:List Point}{k:Nat}{p:Point}(h:l[k]?=some p):yS l k=p:=by simp[yS,List.getD,h]
theorem OE(l:List Point)(hl:l.length≤1048576):NC prog 205 [.sl (l.map bL)] (aJ (jH l)) .os:=by
 refine ncb (fun t=>t == 3) func205 rfl rfl ?_;simp only[go_sem];refine cN fun j hj=>?_
 simp only[go_sem];refine bI (fun ρ H=>∃j,ρ 0=.sl (l.map bL)∧ρ 3=.os j∧H j=some (aJ (opt (qT l.length 1 16) ⟨4,ByteArray.empty⟩))) ?_ fun K hK=>aA (fun hb=>?_) (fun hb=>?_)
 ·rintro ρ H ⟨j,h0,h3,hH⟩;simp only[go_sem,h0,h3];generalize hpre:opt (qT l.length 1 16) (⟨4,ByteArray.empty⟩:Fault)=pre at hH;have hpl:pre.length≤1:=by rw[←hpre];exact aU _ _
  refine⟨fun ρ H=>∃k:Nat,k≤l.length∧ρ 0=.sl (l.map bL)∧ρ 4=int k∧∃j,ρ 3=.os j∧H j=some (aJ (pre++(List.range k).flatMap (dX l))),fun ρ _=>l.length-bO (ρ 4),⟨0,Xad _,by simp only[go_sem,h0],by simp only[go_sem];rfl,j,by simp only[go_sem,h3],by simpa using hH⟩,?_⟩;rintro ρ H ⟨k,hk,h0,h4,j,h3,hH⟩;generalize hes:pre++(List.range k).flatMap (dX l)=es at hH;have hlen:es.length≤2*k+1:=by have:=cJ (JS l) (List.range k);rw[←hes,Xac];rw[Xau]at this;omega
  simp only[go_sem,h0,h3,h4];refine aA (fun hlt=>?_) (fun hge=>?_)
  ·have hlt:=bD hlt;obtain⟨p,hp⟩:=cG hlt;have b1:=inB hlt;simp only[go_sem,h0,h3,h4,b1,aM hp];refine cN fun i hi=>?_
   simp only[go_sem];refine fD (r:=⟨157,2,[[int 0,int 0]]⟩) (by rw[aD]) (by simp[kK]) ?_;simp only[go_sem];have hji:j≠i:=bM hH hi;have hH':bG (bG H i (some ⟨157,2,[[int 0,int 0]]⟩)) i (some ⟨157,2,[bL p]⟩) j=some (aJ es):=by rw[aK _ _ _ _ hji,aK _ _ _ _ hji,hH]
   refine bI (fun ρ' H'=>∃j',ρ' 0=.sl (l.map bL)∧ρ' 4=int k∧ρ' 3=.os j'∧ρ' 5=.op i 0 0∧H' i=some ⟨157,2,[bL p]⟩∧j'≠i ∧
    H' j'=some (aJ (es++opt (gT p) ⟨2,cO k⟩))) ?_ fun K hK=>aA (fun hb=>?_) (fun hb=>?_)
   ·rintro ρ H ⟨j,h0,h4,h3,h5,hi,hji,hH⟩;generalize hfs:es++opt (gT p) ⟨2,cO k⟩=fs at hH;have hfl:fs.length≤2*k+2:=by have:=aU (gT p) (⟨2,cO k⟩:Fault);rw[←hfs,Xac];omega
    simp only[go_sem];refine lK (by rfl) (by kernel_rfl) ?_;simp only[go_sem,h0,h3,h4,h5,hi];obtain⟨q,hq⟩:=cG (show k-1<l.length by omega);simp only[go_sem,h0,h3,h4,h5,hi,Eh (show k≤4611686018427387904 by omega),aM hq];have hkk:k≤4611686018427387904:=by omega
    have hg:decide ((k:Int)>0)=true→0≤IntKind.i64.wrap ((k:Int)-1)∧IntKind.i64.wrap ((k:Int)-1)<(l.length:Int):=fun h=>by
     have:(k:Int)>0:=by simpa using h
     rw[lW hkk];omega
    have hpf:pre++(List.range (k+1)).flatMap (dX l)=fs++opt (decide ((k:Int)>0)&&Bl p q) ⟨13,cO k⟩:=by rw[cU,←Xar,hes,←hfs,dX,lT hp,lT hq,Xar]
    refine⟨hg,fun h=>hg h.1,eR (fun ρ' H'=>ρ' 0=.sl (l.map bL)∧ρ' 4=int k∧∃j,ρ' 3=.os j∧H' j=some (aJ (pre++(List.range (k+1)).flatMap (dX l)))) ?_ fun K hK _ _=>aA (fun hb=>?_) (fun hb=>?_)⟩
    ·rintro ρ H ⟨h0,h4,j,h3,hH⟩;simp only[go_sem,h0,h3,h4,fM hkk];exact⟨⟨k+1,hlt,rfl,j,rfl,hH⟩,by simp only[aE];omega⟩
    ·simp only[go_sem,h0,h3,h4];refine bB (nE _ (by omega)) ?_;simp only[go_sem,h0,h3,h4];refine aP hH ⟨rfl,rfl⟩ (by simp only[go_sem]) (by simp only[Xab,Xaa,List.length_nil];omega) (fun j' hj'=>?_);simp only[go_sem,h0,h3,h4];refine hK _ _ ⟨by simp only[go_sem,h0],by simp only[go_sem,h4],j',by simp only[go_sem],?_⟩;rw[hpf,dW (by exact hb)];exact cD (l':=[⟨13,cO k⟩]) rfl
    ·simp only[go_sem];refine hK _ _ ⟨by simp only[go_sem,h0],by simp only[go_sem,h4],j,by simp only[go_sem,h3],?_⟩;rw[hpf,dV (by exact hb),Xah,hH]
   ·simp only[go_sem,h0,h3,h4];refine bB (nE _ (by omega)) ?_;simp only[go_sem,h0,h3,h4];refine aP hH' ⟨rfl,rfl⟩ (by simp only[go_sem]) (by simp only[Xab,Xaa,List.length_nil];omega) (fun j' hj'=>?_);simp only[go_sem,h0,h3,h4];have hi':=aD (bG H i (some ⟨157,2,[[int 0,int 0]]⟩)) i (some ⟨157,2,[bL p]⟩);refine hK _ _ ⟨j',by simp only[go_sem,h0],by simp only[go_sem,h4],by simp only[go_sem],by simp only[go_sem],cF hi' hji hj',(bM hi' hj').symm,?_⟩;rw[dW (show gT p=true from hb)];exact cD (l':=[⟨2,cO k⟩]) rfl
   ·simp only[go_sem];refine hK _ _ ⟨j,by simp only[go_sem,h0],by simp only[go_sem,h4],by simp only[go_sem,h3],by simp only[go_sem],by rw[aD],hji,?_⟩;rw[hH',dV (show gT p=false from hb),Xah]
  ·have hge:=bK hk hge;subst hge;simp only[go_sem,h3];exact⟨_,rfl,by rw[hH,←hes,←hpre];rfl⟩
 ·simp only[go_sem];refine aP (r:=aJ []) (by simp only[go_sem];rfl) ⟨rfl,rfl⟩ (by simp only[go_sem]) (by simp) (fun j' hj'=>?_);simp only[go_sem];refine hK _ _ ⟨j',rfl,rfl,?_⟩;rw[dW (by exact hb)];exact cD (l:=[]) (l':=[⟨4,ByteArray.empty⟩]) rfl
 ·simp only[go_sem];refine hK _ _ ⟨j,rfl,rfl,?_⟩;rw[dV (by exact hb),aD];rfl
def zW(l:List ByteArray)(i:Nat):ByteArray:=l.getD i ByteArray.empty
theorem xL{l:List ByteArray}{k:Nat}{p:ByteArray}(h:l[k]?=some p):zW l k=p:=by simp[zW,List.getD,h]
def kD(i:Nat):ByteArray:=⟨#[112,108,97,99,101,32]⟩++cO i
def kC(l:List ByteArray)(i:Nat):Bool:=(l.take i).any fun s=>s.toList == (zW l i).toList
def cC(l:List ByteArray)(i:Nat):List Fault:=match dM (zW l i)with
 | false=>[⟨5,kD i⟩]
 | true=>opt (kC l i) ⟨6,kD i⟩
theorem Fc(l:List ByteArray)(i:Nat):(cC l i).length≤1:=by
 unfold cC;split
 ·simp
 ·exact aU _ _
def lN(l:List ByteArray):List Fault:=opt (decide ((l.length:Int)>24)) ⟨4,⟨#[112,108,97,99,101,115]⟩⟩++(List.range l.length).flatMap (cC l)
theorem Ar{α:Type}{p:α→Bool}{l:List α}{k:Nat}{x:α}(h:l[k]?=some x):(l.take (k+1)).any p=((l.take k).any p||p x):=by rw[fL h,List.any_append];simp
theorem Ie(i:Nat):(kD i).size≤i+7:=by have:=gG i;unfold kD;rw[ByteArray.size_append];have:(⟨#[112,108,97,99,101,32]⟩:ByteArray).size=6:=rfl;omega
theorem NM(n:Network)(hl:n.places.length≤1048576)(hs:∀s∈n.places,s.size≤1048576):NC prog 153 [.agg (aN n)] (aJ (lN n.places)) .os:=by
 refine ncb (fun t=>t == 3) func153 rfl rfl ?_;simp only[go_sem];refine cN fun j hj=>?_
 simp only[go_sem];refine bI (fun ρ H=>∃j,ρ 1=.rp (aN n) 0∧ρ 3=.os j∧H j=some (aJ (opt (decide ((n.places.length:Int)>24)) ⟨4,⟨#[112,108,97,99,101,115]⟩⟩))) ?_ fun K hK=>aA (fun hb=>?_) (fun hb=>?_)
 ·rintro ρ H ⟨j,h1,h3,hH⟩;simp only[go_sem,h1,h3];generalize hpre:opt (decide ((n.places.length:Int)>24)) (⟨4,⟨#[112,108,97,99,101,115]⟩⟩:Fault)=pre at hH;have hpl:pre.length≤1:=by rw[←hpre];exact aU _ _
  refine⟨fun ρ H=>∃k:Nat,k≤n.places.length∧ρ 1=.rp (aN n) 0∧ρ 4=int k∧∃j,ρ 3=.os j∧H j=some (aJ (pre++(List.range k).flatMap (cC n.places))),fun ρ _=>n.places.length-bO (ρ 4),⟨0,Xad _,by simp only[go_sem,h1],by simp only[go_sem];rfl,j,by simp only[go_sem,h3],by simpa using hH⟩,?_⟩;rintro ρ H ⟨k,hk,h1,h4,j,h3,hH⟩;generalize hes:pre++(List.range k).flatMap (cC n.places)=es at hH;have hlen:es.length≤k+1:=by have:=cJ (Fc n.places) (List.range k);rw[←hes,Xac];rw[Xau]at this;omega
  simp only[go_sem,h1,h3,h4];refine aA (fun hlt=>?_) (fun hge=>?_)
  ·have hlt:=bD hlt;obtain⟨p,hp⟩:=cG hlt;have b1:=inB hlt;have hkk:k≤4611686018427387904:=by omega
   have hds:=gG k;have hfl:pre++(List.range (k+1)).flatMap (cC n.places)=es++cC n.places k:=by rw[cU,←Xar,hes]
   simp only[go_sem,h1,h3,h4];refine bB (nE _ (by omega)) ?_;simp only[go_sem,h1,h3,h4,b1,aM hp];refine⟨by rw[bA];show((6+(cO k).size:Nat):Int)≤_;omega,?_⟩;refine bB (oU p (hs p (aQ hp))) ?_;simp only[go_sem,h1,h3,h4];refine aA (fun hb=>?_) (fun hb=>?_)
   ·simp only[go_sem,h1,h3,h4];refine aP hH ⟨rfl,rfl⟩ (by simp only[go_sem]) (by simp only[Xab,Xaa,List.length_nil];omega) (fun j' hj'=>?_);simp only[go_sem,h1,h3,h4,fM hkk];refine⟨⟨k+1,hlt,rfl,j',rfl,?_⟩,by simp only[aE];omega⟩;have hn:dM (zW n.places k)=false:=by rw[xL hp];simpa using hb
    rw[hfl,cC,hn];exact cD (l':=[⟨5,kD k⟩]) rfl
   ·simp only[go_sem,h1,h3,h4];have hn:dM (zW n.places k)=true:=by rw[xL hp];simpa using hb
    refine⟨fun ρ H'=>∃m:Nat,m≤k∧ρ 1=.rp (aN n) 0∧ρ 3=.os j∧ρ 4=int k∧ρ 5=str (kD k)∧ρ 6=boo ((n.places.take m).any fun s=>s.toList == p.toList)∧ρ 7=int m∧H'=H,fun ρ _=>k-bO (ρ 7),⟨0,Xad _,by simp only[go_sem,h1],by simp only[go_sem,h3],by simp only[go_sem,h4],by simp only[go_sem];rfl,by simp only[go_sem];rfl,by simp only[go_sem];rfl,rfl⟩,?_⟩;rintro ρ H' ⟨m,hm,h1,h3,h4,h5,h6,h7,rfl⟩;simp only[go_sem,h1,h3,h4,h5,h6,h7];refine aA (fun hlt2=>?_) (fun hge2=>?_)
    ·have hlt2:=bD hlt2;obtain⟨q,hq⟩:=cG (show m<n.places.length by omega);have b2:=inB (show m<n.places.length by omega);simp only[go_sem];refine lK (by rfl) (by kernel_rfl) ?_;simp only[go_sem,h1,h3,h4,h5,h6,h7,b1,b2,aM hp,aM hq,cH m];refine⟨⟨m+1,hlt2,?_,rfl⟩,by simp only[aE];omega⟩;rw[Ar hq]
    ·have hge2:=bK hm hge2;subst hge2;simp only[go_sem,h6];have hsb:kC n.places m=(n.places.take m).any fun s=>s.toList == p.toList:=by unfold kC;rw[xL hp]
     refine eR (fun ρ' H'=>ρ' 1=.rp (aN n) 0∧ρ' 4=int m∧∃j,ρ' 3=.os j∧H' j=some (aJ (pre++(List.range (m+1)).flatMap (cC n.places)))) ?_ fun K hK _ _=>aA (fun hb=>?_) (fun hb=>?_)
     ·rintro ρ H ⟨h1,h4,j,h3,hH⟩;simp only[go_sem,h1,h3,h4,fM hkk];exact⟨⟨m+1,hlt,rfl,j,rfl,hH⟩,by simp only[aE];omega⟩
     ·simp only[go_sem,h1,h3,h4,h5];refine aP hH ⟨rfl,rfl⟩ (by simp only[go_sem]) (by simp only[Xab,Xaa,List.length_nil];omega) (fun j' hj'=>?_);simp only[go_sem];refine hK _ _ ⟨by simp only[go_sem,h1],by simp only[go_sem,h4],j',by simp only[go_sem],?_⟩;rw[hfl,cC,hn];show _=some (aJ (es++opt (kC n.places m) ⟨6,kD m⟩));rw[dW (hsb.trans hb)];exact cD (l':=[⟨6,kD m⟩]) rfl
     ·simp only[go_sem];refine hK _ _ ⟨by simp only[go_sem,h1],by simp only[go_sem,h4],j,by simp only[go_sem,h3],?_⟩;rw[hfl,cC,hn];show _=some (aJ (es++opt (kC n.places m) ⟨6,kD m⟩));rw[dV (hsb.trans hb),Xah,hH]
  ·have hge:=bK hk hge;subst hge;simp only[go_sem,h3];exact⟨_,rfl,by rw[hH,←hes,←hpre];rfl⟩
 ·simp only[go_sem];refine aP (r:=aJ []) (by simp only[go_sem];rfl) ⟨rfl,rfl⟩ (by simp only[go_sem]) (by simp) (fun j' hj'=>?_);simp only[go_sem];refine hK _ _ ⟨j',rfl,rfl,?_⟩;rw[dW (by exact hb)];exact cD (l:=[]) (l':=[⟨4,⟨#[112,108,97,99,101,115]⟩⟩]) rfl
 ·simp only[go_sem];refine hK _ _ ⟨j,rfl,rfl,?_⟩;rw[dV (by exact hb),aD];rfl
def KO(l:List VType)(i:Nat):VType:=l.getD i ⟨ByteArray.empty,0,0,0,[],0,0,0,0,0,0,0,0,0⟩
theorem F7{l:List VType}{k:Nat}{p:VType}(h:l[k]?=some p):KO l k=p:=by simp[KO,List.getD,h]
def fW(n:Network)(l:List VType)(k:Nat)(t:VType):List Int:=
 []++opt (!dM t.name) 5++opt (mI l k t.name) 6++opt (!inR t.count 0 10) 22++opt (!inR t.src 0 (n.places.length-1)|| !inR t.dst 0 (n.places.length-1)) 11
   ++ opt (!nY t.cap (hY l)) 17++opt (!inR t.skills 0 1073741823) 18++opt (!inR t.start 0 t.close||decide (t.close>4096)) 15
   ++ opt (!inR t.drive 1 4096|| !inR t.rest 0 4096) 16++opt (!inR t.profile 0 7|| !inR t.fixed 0 100000|| !inR t.perMile 0 100|| !inR t.perTick 0 100) 2
theorem NQ(n:Network)(l:List VType)(k:Nat)(hk:k<l.length)(hl:l.length≤1048576)(hs:∀t∈l,t.name.size≤1048576∧t.cap.length≤1048576)(hp:n.places.length≤1048576):
  PC prog 156 [.agg (aN n),.sl (l.map aX),int k] (.sl ((fW n l k (KO l k)).map aY)):=by
 refine pcb (fun t=>t == 8) func156 rfl rfl ?_;simp only[go_sem];obtain⟨t,ht⟩:=cG hk;have b1:=inB hk;have hst:=hs t (aQ ht);rw[F7 ht];simp only[go_sem,b1,aM ht];refine cN fun i hi=>?_
 simp only[go_sem];refine fD (aD _ _ _) (by simp[rG]) ?_;simp only[go_sem];refine cN fun j hj=>?_
 have hi':=jV (r':=(⟨35,1,[]⟩:Row)) (aD _ _ _) hj;simp only[go_sem,hi'];refine bB (oU _ hst.1) ?_;simp only[go_sem];refine lB (fun ρ' H'=>ρ' 1=.sl (l.map aX)∧ρ' 2=int k∧ρ' 3=.rp (aN n) 0∧ρ' 7=.op i 0 0∧H' i=some (kJ t)∧∃j',ρ' 8=.os j'∧j'≠i∧H' j'=some (cT [])) ⟨by simp only[go_sem],by simp only[go_sem],by simp only[go_sem],by simp only[go_sem],jV (aD _ _ _) hj,_,by simp only[go_sem],(bM (aD _ _ _) hj).symm,aD _ _ _⟩ ?_;rintro ρ H ⟨h1,h2,h3,h7,hi,j,h8,hji,hH⟩;generalize hes0:([]:List Int)=es0 at hH;have hln0:es0.length≤0:=by rw[←hes0];exact Xae _
 refine bI (fun ρ' H'=>ρ' 1=.sl (l.map aX)∧ρ' 2=int k∧ρ' 3=.rp (aN n) 0∧ρ' 7=.op i 0 0∧H' i=some (kJ t)∧∃j',ρ' 8=.os j'∧j'≠i∧H' j'=some (cT (es0++opt (!dM t.name) 5))) ?_ fun K hK=>aA (fun hb=>?_) (fun hb=>?_)
 rotate_left
 ·simp only[go_sem,h1,h2,h3,h7,h8];refine aP hH ⟨rfl,rfl⟩ (by simp only[go_sem]) (by simp only[Xab,Xaa,List.length_nil];omega) (fun j' hj'=>?_);simp only[go_sem];refine hK _ _ ⟨by simp only[go_sem,h1],by simp only[go_sem,h2],by simp only[go_sem,h3],by simp only[go_sem,h7],cF hi hji hj',j',by simp only[go_sem],(bM hi hj').symm,?_⟩;rw[dW (show(!dM t.name)=true from hb)];exact dL (l':=[5]) rfl
 ·simp only[go_sem];refine hK _ _ ⟨by simp only[go_sem,h1],by simp only[go_sem,h2],by simp only[go_sem,h3],by simp only[go_sem,h7],hi,j,by simp only[go_sem,h8],hji,?_⟩;rw[dV (show(!dM t.name)=false from hb),Xah,hH]
 clear hH h1 h2 h3 h7 h8;rintro ρ H ⟨h1,h2,h3,h7,hi,j,h8,hji,hH⟩;generalize hes1:es0++opt (!dM t.name) (5:Int)=es1 at hH;have hln1:es1.length≤es0.length+1:=by rw[←hes1,Xac];have:=aU (!dM t.name) (5:Int);omega
 simp only[go_sem,h1,h2,h3,h7,h8,hi];refine bB (Qb l k t.name (by omega) hl) ?_;simp only[go_sem];refine bI (fun ρ' H'=>ρ' 1=.sl (l.map aX)∧ρ' 2=int k∧ρ' 3=.rp (aN n) 0∧ρ' 7=.op i 0 0∧H' i=some (kJ t)∧∃j',ρ' 8=.os j'∧j'≠i∧H' j'=some (cT (es1++opt (mI l k t.name) 6))) ?_ fun K hK=>aA (fun hb=>?_) (fun hb=>?_)
 rotate_left
 ·simp only[go_sem,h1,h2,h3,h7,h8];refine aP hH ⟨rfl,rfl⟩ (by simp only[go_sem]) (by simp only[Xab,Xaa,List.length_nil];omega) (fun j' hj'=>?_);simp only[go_sem];refine hK _ _ ⟨by simp only[go_sem,h1],by simp only[go_sem,h2],by simp only[go_sem,h3],by simp only[go_sem,h7],cF hi hji hj',j',by simp only[go_sem],(bM hi hj').symm,?_⟩;rw[dW (show(mI l k t.name)=true from hb)];exact dL (l':=[6]) rfl
 ·simp only[go_sem];refine hK _ _ ⟨by simp only[go_sem,h1],by simp only[go_sem,h2],by simp only[go_sem,h3],by simp only[go_sem,h7],hi,j,by simp only[go_sem,h8],hji,?_⟩;rw[dV (show(mI l k t.name)=false from hb),Xah,hH]
 clear hH h1 h2 h3 h7 h8;rintro ρ H ⟨h1,h2,h3,h7,hi,j,h8,hji,hH⟩;generalize hes2:es1++opt (mI l k t.name) (6:Int)=es2 at hH;have hln2:es2.length≤es1.length+1:=by rw[←hes2,Xac];have:=aU (mI l k t.name) (6:Int);omega
 simp only[go_sem,h1,h2,h3,h7,h8,hi];refine bB (kH _ _ _) ?_;simp only[go_sem];refine bI (fun ρ' H'=>ρ' 1=.sl (l.map aX)∧ρ' 2=int k∧ρ' 3=.rp (aN n) 0∧ρ' 7=.op i 0 0∧H' i=some (kJ t)∧∃j',ρ' 8=.os j'∧j'≠i∧H' j'=some (cT (es2++opt (!inR t.count 0 10) 22))) ?_ fun K hK=>aA (fun hb=>?_) (fun hb=>?_)
 rotate_left
 ·simp only[go_sem,h1,h2,h3,h7,h8];refine aP hH ⟨rfl,rfl⟩ (by simp only[go_sem]) (by simp only[Xab,Xaa,List.length_nil];omega) (fun j' hj'=>?_);simp only[go_sem];refine hK _ _ ⟨by simp only[go_sem,h1],by simp only[go_sem,h2],by simp only[go_sem,h3],by simp only[go_sem,h7],cF hi hji hj',j',by simp only[go_sem],(bM hi hj').symm,?_⟩;rw[dW (show(!inR t.count 0 10)=true from hb)];exact dL (l':=[22]) rfl
 ·simp only[go_sem];refine hK _ _ ⟨by simp only[go_sem,h1],by simp only[go_sem,h2],by simp only[go_sem,h3],by simp only[go_sem,h7],hi,j,by simp only[go_sem,h8],hji,?_⟩;rw[dV (show(!inR t.count 0 10)=false from hb),Xah,hH]
 clear hH h1 h2 h3 h7 h8;rintro ρ H ⟨h1,h2,h3,h7,hi,j,h8,hji,hH⟩;generalize hes3:es2++opt (!inR t.count 0 10) (22:Int)=es3 at hH;have hln3:es3.length≤es2.length+1:=by rw[←hes3,Xac];have:=aU (!inR t.count 0 10) (22:Int);omega
 simp only[go_sem,h1,h2,h3,h7,h8,hi,lW (show n.places.length≤4611686018427387904 by omega)];refine bB (kH _ _ _) ?_;simp only[go_sem,h1,h2,h3,h7,h8,hi,lW (show n.places.length≤4611686018427387904 by omega)];refine⟨_,fun _=>(kH _ _ _).q rfl,?_⟩;simp only[go_sem,h1,h2,h3,h7,h8,hi];refine bI (fun ρ' H'=>ρ' 1=.sl (l.map aX)∧ρ' 2=int k∧ρ' 3=.rp (aN n) 0∧ρ' 7=.op i 0 0∧H' i=some (kJ t)∧∃j',ρ' 8=.os j'∧j'≠i∧H' j'=some (cT (es3++opt (!inR t.src 0 (n.places.length-1)|| !inR t.dst 0 (n.places.length-1)) 11))) ?_ fun K hK=>aA (fun hb=>?_) (fun hb=>?_)
 rotate_left
 ·simp only[go_sem,h1,h2,h3,h7,h8];refine aP hH ⟨rfl,rfl⟩ (by simp only[go_sem]) (by simp only[Xab,Xaa,List.length_nil];omega) (fun j' hj'=>?_);simp only[go_sem];refine hK _ _ ⟨by simp only[go_sem,h1],by simp only[go_sem,h2],by simp only[go_sem,h3],by simp only[go_sem,h7],cF hi hji hj',j',by simp only[go_sem],(bM hi hj').symm,?_⟩;rw[dW (show(!inR t.src 0 (n.places.length-1)|| !inR t.dst 0 (n.places.length-1))=true from hb)];exact dL (l':=[11]) rfl
 ·simp only[go_sem];refine hK _ _ ⟨by simp only[go_sem,h1],by simp only[go_sem,h2],by simp only[go_sem,h3],by simp only[go_sem,h7],hi,j,by simp only[go_sem,h8],hji,?_⟩;rw[dV (show(!inR t.src 0 (n.places.length-1)|| !inR t.dst 0 (n.places.length-1))=false from hb),Xah,hH]
 clear hH h1 h2 h3 h7 h8;rintro ρ H ⟨h1,h2,h3,h7,hi,j,h8,hji,hH⟩;generalize hes4:es3++opt (!inR t.src 0 (n.places.length-1)|| !inR t.dst 0 (n.places.length-1)) (11:Int)=es4 at hH;have hln4:es4.length≤es3.length+1:=by rw[←hes4,Xac];have:=aU (!inR t.src 0 (n.places.length-1)|| !inR t.dst 0 (n.places.length-1)) (11:Int);omega
 simp only[go_sem,h1,h2,h3,h7,h8,hi];refine lK (by rfl) (by kernel_rfl) ?_;simp only[go_sem,h1,h2,h3,h7,h8,hi];refine⟨_,(NG l).q rfl,?_⟩;simp only[go_sem,h1,h2,h3,h7,h8,hi];refine⟨_,(S8 t.cap (hY l) hst.2).q rfl,?_⟩;simp only[go_sem,h1,h2,h3,h7,h8,hi];refine bI (fun ρ' H'=>ρ' 1=.sl (l.map aX)∧ρ' 2=int k∧ρ' 3=.rp (aN n) 0∧ρ' 7=.op i 0 0∧H' i=some (kJ t)∧∃j',ρ' 8=.os j'∧j'≠i∧H' j'=some (cT (es4++opt (!nY t.cap (hY l)) 17))) ?_ fun K hK=>aA (fun hb=>?_) (fun hb=>?_)
 rotate_left
 ·simp only[go_sem,h1,h2,h3,h7,h8];refine aP hH ⟨rfl,rfl⟩ (by simp only[go_sem]) (by simp only[Xab,Xaa,List.length_nil];omega) (fun j' hj'=>?_);simp only[go_sem];refine hK _ _ ⟨by simp only[go_sem,h1],by simp only[go_sem,h2],by simp only[go_sem,h3],by simp only[go_sem,h7],cF hi hji hj',j',by simp only[go_sem],(bM hi hj').symm,?_⟩;rw[dW (show(!nY t.cap (hY l))=true from hb)];exact dL (l':=[17]) rfl
 ·simp only[go_sem];refine hK _ _ ⟨by simp only[go_sem,h1],by simp only[go_sem,h2],by simp only[go_sem,h3],by simp only[go_sem,h7],hi,j,by simp only[go_sem,h8],hji,?_⟩;rw[dV (show(!nY t.cap (hY l))=false from hb),Xah,hH]
 clear hH h1 h2 h3 h7 h8;rintro ρ H ⟨h1,h2,h3,h7,hi,j,h8,hji,hH⟩;generalize hes5:es4++opt (!nY t.cap (hY l)) (17:Int)=es5 at hH;have hln5:es5.length≤es4.length+1:=by rw[←hes5,Xac];have:=aU (!nY t.cap (hY l)) (17:Int);omega
 simp only[go_sem,h1,h2,h3,h7,h8,hi];refine bB (kH _ _ _) ?_;simp only[go_sem,h1,h2,h3,h7,h8,hi];refine bI (fun ρ' H'=>ρ' 1=.sl (l.map aX)∧ρ' 2=int k∧ρ' 3=.rp (aN n) 0∧ρ' 7=.op i 0 0∧H' i=some (kJ t)∧∃j',ρ' 8=.os j'∧j'≠i∧H' j'=some (cT (es5++opt (!inR t.skills 0 1073741823) 18))) ?_ fun K hK=>aA (fun hb=>?_) (fun hb=>?_)
 rotate_left
 ·simp only[go_sem,h1,h2,h3,h7,h8];refine aP hH ⟨rfl,rfl⟩ (by simp only[go_sem]) (by simp only[Xab,Xaa,List.length_nil];omega) (fun j' hj'=>?_);simp only[go_sem];refine hK _ _ ⟨by simp only[go_sem,h1],by simp only[go_sem,h2],by simp only[go_sem,h3],by simp only[go_sem,h7],cF hi hji hj',j',by simp only[go_sem],(bM hi hj').symm,?_⟩;rw[dW (show(!inR t.skills 0 1073741823)=true from hb)];exact dL (l':=[18]) rfl
 ·simp only[go_sem];refine hK _ _ ⟨by simp only[go_sem,h1],by simp only[go_sem,h2],by simp only[go_sem,h3],by simp only[go_sem,h7],hi,j,by simp only[go_sem,h8],hji,?_⟩;rw[dV (show(!inR t.skills 0 1073741823)=false from hb),Xah,hH]
 clear hH h1 h2 h3 h7 h8;rintro ρ H ⟨h1,h2,h3,h7,hi,j,h8,hji,hH⟩;generalize hes6:es5++opt (!inR t.skills 0 1073741823) (18:Int)=es6 at hH;have hln6:es6.length≤es5.length+1:=by rw[←hes6,Xac];have:=aU (!inR t.skills 0 1073741823) (18:Int);omega
 simp only[go_sem,h1,h2,h3,h7,h8,hi];refine bB (kH _ _ _) ?_;simp only[go_sem,h1,h2,h3,h7,h8,hi];refine bI (fun ρ' H'=>ρ' 1=.sl (l.map aX)∧ρ' 2=int k∧ρ' 3=.rp (aN n) 0∧ρ' 7=.op i 0 0∧H' i=some (kJ t)∧∃j',ρ' 8=.os j'∧j'≠i∧H' j'=some (cT (es6++opt (!inR t.start 0 t.close||decide (t.close>4096)) 15))) ?_ fun K hK=>aA (fun hb=>?_) (fun hb=>?_)
 rotate_left
 ·simp only[go_sem,h1,h2,h3,h7,h8];refine aP hH ⟨rfl,rfl⟩ (by simp only[go_sem]) (by simp only[Xab,Xaa,List.length_nil];omega) (fun j' hj'=>?_);simp only[go_sem];refine hK _ _ ⟨by simp only[go_sem,h1],by simp only[go_sem,h2],by simp only[go_sem,h3],by simp only[go_sem,h7],cF hi hji hj',j',by simp only[go_sem],(bM hi hj').symm,?_⟩;rw[dW (show(!inR t.start 0 t.close||decide (t.close>4096))=true from hb)];exact dL (l':=[15]) rfl
 ·simp only[go_sem];refine hK _ _ ⟨by simp only[go_sem,h1],by simp only[go_sem,h2],by simp only[go_sem,h3],by simp only[go_sem,h7],hi,j,by simp only[go_sem,h8],hji,?_⟩;rw[dV (show(!inR t.start 0 t.close||decide (t.close>4096))=false from hb),Xah,hH]
 clear hH h1 h2 h3 h7 h8;rintro ρ H ⟨h1,h2,h3,h7,hi,j,h8,hji,hH⟩;generalize hes7:es6++opt (!inR t.start 0 t.close||decide (t.close>4096)) (15:Int)=es7 at hH;have hln7:es7.length≤es6.length+1:=by rw[←hes7,Xac];have:=aU (!inR t.start 0 t.close||decide (t.close>4096)) (15:Int);omega
 simp only[go_sem,h1,h2,h3,h7,h8,hi];refine bB (kH _ _ _) ?_;simp only[go_sem,h1,h2,h3,h7,h8,hi];refine⟨_,fun _=>(kH _ _ _).q rfl,?_⟩;simp only[go_sem,h1,h2,h3,h7,h8,hi];refine bI (fun ρ' H'=>ρ' 1=.sl (l.map aX)∧ρ' 2=int k∧ρ' 3=.rp (aN n) 0∧ρ' 7=.op i 0 0∧H' i=some (kJ t)∧∃j',ρ' 8=.os j'∧j'≠i∧H' j'=some (cT (es7++opt (!inR t.drive 1 4096|| !inR t.rest 0 4096) 16))) ?_ fun K hK=>aA (fun hb=>?_) (fun hb=>?_)
 rotate_left
 ·simp only[go_sem,h1,h2,h3,h7,h8];refine aP hH ⟨rfl,rfl⟩ (by simp only[go_sem]) (by simp only[Xab,Xaa,List.length_nil];omega) (fun j' hj'=>?_);simp only[go_sem];refine hK _ _ ⟨by simp only[go_sem,h1],by simp only[go_sem,h2],by simp only[go_sem,h3],by simp only[go_sem,h7],cF hi hji hj',j',by simp only[go_sem],(bM hi hj').symm,?_⟩;rw[dW (show(!inR t.drive 1 4096|| !inR t.rest 0 4096)=true from hb)];exact dL (l':=[16]) rfl
 ·simp only[go_sem];refine hK _ _ ⟨by simp only[go_sem,h1],by simp only[go_sem,h2],by simp only[go_sem,h3],by simp only[go_sem,h7],hi,j,by simp only[go_sem,h8],hji,?_⟩;rw[dV (show(!inR t.drive 1 4096|| !inR t.rest 0 4096)=false from hb),Xah,hH]
 clear hH h1 h2 h3 h7 h8;rintro ρ H ⟨h1,h2,h3,h7,hi,j,h8,hji,hH⟩;generalize hes8:es7++opt (!inR t.drive 1 4096|| !inR t.rest 0 4096) (16:Int)=es8 at hH;have hln8:es8.length≤es7.length+1:=by rw[←hes8,Xac];have:=aU (!inR t.drive 1 4096|| !inR t.rest 0 4096) (16:Int);omega
 simp only[go_sem,h1,h2,h3,h7,h8,hi];refine bB (kH _ _ _) ?_;simp only[go_sem,h1,h2,h3,h7,h8,hi];refine⟨_,fun _=>(kH _ _ _).q rfl,?_⟩;simp only[go_sem,h1,h2,h3,h7,h8,hi];refine⟨_,fun _=>(kH _ _ _).q rfl,?_⟩;simp only[go_sem,h1,h2,h3,h7,h8,hi];refine⟨_,fun _=>(kH _ _ _).q rfl,?_⟩;simp only[go_sem,h1,h2,h3,h7,h8,hi];refine bI (fun ρ' H'=>ρ' 1=.sl (l.map aX)∧ρ' 2=int k∧ρ' 3=.rp (aN n) 0∧ρ' 7=.op i 0 0∧H' i=some (kJ t)∧∃j',ρ' 8=.os j'∧j'≠i∧H' j'=some (cT (es8++opt (!inR t.profile 0 7|| !inR t.fixed 0 100000|| !inR t.perMile 0 100|| !inR t.perTick 0 100) 2))) ?_ fun K hK=>aA (fun hb=>?_) (fun hb=>?_)
 rotate_left
 ·simp only[go_sem,h1,h2,h3,h7,h8];refine aP hH ⟨rfl,rfl⟩ (by simp only[go_sem]) (by simp only[Xab,Xaa,List.length_nil];omega) (fun j' hj'=>?_);simp only[go_sem];refine hK _ _ ⟨by simp only[go_sem,h1],by simp only[go_sem,h2],by simp only[go_sem,h3],by simp only[go_sem,h7],cF hi hji hj',j',by simp only[go_sem],(bM hi hj').symm,?_⟩;rw[dW (show(!inR t.profile 0 7|| !inR t.fixed 0 100000|| !inR t.perMile 0 100|| !inR t.perTick 0 100)=true from hb)];exact dL (l':=[2]) rfl
 ·simp only[go_sem];refine hK _ _ ⟨by simp only[go_sem,h1],by simp only[go_sem,h2],by simp only[go_sem,h3],by simp only[go_sem,h7],hi,j,by simp only[go_sem,h8],hji,?_⟩;rw[dV (show(!inR t.profile 0 7|| !inR t.fixed 0 100000|| !inR t.perMile 0 100|| !inR t.perTick 0 100)=false from hb),Xah,hH]
 clear hH h1 h2 h3 h7 h8;rintro ρ H ⟨h1,h2,h3,h7,hi,j,h8,hji,hH⟩;generalize hes9:es8++opt (!inR t.profile 0 7|| !inR t.fixed 0 100000|| !inR t.perMile 0 100|| !inR t.perTick 0 100) (2:Int)=es9 at hH;have hln9:es9.length≤es8.length+1:=by rw[←hes9,Xac];have:=aU (!inR t.profile 0 7|| !inR t.fixed 0 100000|| !inR t.perMile 0 100|| !inR t.perTick 0 100) (2:Int);omega
 simp only[go_sem,h1,h2,h3,h7,h8,hi];have hall:fW n l k t=es9:=by unfold fW;rw[hes0,hes1,hes2,hes3,hes4,hes5,hes6,hes7,hes8,hes9]
 rw[hall];exact .row _ _ _ hH (ConvE.refl _)
def eE(n:Network)(l:List VType)(k:Nat):List Fault:=(fW n l k (KO l k)).map fun e=>⟨e,cO k⟩
def lE(n:Network)(l:List VType):List Fault:=opt (!inR l.length 1 6) ⟨4,ByteArray.empty⟩++(List.range l.length).flatMap (eE n l)
theorem jI(n:Network)(l:List VType)(k:Nat)(t:VType):(fW n l k t).length≤9:=by
 unfold fW;simp only[Xac,List.length_nil];have h:=fun(b:Bool) (x:Int)=>aU b x
 have h1:=h (!dM t.name) 5;have h2:=h (mI l k t.name) 6;have h3:=h (!inR t.count 0 10) 22;have h4:=h (!inR t.src 0 (n.places.length-1)|| !inR t.dst 0 (n.places.length-1)) 11;have h5:=h (!nY t.cap (hY l)) 17;have h6:=h (!inR t.skills 0 1073741823) 18;have h7:=h (!inR t.start 0 t.close||decide (t.close>4096)) 15;have h8:=h (!inR t.drive 1 4096|| !inR t.rest 0 4096) 16;have h9:=h (!inR t.profile 0 7|| !inR t.fixed 0 100000|| !inR t.perMile 0 100|| !inR t.perTick 0 100) 2;omega
theorem xF{α β:Type}{f:α→β}{l:List α}{k:Nat}{x:α}(h:l[k]?=some x):(l.take (k+1)).map f=(l.take k).map f++[f x]:=by rw[fL h,Xal];rfl
theorem Qd(n:Network)(l:List VType)(hl:l.length≤1048576)(hs:∀t∈l,t.name.size≤1048576∧t.cap.length≤1048576)(hp:n.places.length≤1048576):
  NC prog 91 [.agg (aN n),.sl (l.map aX)] (aJ (lE n l)) .os:=by
 refine ncb (fun t=>t == 5) func91 rfl rfl ?_;simp only[go_sem];refine cN fun j hj=>?_
 simp only[go_sem];refine bB (kH _ _ _) ?_;simp only[go_sem];refine lB (fun ρ' H'=>ρ' 1=.sl (l.map aX)∧ρ' 2=.rp (aN n) 0∧∃j',ρ' 5=.os j'∧H' j'=some (aJ [])) ⟨by simp only[go_sem],by simp only[go_sem],_,by simp only[go_sem],aD _ _ _⟩ ?_;rintro ρ H ⟨h1,h2,j,h5,hH⟩;generalize hes0:([]:List Fault)=es0 at hH;have hln0:es0.length≤0:=by rw[←hes0];exact Xae _
 refine bI (fun ρ' H'=>ρ' 1=.sl (l.map aX)∧ρ' 2=.rp (aN n) 0∧∃j',ρ' 5=.os j'∧H' j'=some (aJ (es0++opt (!inR l.length 1 6) ⟨4,ByteArray.empty⟩))) ?_ fun K hK=>aA (fun hb=>?_) (fun hb=>?_)
 rotate_left
 ·simp only[go_sem,h1,h2,h5];refine aP hH ⟨rfl,rfl⟩ (by simp only[go_sem]) (by simp only[Xab,Xaa,List.length_nil];omega) (fun j' hj'=>?_);simp only[go_sem];refine hK _ _ ⟨by simp only[go_sem,h1],by simp only[go_sem,h2],j',by simp only[go_sem],?_⟩;rw[dW (show(!inR l.length 1 6)=true from hb)];exact cD (l':=[⟨4,ByteArray.empty⟩]) rfl
 ·simp only[go_sem];refine hK _ _ ⟨by simp only[go_sem,h1],by simp only[go_sem,h2],j,by simp only[go_sem,h5],?_⟩;rw[dV (show(!inR l.length 1 6)=false from hb),Xah,hH]
 clear hH h1 h2 h5;rintro ρ H ⟨h1,h2,j,h5,hH⟩;generalize hes1:es0++opt (!inR l.length 1 6) (⟨4,ByteArray.empty⟩:Fault)=es1 at hH;have hln1:es1.length≤es0.length+1:=by rw[←hes1,Xac];have:=aU (!inR l.length 1 6) (⟨4,ByteArray.empty⟩:Fault);omega
 simp only[go_sem,h1,h2];refine⟨fun ρ H=>∃k:Nat,k≤l.length∧ρ 1=.sl (l.map aX)∧ρ 2=.rp (aN n) 0∧ρ 6=int k∧∃j,ρ 5=.os j∧H j=some (aJ (es1++(List.range k).flatMap (eE n l))),fun ρ _=>l.length-bO (ρ 6),⟨0,Xad _,by simp only[go_sem,h1],by simp only[go_sem,h2],by simp only[go_sem];rfl,j,by simp only[go_sem,h5],by simpa using hH⟩,?_⟩;clear hH h1 h2 h5 hj;rintro ρ H ⟨k,hk,h1,h2,h6,j,h5,hH⟩;generalize hes:es1++(List.range k).flatMap (eE n l)=es at hH;have hlen:es.length≤9*k+1:=by have:=cJ (f:=eE n l) (c:=9) (fun x=>by unfold eE;rw[Xab];exact jI _ _ _ _) (List.range k);rw[←hes,Xac];rw[Xau]at this;omega
 simp only[go_sem,h1,h2,h6,h5];refine aA (fun hlt=>?_) (fun hge=>?_)
 ·have hlt:=bD hlt;have hkk:k≤4611686018427387904:=by omega
  have hfl:es1++(List.range (k+1)).flatMap (eE n l)=es++eE n l k:=by rw[cU,←Xar,hes]
  simp only[go_sem,h1,h2,h6];refine bB (NQ n l k hlt hl hs hp) ?_;simp only[go_sem];have hel:=jI n l k (KO l k);have htf:eE n l k=(fW n l k (KO l k)).map fun e=>⟨e,cO k⟩:=rfl
  generalize fW n l k (KO l k)=er at hel htf;refine⟨fun ρ H=>∃m:Nat,m≤er.length∧ρ 1=.sl (l.map aX)∧ρ 2=.rp (aN n) 0∧ρ 6=int k∧ρ 7=.sl (er.map aY)∧ρ 8=int m∧∃j,ρ 5=.os j∧H j=some (aJ (es++(er.take m).map fun e=>⟨e,cO k⟩)),fun ρ _=>er.length-bO (ρ 8),⟨0,Xad _,by simp only[go_sem,h1],by simp only[go_sem,h2],by simp only[go_sem,h6],by simp only[go_sem],by simp only[go_sem];rfl,j,by simp only[go_sem,h5],by simpa using hH⟩,?_⟩;clear hH h1 h2 h5 h6;rintro ρ H ⟨m,hm,h1,h2,h6,h7,h8,j,h5,hH⟩;simp only[go_sem,h1,h2,h6,h5,h7,h8];refine aA (fun hlt2=>?_) (fun hge2=>?_)
  ·have hlt2:=bD hlt2;obtain⟨e,he⟩:=cG hlt2;have b2:=inB hlt2;simp only[go_sem];refine Fl (by kernel_rfl) ?_;simp only[go_sem,h1,h2,h6,h5,h7,h8,b2,aM he];refine⟨_,(nE _ (by omega)).q rfl,?_⟩;simp only[go_sem];refine aP hH ⟨rfl,rfl⟩ (by simp only[go_sem]) (by simp only[Xab,Xac,Xas,Xaa,List.length_nil];omega) (fun j' hj'=>?_);simp only[go_sem,h1,h2,h6,h7,h8,cH m];refine⟨⟨m+1,hlt2,rfl,j',rfl,?_⟩,by simp only[aE];omega⟩;rw[xF he,←Xar];exact cD (l':=[⟨e,cO k⟩]) rfl
  ·have hge2:=bK hm hge2;subst hge2;simp only[go_sem,h1,h2,h6,h5,fM hkk];refine⟨⟨k+1,hlt,rfl,j,rfl,?_⟩,by simp only[aE];omega⟩;rw[hfl,hH,htf,List.take_length]
 ·have hge:=bK hk hge;subst hge;simp only[go_sem,h5];exact⟨_,rfl,by rw[hH,←hes,←hes1,←hes0];rfl⟩
def rI(l:List Order)(k:Nat)(s:ByteArray):Bool:=(l.take k).any fun t=>t.name.toList == s.toList
def fE(P:Nat)(d T:Int)(l:List Order)(k:Nat)(o:Order):List Int:=
 []++opt (!dM o.name) 5++opt (rI l k o.name) 6++opt (!gM o.load d) 17++opt (!inR o.pick.place (-1) ((P:Int)-1)|| !inR o.drop.place (-1) ((P:Int)-1)) 11++opt (o.pick.place == -1&&o.drop.place == -1) 19++opt (dR o.pick != 0||dR o.drop != 0) 14++opt (!inR o.skills 0 1073741823) 18++opt (!inR o.penalty (-1) 1000000|| !inR o.split 1 4||decide (o.split>1)&&(o.pick.place != -1&&o.drop.place != -1)||decide (o.last< -1)||decide (o.last≥T)||decide (o.now< -1)||decide (o.now≥T)) 2
theorem PF(P:Nat)(d T:Int)(l:List Order)(k:Nat)(o:Order)(ho:l[k]?=some o)(hP:P≤1048576)(hl:l.length≤1048576)(hs:∀t∈l,t.name.size≤1048576∧t.load.length≤1048576):
  PC prog 157 [int P,int d,int T,.sl (l.map aB),int k] (.sl ((fE P d T l k o).map aY)):=by
 refine pcb (fun t=>t == 11) func157 rfl rfl ?_;simp only[go_sem];have hk:k<l.length:=by
  rcases Xbc k l.length with h|h
  ·exact h
  ·rw[List.getElem?_eq_none h]at ho;simp at ho
 have b1:=inB hk;have hst:=hs o (aQ ho);refine cN fun j hj=>?_
 simp only[go_sem,b1,aM ho];refine cN fun i hi=>?_
 simp only[go_sem];refine fD (aD _ _ _) (by simp[pZ]) ?_;simp only[go_sem];refine bB (oU _ hst.1) ?_;simp only[go_sem];have hji:j≠i:=bM (aD _ _ _) hi;refine lB (fun ρ' H'=>ρ' 0=int P∧ρ' 1=int d∧ρ' 2=int T∧ρ' 3=.sl (l.map aB)∧ρ' 4=int k∧ρ' 12=.op i 0 0∧H' i=some (jT o)∧∃j',ρ' 11=.os j'∧j'≠i∧H' j'=some (cT []))
  ⟨by simp only[go_sem],by simp only[go_sem],by simp only[go_sem],by simp only[go_sem],by simp only[go_sem],by simp only[go_sem],aD _ _ _,j,by simp only[go_sem],hji,by rw[aK _ _ _ _ hji,aK _ _ _ _ hji,aD];rfl⟩ ?_
 clear hi hj hji;rintro ρ H ⟨h0,h1,h2,h3,h4,h12,hi,j,h11,hji,hH⟩;generalize hes0:([]:List Int)=es0 at hH;have hln0:es0.length≤0:=by rw[←hes0];exact Xae _
 refine bI (fun ρ' H'=>ρ' 0=int P∧ρ' 1=int d∧ρ' 2=int T∧ρ' 3=.sl (l.map aB)∧ρ' 4=int k∧ρ' 12=.op i 0 0∧H' i=some (jT o)∧∃j',ρ' 11=.os j'∧j'≠i∧H' j'=some (cT (es0++opt (!dM o.name) 5))) ?_ fun K hK=>aA (fun hb=>?_) (fun hb=>?_)
 rotate_left
 ·simp only[go_sem,h0,h1,h2,h3,h4,h12,h11];refine aP hH ⟨rfl,rfl⟩ (by simp only[go_sem]) (by simp only[Xab,Xaa,List.length_nil];omega) (fun j' hj'=>?_);simp only[go_sem];refine hK _ _ ⟨by simp only[go_sem,h0],by simp only[go_sem,h1],by simp only[go_sem,h2],by simp only[go_sem,h3],by simp only[go_sem,h4],by simp only[go_sem,h12],cF hi hji hj',j',by simp only[go_sem],(bM hi hj').symm,?_⟩;rw[dW (show(!dM o.name)=true from hb)];exact dL (l':=[5]) rfl
 ·simp only[go_sem];refine hK _ _ ⟨by simp only[go_sem,h0],by simp only[go_sem,h1],by simp only[go_sem,h2],by simp only[go_sem,h3],by simp only[go_sem,h4],by simp only[go_sem,h12],hi,j,by simp only[go_sem,h11],hji,?_⟩;rw[dV (show(!dM o.name)=false from hb),Xah,hH]
 clear hH h0 h1 h2 h3 h4 h12 h11;rintro ρ H ⟨h0,h1,h2,h3,h4,h12,hi,j,h11,hji,hH⟩;generalize hes1:es0++opt (!dM o.name) (5:Int)=es1 at hH;have hln1:es1.length≤es0.length+1:=by rw[←hes1,Xac];have:=aU (!dM o.name) (5:Int);omega
 simp only[go_sem,h0,h1,h2,h3,h4,h12,h11,hi];refine BQ (fun ρ' H'=>ρ' 0=int P∧ρ' 1=int d∧ρ' 2=int T∧ρ' 3=.sl (l.map aB)∧ρ' 4=int k∧ρ' 12=.op i 0 0∧H' i=some (jT o)∧∃j',ρ' 11=.os j'∧j'≠i∧H' j'=some (cT (es1++opt (rI l k o.name) 6))) ?_ fun Q hQ _=>?_
 rotate_left
 ·refine ⟨fun ρ' H' => ∃ m : Nat, m ≤ k ∧ ρ' 0 = int P ∧ ρ' 1 = int d ∧ ρ' 2 = int T ∧ ρ' 3 = .sl (l.map aB) ∧ ρ' 4 = int k ∧ ρ' 12 = .op i 0 0 ∧ ρ' 11 = .os j ∧ ρ' 13 = int m ∧ H' = H ∧ ∀ t ∈ l.take m, (t.name.toList == o.name.toList) = false, fun ρ _ => k - bO (ρ 13),
   ⟨0,Xad _,by simp only[go_sem,h0],by simp only[go_sem,h1],by simp only[go_sem,h2],by simp only[go_sem,h3],by simp only[go_sem,h4],by simp only[go_sem,h12],by simp only[go_sem,h11],by simp only[go_sem];rfl,rfl,by simp⟩,?_⟩
  clear h0 h1 h2 h3 h4 h12 h11;rintro ρ H' ⟨m,hm,h0,h1,h2,h3,h4,h12,h11,h13,rfl,hn⟩;simp only[go_sem,h0,h1,h2,h3,h4,h12,h11,h13];refine aA (fun hlt=>?_) (fun hge=>?_)
  ·have hlt:=bD hlt;obtain⟨t,ht⟩:=cG (show m<l.length by omega);have b2:=inB (show m<l.length by omega);simp only[go_sem];refine lK (by rfl) (by kernel_rfl) ?_;simp only[go_sem,h0,h1,h2,h3,h4,h12,h11,h13,hi,b2,aM ht];refine aA (fun hb=>?_) (fun hb=>?_)
   ·simp only[go_sem,h0,h1,h2,h3,h4,h12,h11,h13];refine aP hH ⟨rfl,rfl⟩ (by simp only[go_sem]) (by simp only[Xab,Xaa,List.length_nil];omega) (fun j' hj'=>?_);simp only[go_sem];refine hQ _ _ ⟨by simp only[go_sem,h0],by simp only[go_sem,h1],by simp only[go_sem,h2],by simp only[go_sem,h3],by simp only[go_sem,h4],by simp only[go_sem,h12],cF hi hji hj',j',by simp only[go_sem],(bM hi hj').symm,?_⟩;rw[dW (show rI l k o.name=true from List.any_eq_true.2 ⟨t,Xbg (i:=m) (by rw[List.getElem?_take];simp[hlt,ht]),hb⟩)];exact dL (l':=[6]) rfl
   ·simp only[go_sem,h0,h1,h2,h3,h4,h12,h11,h13,cH m];exact⟨⟨m+1,hlt,rfl,mE ht hn hb⟩,by simp only[aE];omega⟩
  ·have hge:=bK hm hge;subst hge;simp only[go_sem];refine hQ _ _ ⟨by simp only[go_sem,h0],by simp only[go_sem,h1],by simp only[go_sem,h2],by simp only[go_sem,h3],by simp only[go_sem,h4],by simp only[go_sem,h12],hi,j,by simp only[go_sem,h11],hji,?_⟩;rw[dV (show rI l m o.name=false from List.any_eq_false.2 fun t ht=>by simp[hn t ht]),Xah,hH]
 clear hH h0 h1 h2 h3 h4 h12 h11;rintro ρ H ⟨h0,h1,h2,h3,h4,h12,hi,j,h11,hji,hH⟩;generalize hes2:es1++opt (rI l k o.name) (6:Int)=es2 at hH;have hln2:es2.length≤es1.length+1:=by rw[←hes2,Xac];have:=aU (rI l k o.name) (6:Int);omega
 simp only[go_sem,h0,h1,h2,h3,h4,h12,h11,hi];refine bB (Qj _ _ hst.2) ?_;simp only[go_sem,h0,h1,h2,h3,h4,h12,h11,hi];refine bI (fun ρ' H'=>ρ' 0=int P∧ρ' 1=int d∧ρ' 2=int T∧ρ' 3=.sl (l.map aB)∧ρ' 4=int k∧ρ' 12=.op i 0 0∧H' i=some (jT o)∧∃j',ρ' 11=.os j'∧j'≠i∧H' j'=some (cT (es2++opt (!gM o.load d) 17))) ?_ fun K hK=>aA (fun hb=>?_) (fun hb=>?_)
 rotate_left
 ·simp only[go_sem,h0,h1,h2,h3,h4,h12,h11];refine aP hH ⟨rfl,rfl⟩ (by simp only[go_sem]) (by simp only[Xab,Xaa,List.length_nil];omega) (fun j' hj'=>?_);simp only[go_sem];refine hK _ _ ⟨by simp only[go_sem,h0],by simp only[go_sem,h1],by simp only[go_sem,h2],by simp only[go_sem,h3],by simp only[go_sem,h4],by simp only[go_sem,h12],cF hi hji hj',j',by simp only[go_sem],(bM hi hj').symm,?_⟩;rw[dW (show(!gM o.load d)=true from hb)];exact dL (l':=[17]) rfl
 ·simp only[go_sem];refine hK _ _ ⟨by simp only[go_sem,h0],by simp only[go_sem,h1],by simp only[go_sem,h2],by simp only[go_sem,h3],by simp only[go_sem,h4],by simp only[go_sem,h12],hi,j,by simp only[go_sem,h11],hji,?_⟩;rw[dV (show(!gM o.load d)=false from hb),Xah,hH]
 clear hH h0 h1 h2 h3 h4 h12 h11;rintro ρ H ⟨h0,h1,h2,h3,h4,h12,hi,j,h11,hji,hH⟩;generalize hes3:es2++opt (!gM o.load d) (17:Int)=es3 at hH;have hln3:es3.length≤es2.length+1:=by rw[←hes3,Xac];have:=aU (!gM o.load d) (17:Int);omega
 simp only[go_sem,h0,h1,h2,h3,h4,h12,h11,hi,lW (show P≤4611686018427387904 by omega)];refine bB (Bb _ _ _) ?_;simp only[go_sem,h0,h1,h2,h3,h4,h12,h11,hi,lW (show P≤4611686018427387904 by omega)];refine⟨_,fun _=>(Bb _ _ _).q rfl,?_⟩;simp only[go_sem,h0,h1,h2,h3,h4,h12,h11,hi,lW (show P≤4611686018427387904 by omega)];refine bI (fun ρ' H'=>ρ' 0=int P∧ρ' 1=int d∧ρ' 2=int T∧ρ' 3=.sl (l.map aB)∧ρ' 4=int k∧ρ' 12=.op i 0 0∧H' i=some (jT o)∧∃j',ρ' 11=.os j'∧j'≠i∧H' j'=some (cT (es3++opt (!inR o.pick.place (-1) ((P:Int)-1)|| !inR o.drop.place (-1) ((P:Int)-1)) 11))) ?_ fun K hK=>aA (fun hb=>?_) (fun hb=>?_)
 rotate_left
 ·simp only[go_sem,h0,h1,h2,h3,h4,h12,h11];refine aP hH ⟨rfl,rfl⟩ (by simp only[go_sem]) (by simp only[Xab,Xaa,List.length_nil];omega) (fun j' hj'=>?_);simp only[go_sem];refine hK _ _ ⟨by simp only[go_sem,h0],by simp only[go_sem,h1],by simp only[go_sem,h2],by simp only[go_sem,h3],by simp only[go_sem,h4],by simp only[go_sem,h12],cF hi hji hj',j',by simp only[go_sem],(bM hi hj').symm,?_⟩;rw[dW (show(!inR o.pick.place (-1) ((P:Int)-1)|| !inR o.drop.place (-1) ((P:Int)-1))=true from hb)];exact dL (l':=[11]) rfl
 ·simp only[go_sem];refine hK _ _ ⟨by simp only[go_sem,h0],by simp only[go_sem,h1],by simp only[go_sem,h2],by simp only[go_sem,h3],by simp only[go_sem,h4],by simp only[go_sem,h12],hi,j,by simp only[go_sem,h11],hji,?_⟩;rw[dV (show(!inR o.pick.place (-1) ((P:Int)-1)|| !inR o.drop.place (-1) ((P:Int)-1))=false from hb),Xah,hH]
 clear hH h0 h1 h2 h3 h4 h12 h11;rintro ρ H ⟨h0,h1,h2,h3,h4,h12,hi,j,h11,hji,hH⟩;generalize hes4:es3++opt (!inR o.pick.place (-1) ((P:Int)-1)|| !inR o.drop.place (-1) ((P:Int)-1)) (11:Int)=es4 at hH;have hln4:es4.length≤es3.length+1:=by rw[←hes4,Xac];have:=aU (!inR o.pick.place (-1) ((P:Int)-1)|| !inR o.drop.place (-1) ((P:Int)-1)) (11:Int);omega
 simp only[go_sem,h0,h1,h2,h3,h4,h12,h11,hi];refine bI (fun ρ' H'=>ρ' 0=int P∧ρ' 1=int d∧ρ' 2=int T∧ρ' 3=.sl (l.map aB)∧ρ' 4=int k∧ρ' 12=.op i 0 0∧H' i=some (jT o)∧∃j',ρ' 11=.os j'∧j'≠i∧H' j'=some (cT (es4++opt (o.pick.place == -1&&o.drop.place == -1) 19))) ?_ fun K hK=>aA (fun hb=>?_) (fun hb=>?_)
 rotate_left
 ·simp only[go_sem,h0,h1,h2,h3,h4,h12,h11];refine aP hH ⟨rfl,rfl⟩ (by simp only[go_sem]) (by simp only[Xab,Xaa,List.length_nil];omega) (fun j' hj'=>?_);simp only[go_sem];refine hK _ _ ⟨by simp only[go_sem,h0],by simp only[go_sem,h1],by simp only[go_sem,h2],by simp only[go_sem,h3],by simp only[go_sem,h4],by simp only[go_sem,h12],cF hi hji hj',j',by simp only[go_sem],(bM hi hj').symm,?_⟩;rw[dW (show(o.pick.place == -1&&o.drop.place == -1)=true from hb)];exact dL (l':=[19]) rfl
 ·simp only[go_sem];refine hK _ _ ⟨by simp only[go_sem,h0],by simp only[go_sem,h1],by simp only[go_sem,h2],by simp only[go_sem,h3],by simp only[go_sem,h4],by simp only[go_sem,h12],hi,j,by simp only[go_sem,h11],hji,?_⟩;rw[dV (show(o.pick.place == -1&&o.drop.place == -1)=false from hb),Xah,hH]
 clear hH h0 h1 h2 h3 h4 h12 h11;rintro ρ H ⟨h0,h1,h2,h3,h4,h12,hi,j,h11,hji,hH⟩;generalize hes5:es4++opt (o.pick.place == -1&&o.drop.place == -1) (19:Int)=es5 at hH;have hln5:es5.length≤es4.length+1:=by rw[←hes5,Xac];have:=aU (o.pick.place == -1&&o.drop.place == -1) (19:Int);omega
 simp only[go_sem,h0,h1,h2,h3,h4,h12,h11,hi];refine bB (Gi _) ?_;simp only[go_sem,h0,h1,h2,h3,h4,h12,h11,hi];refine⟨_,fun _=>(Gi _).q rfl,?_⟩;simp only[go_sem,h0,h1,h2,h3,h4,h12,h11,hi];refine bI (fun ρ' H'=>ρ' 0=int P∧ρ' 1=int d∧ρ' 2=int T∧ρ' 3=.sl (l.map aB)∧ρ' 4=int k∧ρ' 12=.op i 0 0∧H' i=some (jT o)∧∃j',ρ' 11=.os j'∧j'≠i∧H' j'=some (cT (es5++opt (dR o.pick != 0||dR o.drop != 0) 14))) ?_ fun K hK=>aA (fun hb=>?_) (fun hb=>?_)
 rotate_left
 ·simp only[go_sem,h0,h1,h2,h3,h4,h12,h11];refine aP hH ⟨rfl,rfl⟩ (by simp only[go_sem]) (by simp only[Xab,Xaa,List.length_nil];omega) (fun j' hj'=>?_);simp only[go_sem];refine hK _ _ ⟨by simp only[go_sem,h0],by simp only[go_sem,h1],by simp only[go_sem,h2],by simp only[go_sem,h3],by simp only[go_sem,h4],by simp only[go_sem,h12],cF hi hji hj',j',by simp only[go_sem],(bM hi hj').symm,?_⟩;rw[dW (show(dR o.pick != 0||dR o.drop != 0)=true from hb)];exact dL (l':=[14]) rfl
 ·simp only[go_sem];refine hK _ _ ⟨by simp only[go_sem,h0],by simp only[go_sem,h1],by simp only[go_sem,h2],by simp only[go_sem,h3],by simp only[go_sem,h4],by simp only[go_sem,h12],hi,j,by simp only[go_sem,h11],hji,?_⟩;rw[dV (show(dR o.pick != 0||dR o.drop != 0)=false from hb),Xah,hH]
 clear hH h0 h1 h2 h3 h4 h12 h11;rintro ρ H ⟨h0,h1,h2,h3,h4,h12,hi,j,h11,hji,hH⟩;generalize hes6:es5++opt (dR o.pick != 0||dR o.drop != 0) (14:Int)=es6 at hH;have hln6:es6.length≤es5.length+1:=by rw[←hes6,Xac];have:=aU (dR o.pick != 0||dR o.drop != 0) (14:Int);omega
 simp only[go_sem,h0,h1,h2,h3,h4,h12,h11,hi];refine bB (Bb _ _ _) ?_;simp only[go_sem,h0,h1,h2,h3,h4,h12,h11,hi,lW (show P≤4611686018427387904 by omega)];refine bI (fun ρ' H'=>ρ' 0=int P∧ρ' 1=int d∧ρ' 2=int T∧ρ' 3=.sl (l.map aB)∧ρ' 4=int k∧ρ' 12=.op i 0 0∧H' i=some (jT o)∧∃j',ρ' 11=.os j'∧j'≠i∧H' j'=some (cT (es6++opt (!inR o.skills 0 1073741823) 18))) ?_ fun K hK=>aA (fun hb=>?_) (fun hb=>?_)
 rotate_left
 ·simp only[go_sem,h0,h1,h2,h3,h4,h12,h11];refine aP hH ⟨rfl,rfl⟩ (by simp only[go_sem]) (by simp only[Xab,Xaa,List.length_nil];omega) (fun j' hj'=>?_);simp only[go_sem];refine hK _ _ ⟨by simp only[go_sem,h0],by simp only[go_sem,h1],by simp only[go_sem,h2],by simp only[go_sem,h3],by simp only[go_sem,h4],by simp only[go_sem,h12],cF hi hji hj',j',by simp only[go_sem],(bM hi hj').symm,?_⟩;rw[dW (show(!inR o.skills 0 1073741823)=true from hb)];exact dL (l':=[18]) rfl
 ·simp only[go_sem];refine hK _ _ ⟨by simp only[go_sem,h0],by simp only[go_sem,h1],by simp only[go_sem,h2],by simp only[go_sem,h3],by simp only[go_sem,h4],by simp only[go_sem,h12],hi,j,by simp only[go_sem,h11],hji,?_⟩;rw[dV (show(!inR o.skills 0 1073741823)=false from hb),Xah,hH]
 clear hH h0 h1 h2 h3 h4 h12 h11;rintro ρ H ⟨h0,h1,h2,h3,h4,h12,hi,j,h11,hji,hH⟩;generalize hes7:es6++opt (!inR o.skills 0 1073741823) (18:Int)=es7 at hH;have hln7:es7.length≤es6.length+1:=by rw[←hes7,Xac];have:=aU (!inR o.skills 0 1073741823) (18:Int);omega
 simp only[go_sem,h0,h1,h2,h3,h4,h12,h11,hi];refine bB (Bb _ _ _) ?_;simp only[go_sem,h0,h1,h2,h3,h4,h12,h11,hi,lW (show P≤4611686018427387904 by omega)];refine⟨_,fun _=>(Bb _ _ _).q rfl,?_⟩;simp only[go_sem,h0,h1,h2,h3,h4,h12,h11,hi,lW (show P≤4611686018427387904 by omega)];refine bI (fun ρ' H'=>ρ' 0=int P∧ρ' 1=int d∧ρ' 2=int T∧ρ' 3=.sl (l.map aB)∧ρ' 4=int k∧ρ' 12=.op i 0 0∧H' i=some (jT o)∧∃j',ρ' 11=.os j'∧j'≠i∧H' j'=some (cT (es7++opt (!inR o.penalty (-1) 1000000|| !inR o.split 1 4||decide (o.split>1)&&(o.pick.place != -1&&o.drop.place != -1)||decide (o.last< -1)||decide (o.last≥T)||decide (o.now< -1)||decide (o.now≥T)) 2))) ?_ fun K hK=>aA (fun hb=>?_) (fun hb=>?_)
 rotate_left
 ·simp only[go_sem,h0,h1,h2,h3,h4,h12,h11];refine aP hH ⟨rfl,rfl⟩ (by simp only[go_sem]) (by simp only[Xab,Xaa,List.length_nil];omega) (fun j' hj'=>?_);simp only[go_sem];refine hK _ _ ⟨by simp only[go_sem,h0],by simp only[go_sem,h1],by simp only[go_sem,h2],by simp only[go_sem,h3],by simp only[go_sem,h4],by simp only[go_sem,h12],cF hi hji hj',j',by simp only[go_sem],(bM hi hj').symm,?_⟩;rw[dW (show(!inR o.penalty (-1) 1000000|| !inR o.split 1 4||decide (o.split>1)&&(o.pick.place != -1&&o.drop.place != -1)||decide (o.last< -1)||decide (o.last≥T)||decide (o.now< -1)||decide (o.now≥T))=true from hb)];exact dL (l':=[2]) rfl
 ·simp only[go_sem];refine hK _ _ ⟨by simp only[go_sem,h0],by simp only[go_sem,h1],by simp only[go_sem,h2],by simp only[go_sem,h3],by simp only[go_sem,h4],by simp only[go_sem,h12],hi,j,by simp only[go_sem,h11],hji,?_⟩;rw[dV (show(!inR o.penalty (-1) 1000000|| !inR o.split 1 4||decide (o.split>1)&&(o.pick.place != -1&&o.drop.place != -1)||decide (o.last< -1)||decide (o.last≥T)||decide (o.now< -1)||decide (o.now≥T))=false from hb),Xah,hH]
 clear hH h0 h1 h2 h3 h4 h12 h11;rintro ρ H ⟨h0,h1,h2,h3,h4,h12,hi,j,h11,hji,hH⟩;generalize hes8:es7++opt (!inR o.penalty (-1) 1000000|| !inR o.split 1 4||decide (o.split>1)&&(o.pick.place != -1&&o.drop.place != -1)||decide (o.last< -1)||decide (o.last≥T)||decide (o.now< -1)||decide (o.now≥T)) (2:Int)=es8 at hH;have hln8:es8.length≤es7.length+1:=by rw[←hes8,Xac];have:=aU (!inR o.penalty (-1) 1000000|| !inR o.split 1 4||decide (o.split>1)&&(o.pick.place != -1&&o.drop.place != -1)||decide (o.last< -1)||decide (o.last≥T)||decide (o.now< -1)||decide (o.now≥T)) (2:Int);omega
 simp only[go_sem,h0,h1,h2,h3,h4,h12,h11,hi];have hall:fE P d T l k o=es8:=by unfold fE;rw[hes0,hes1,hes2,hes3,hes4,hes5,hes6,hes7,hes8]
 rw[hall];exact .row _ _ _ hH (ConvE.refl _)
def dT(w:ByteArray)(f:Fault):Fault:=⟨f.err,match f.at_.toList == (⟨#[]⟩:ByteArray).toList with|true=>w|false=>w++⟨#[32]⟩++f.at_⟩
theorem mR(w:ByteArray)(l:List Fault)(hw:w.size≤1048576)(hl:l.length≤5000000000000)(hs:∀f∈l,f.at_.size≤268435456):
  NC prog 89 [str w,.sl (l.map cE)] (aJ (l.map (dT w))) .os:=by
 refine ncb (fun t=>t == 5) func89 rfl rfl ?_;simp only[go_sem];refine cN fun j hj=>?_
 simp only[go_sem];refine⟨fun ρ H=>∃k:Nat,k≤l.length∧ρ 0=str w∧ρ 1=.sl (l.map cE)∧ρ 6=int k∧∃j,ρ 5=.os j∧H j=some (aJ ((l.take k).map (dT w))),fun ρ _=>l.length-bO (ρ 6),⟨0,Xad _,rfl,rfl,rfl,j,rfl,aD _ _ _⟩,?_⟩;clear hj;rintro ρ H ⟨k,hk,h0,h1,h6,j,h5,hH⟩;simp only[go_sem,h0,h1,h6,h5];refine aA (fun hlt=>?_) (fun hge=>?_)
 ·have hlt:=bD hlt;obtain⟨f,hf⟩:=cG hlt;have b1:=inB hlt;have hfs:=hs f (aQ hf);simp only[go_sem,h0,h1,h6,b1,aM hf];refine bI (fun ρ' H'=>ρ' 0=str w∧ρ' 1=.sl (l.map cE)∧ρ' 6=int k∧ρ' 5=.os j∧ρ' 7=str (dT w f).at_∧H'=H) ?_ fun K hK=>aA (fun hb=>?_) (fun hb=>?_)
  ·clear h0 h1 h6 h5;rintro ρ H ⟨h0,h1,h6,h5,h7,rfl⟩;simp only[go_sem,h0,h1,h6,h5,h7,b1,aM hf];refine aP hH ⟨rfl,rfl⟩ (by simp only[go_sem]) (by simp only[Xab,Xas,Xaa,List.length_nil];omega) (fun j' hj'=>?_);simp only[go_sem,h0,h1,h6,cH k];refine⟨⟨k+1,hlt,rfl,j',rfl,?_⟩,by simp only[aE];omega⟩;rw[xF hf];exact cD (l':=[dT w f]) rfl
  ·simp only[go_sem,h0,h1,h6,b1,aM hf];have h32:(#[32]:Array UInt8).size=1:=rfl;refine⟨by rw[bA];omega,by rw[bA];omega,hK _ _ ⟨by simp only[go_sem,h0],by simp only[go_sem,h1],by simp only[go_sem,h6],by simp only[go_sem,h5],?_,rfl⟩⟩;have hc:(f.at_.toList == (⟨#[]⟩:ByteArray).toList)=false:=by have:=hb;revert this;cases(f.at_.toList == (⟨#[]⟩:ByteArray).toList) <;> simp
   simp only[go_sem,dT,hc]
  ·simp only[go_sem];refine hK _ _ ⟨by simp only[go_sem,h0],by simp only[go_sem,h1],by simp only[go_sem,h6],by simp only[go_sem,h5],?_,rfl⟩;have hc:(f.at_.toList == (⟨#[]⟩:ByteArray).toList)=true:=by have:=hb;revert this;cases(f.at_.toList == (⟨#[]⟩:ByteArray).toList) <;> simp
   simp only[go_sem,dT,hc]
 ·have hge:=bK hk hge;subst hge;simp only[go_sem,h5];exact⟨_,rfl,by rw[hH,List.take_length]⟩
def Na(l:List Order)(i:Nat):Order:=l.getD i ⟨ByteArray.empty,[],⟨0,0,0,0⟩,⟨0,0,0,0⟩,0,0,0,0,0,false⟩
theorem I6{l:List Order}{k:Nat}{p:Order}(h:l[k]?=some p):Na l k=p:=by simp[Na,List.getD,h]
def dS(n:Network)(d T:Int)(l:List Order)(k:Nat):List Fault:=(fE n.places.length d T l k (Na l k)).map fun e=>⟨e,cO k⟩
def jY(n:Network)(d T:Int)(l:List Order):List Fault:=opt (decide ((l.length:Int)>10)) ⟨4,ByteArray.empty⟩++(List.range l.length).flatMap (dS n d T l)
theorem iM(P:Nat)(d T:Int)(l:List Order)(k:Nat)(o:Order):(fE P d T l k o).length≤9:=by
 unfold fE;simp only[Xac,List.length_nil];have h:=fun(b:Bool) (x:Int)=>aU b x
 have h1:=h (!dM o.name) 5;have h2:=h (rI l k o.name) 6;have h3:=h (!gM o.load d) 17;have h4:=h (!inR o.pick.place (-1) ((P:Int)-1)|| !inR o.drop.place (-1) ((P:Int)-1)) 11;have h5:=h (o.pick.place == -1&&o.drop.place == -1) 19;have h6:=h (dR o.pick != 0||dR o.drop != 0) 14;have h7:=h (!inR o.skills 0 1073741823) 18;have h8:=h (!inR o.penalty (-1) 1000000|| !inR o.split 1 4||decide (o.split>1)&&(o.pick.place != -1&&o.drop.place != -1)||decide (o.last< -1)||decide (o.last≥T)||decide (o.now< -1)||decide (o.now≥T)) 2;omega
theorem N5(n:Network)(d T:Int)(l:List Order)(hl:l.length≤1048576)(hs:∀t∈l,t.name.size≤1048576∧t.load.length≤1048576)(hp:n.places.length≤1048576):
  NC prog 92 [.agg (aN n),int d,int T,.sl (l.map aB)] (aJ (jY n d T l)) .os:=by
 refine ncb (fun t=>t == 9) func92 rfl rfl ?_;simp only[go_sem];refine cN fun j hj=>?_
 simp only[go_sem];refine lB (fun ρ' H'=>ρ' 1=int d∧ρ' 2=int T∧ρ' 3=.sl (l.map aB)∧ρ' 4=.rp (aN n) 0∧∃j',ρ' 9=.os j'∧H' j'=some (aJ [])) ⟨by simp only[go_sem],by simp only[go_sem],by simp only[go_sem],by simp only[go_sem],_,by simp only[go_sem],aD _ _ _⟩ ?_;rintro ρ H ⟨h1,h2,h3,h4,j,h9,hH⟩;generalize hes0:([]:List Fault)=es0 at hH;have hln0:es0.length≤0:=by rw[←hes0];exact Xae _
 refine bI (fun ρ' H'=>ρ' 1=int d∧ρ' 2=int T∧ρ' 3=.sl (l.map aB)∧ρ' 4=.rp (aN n) 0∧∃j',ρ' 9=.os j'∧H' j'=some (aJ (es0++opt (decide ((l.length:Int)>10)) ⟨4,ByteArray.empty⟩))) ?_ fun K hK=>aA (fun hb=>?_) (fun hb=>?_)
 rotate_left
 ·simp only[go_sem,h1,h2,h3,h4,h9];refine aP hH ⟨rfl,rfl⟩ (by simp only[go_sem]) (by simp only[Xab,Xaa,List.length_nil];omega) (fun j' hj'=>?_);simp only[go_sem];refine hK _ _ ⟨by simp only[go_sem,h1],by simp only[go_sem,h2],by simp only[go_sem,h3],by simp only[go_sem,h4],j',by simp only[go_sem],?_⟩;rw[dW (show(decide ((l.length:Int)>10))=true from hb)];exact cD (l':=[⟨4,ByteArray.empty⟩]) rfl
 ·simp only[go_sem];refine hK _ _ ⟨by simp only[go_sem,h1],by simp only[go_sem,h2],by simp only[go_sem,h3],by simp only[go_sem,h4],j,by simp only[go_sem,h9],?_⟩;rw[dV (show(decide ((l.length:Int)>10))=false from hb),Xah,hH]
 clear hH h1 h2 h3 h4 h9;rintro ρ H ⟨h1,h2,h3,h4,j,h9,hH⟩;generalize hes1:es0++opt (decide ((l.length:Int)>10)) (⟨4,ByteArray.empty⟩:Fault)=es1 at hH;have hln1:es1.length≤es0.length+1:=by rw[←hes1,Xac];have:=aU (decide ((l.length:Int)>10)) (⟨4,ByteArray.empty⟩:Fault);omega
 simp only[go_sem,h1,h2,h3,h4];refine⟨fun ρ H=>∃k:Nat,k≤l.length∧ρ 1=int d∧ρ 2=int T∧ρ 3=.sl (l.map aB)∧ρ 4=.rp (aN n) 0∧ρ 10=int k∧∃j,ρ 9=.os j∧H j=some (aJ (es1++(List.range k).flatMap (dS n d T l))),fun ρ _=>l.length-bO (ρ 10),⟨0,Xad _,by simp only[go_sem,h1],by simp only[go_sem,h2],by simp only[go_sem,h3],by simp only[go_sem,h4],by simp only[go_sem];rfl,j,by simp only[go_sem,h9],by simpa using hH⟩,?_⟩;clear hH h1 h2 h3 h4 h9 hj;rintro ρ H ⟨k,hk,h1,h2,h3,h4,h10,j,h9,hH⟩;generalize hes:es1++(List.range k).flatMap (dS n d T l)=es at hH;have hlen:es.length≤9*k+1:=by have:=cJ (f:=dS n d T l) (c:=9) (fun x=>by unfold dS;rw[Xab];exact iM _ _ _ _ _ _) (List.range k);rw[←hes,Xac];rw[Xau]at this;omega
 simp only[go_sem,h1,h2,h3,h4,h10,h9];refine aA (fun hlt=>?_) (fun hge=>?_)
 ·have hlt:=bD hlt;have hkk:k≤4611686018427387904:=by omega
  have hfl:es1++(List.range (k+1)).flatMap (dS n d T l)=es++dS n d T l k:=by rw[cU,←Xar,hes]
  simp only[go_sem,h1,h2,h3,h4,h10];obtain⟨o,ho⟩:=cG hlt;rw[←I6 ho]at ho;refine bB (PF n.places.length d T l k _ ho hp hl hs) ?_;simp only[go_sem];have hel:=iM n.places.length d T l k (Na l k);have htf:dS n d T l k=(fE n.places.length d T l k (Na l k)).map fun e=>⟨e,cO k⟩:=rfl
  generalize fE n.places.length d T l k (Na l k)=er at hel htf;refine⟨fun ρ H=>∃m:Nat,m≤er.length∧ρ 1=int d∧ρ 2=int T∧ρ 3=.sl (l.map aB)∧ρ 4=.rp (aN n) 0∧ρ 10=int k∧ρ 11=.sl (er.map aY)∧ρ 12=int m∧∃j,ρ 9=.os j∧H j=some (aJ (es++(er.take m).map fun e=>⟨e,cO k⟩)),fun ρ _=>er.length-bO (ρ 12),⟨0,Xad _,by simp only[go_sem,h1],by simp only[go_sem,h2],by simp only[go_sem,h3],by simp only[go_sem,h4],by simp only[go_sem,h10],by simp only[go_sem],by simp only[go_sem];rfl,j,by simp only[go_sem,h9],by simpa using hH⟩,?_⟩;clear hH h1 h2 h3 h4 h9 h10;rintro ρ H ⟨m,hm,h1,h2,h3,h4,h10,h11,h12,j,h9,hH⟩;simp only[go_sem,h1,h2,h3,h4,h10,h9,h11,h12];refine aA (fun hlt2=>?_) (fun hge2=>?_)
  ·have hlt2:=bD hlt2;obtain⟨e,he⟩:=cG hlt2;have b2:=inB hlt2;simp only[go_sem];refine Fl (by kernel_rfl) ?_;simp only[go_sem,h1,h2,h3,h4,h10,h9,h11,h12,b2,aM he];refine⟨_,(nE _ (by omega)).q rfl,?_⟩;simp only[go_sem];refine aP hH ⟨rfl,rfl⟩ (by simp only[go_sem]) (by simp only[Xab,Xac,Xas,Xaa,List.length_nil];omega) (fun j' hj'=>?_);simp only[go_sem,h1,h2,h3,h4,h10,h11,h12,cH m];refine⟨⟨m+1,hlt2,rfl,j',rfl,?_⟩,by simp only[aE];omega⟩;rw[xF he,←Xar];exact cD (l':=[⟨e,cO k⟩]) rfl
  ·have hge2:=bK hm hge2;subst hge2;simp only[go_sem,h1,h2,h3,h4,h10,h9,fM hkk];refine⟨⟨k+1,hlt,rfl,j,rfl,?_⟩,by simp only[aE];omega⟩;rw[hfl,hH,htf,List.take_length]
 ·have hge:=bK hk hge;subst hge;simp only[go_sem,h9];exact⟨_,rfl,by rw[hH,←hes,←hes1,←hes0];rfl⟩
def pAt(l:List Pair)(i:Nat):Pair:=l.getD i ⟨0,0⟩
theorem tH{l:List Pair}{k:Nat}{p:Pair}(h:l[k]?=some p):pAt l k=p:=by simp[pAt,List.getD,h]
def nP(w:ByteArray)(k:Nat):ByteArray:=w++⟨#[32]⟩++cO k
def rJ(N:Int)(p:Pair):Bool:=decide (p.a<0)||decide (p.a≥N)||decide (p.b<0)||decide (p.b≥N)||p.a == p.b
def gY(b:Bool)(p q:Pair):Bool:=(q.a == p.a&&q.b == p.b)||(b&&q.a == p.b&&q.b == p.a)
def dB(N:Int)(l:List Pair)(w:ByteArray)(b:Bool)(k:Nat):List Fault:=match rJ N (pAt l k)with
 | true=>[⟨2,nP w k⟩]
 | false=>opt ((l.take k).any (gY b (pAt l k))) ⟨6,nP w k⟩
theorem kN(N:Int)(l:List Pair)(w:ByteArray)(b:Bool)(k:Nat):(dB N l w b k).length≤1:=by
 unfold dB;split
 ·simp
 ·exact aU _ _
def mJ(N:Int)(l:List Pair)(w:ByteArray)(b:Bool):List Fault:=opt (decide ((l.length:Int)>16)) ⟨4,w⟩++(List.range l.length).flatMap (dB N l w b)
theorem GV(N:Int)(l:List Pair)(w:ByteArray)(b:Bool)(hl:l.length≤1048576)(hw:w.size≤1048576):
  NC prog 158 [int N,.sl (l.map bP),str w,boo b] (aJ (mJ N l w b)) .os:=by
 refine ncb (fun t=>t == 9) func158 rfl rfl ?_;simp only[go_sem];refine cN fun j hj=>?_
 simp only[go_sem];refine lB (fun ρ' H'=>ρ' 0=int N∧ρ' 1=.sl (l.map bP)∧ρ' 2=str w∧ρ' 3=boo b∧∃j',ρ' 9=.os j'∧H' j'=some (aJ [])) ⟨by simp only[go_sem],by simp only[go_sem],by simp only[go_sem],by simp only[go_sem],_,by simp only[go_sem],aD _ _ _⟩ ?_;rintro ρ H ⟨h0,h1,h2,h3,j,h9,hH⟩;generalize hes0:([]:List Fault)=es0 at hH;have hln0:es0.length≤0:=by rw[←hes0];exact Xae _
 refine bI (fun ρ' H'=>ρ' 0=int N∧ρ' 1=.sl (l.map bP)∧ρ' 2=str w∧ρ' 3=boo b∧∃j',ρ' 9=.os j'∧H' j'=some (aJ (es0++opt (decide ((l.length:Int)>16)) ⟨4,w⟩))) ?_ fun K hK=>aA (fun hb=>?_) (fun hb=>?_)
 rotate_left
 ·simp only[go_sem,h0,h1,h2,h3,h9];refine aP hH ⟨rfl,rfl⟩ (by simp only[go_sem]) (by simp only[Xab,Xaa,List.length_nil];omega) (fun j' hj'=>?_);simp only[go_sem];refine hK _ _ ⟨by simp only[go_sem,h0],by simp only[go_sem,h1],by simp only[go_sem,h2],by simp only[go_sem,h3],j',by simp only[go_sem],?_⟩;rw[dW (show(decide ((l.length:Int)>16))=true from hb)];exact cD (l':=[⟨4,w⟩]) rfl
 ·simp only[go_sem];refine hK _ _ ⟨by simp only[go_sem,h0],by simp only[go_sem,h1],by simp only[go_sem,h2],by simp only[go_sem,h3],j,by simp only[go_sem,h9],?_⟩;rw[dV (show(decide ((l.length:Int)>16))=false from hb),Xah,hH]
 clear hH h0 h1 h2 h3 h9;rintro ρ H ⟨h0,h1,h2,h3,j,h9,hH⟩;generalize hes1:es0++opt (decide ((l.length:Int)>16)) (⟨4,w⟩:Fault)=es1 at hH;have hln1:es1.length≤es0.length+1:=by rw[←hes1,Xac];have:=aU (decide ((l.length:Int)>16)) (⟨4,w⟩:Fault);omega
 simp only[go_sem,h0,h1,h2,h3,h9];refine⟨fun ρ H=>∃k:Nat,k≤l.length∧ρ 0=int N∧ρ 1=.sl (l.map bP)∧ρ 2=str w∧ρ 3=boo b∧ρ 10=int k∧∃j,ρ 9=.os j∧H j=some (aJ (es1++(List.range k).flatMap (dB N l w b))),fun ρ _=>l.length-bO (ρ 10),
  ⟨0,Xad _,by simp only[go_sem,h0],by simp only[go_sem,h1],by simp only[go_sem,h2],by simp only[go_sem,h3],by simp only[go_sem];rfl,j,by simp only[go_sem,h9],by simpa using hH⟩,?_⟩
 clear hH h0 h1 h2 h3 h9 hj;rintro ρ H ⟨k,hk,h0,h1,h2,h3,h10,j,h9,hH⟩;generalize hes:es1++(List.range k).flatMap (dB N l w b)=es at hH;have hlen:es.length≤k+1:=by have:=cJ (kN N l w b) (List.range k);rw[←hes,Xac];rw[Xau]at this;omega
 simp only[go_sem,h0,h1,h2,h3,h9,h10];refine aA (fun hlt=>?_) (fun hge=>?_)
 ·have hlt:=bD hlt;have hkk:k≤4611686018427387904:=by omega
  obtain⟨p,hp⟩:=cG hlt;have b1:=inB hlt;have hds:=gG k;have h32:(#[32]:Array UInt8).size=1:=rfl;have hfl:es1++(List.range (k+1)).flatMap (dB N l w b)=es++dB N l w b k:=by rw[cU,←Xar,hes]
  simp only[go_sem,h0,h1,h2,h3,h9,h10,b1,aM hp];refine⟨by omega,by omega,by rw[bA];omega,?_⟩;refine bB (Rn _ (by omega)) ?_;simp only[go_sem,h0,h1,h2,h3,h9,h10];refine⟨by rw[bA];omega,?_⟩;refine aA (fun hb=>?_) (fun hb=>?_)
  ·simp only[go_sem,h0,h1,h2,h3,h9,h10];refine aP hH ⟨rfl,rfl⟩ (by simp only[go_sem]) (by simp only[Xab,Xaa,List.length_nil];omega) (fun j' hj'=>?_);simp only[go_sem,h0,h1,h2,h3,h10,fM hkk];refine⟨⟨k+1,hlt,rfl,j',rfl,?_⟩,by simp only[aE];omega⟩;have hn:rJ N (pAt l k)=true:=by rw[tH hp];exact hb
   rw[hfl,dB,hn];exact cD (l':=[⟨2,nP w k⟩]) rfl
  ·simp only[go_sem,h0,h1,h2,h3,h9,h10];have hn:rJ N (pAt l k)=false:=by rw[tH hp];exact hb
   refine⟨fun ρ H'=>∃m:Nat,m≤k∧ρ 0=int N∧ρ 1=.sl (l.map bP)∧ρ 2=str w∧ρ 3=boo b∧ρ 9=.os j∧ρ 10=int k∧ρ 11=int p.a∧ρ 12=int p.b∧ρ 13=str (nP w k)∧ρ 14=boo ((l.take m).any (gY b p))∧ρ 15=int m∧H'=H,fun ρ _=>k-bO (ρ 15),
    ⟨0,Xad _,by simp only[go_sem,h0],by simp only[go_sem,h1],by simp only[go_sem,h2],by simp only[go_sem,h3],by simp only[go_sem,h9],by simp only[go_sem,h10],by simp only[go_sem],by simp only[go_sem],by simp only[go_sem];rfl,by simp only[go_sem];rfl,by simp only[go_sem];rfl,rfl⟩,?_⟩
   clear h0 h1 h2 h3 h9 h10;rintro ρ H' ⟨m,hm,h0,h1,h2,h3,h9,h10,h11,h12,h13,h14,h15,rfl⟩;simp only[go_sem,h0,h1,h2,h3,h9,h10,h11,h12,h13,h14,h15];refine aA (fun hlt2=>?_) (fun hge2=>?_)
   ·have hlt2:=bD hlt2;obtain⟨q,hq⟩:=cG (show m<l.length by omega);have b2:=inB (show m<l.length by omega);simp only[go_sem,h0,h1,h2,h3,h9,h10,h11,h12,h13,h14,h15,b2,aM hq,cH m];refine⟨fun _=>by omega,fun _=>by omega,fun _=>by omega,fun _=>by omega,⟨m+1,hlt2,?_,rfl⟩,by simp only[aE];omega⟩;rw[Ar hq];simp only[gY,Bool.or_assoc]
   ·have hge2:=bK hm hge2;subst hge2;simp only[go_sem,h14];have hsb:(l.take m).any (gY b (pAt l m))=(l.take m).any (gY b p):=by rw[tH hp]
    refine eR (fun ρ' H'=>ρ' 0=int N∧ρ' 1=.sl (l.map bP)∧ρ' 2=str w∧ρ' 3=boo b∧ρ' 10=int m∧∃j,ρ' 9=.os j∧H' j=some (aJ (es1++(List.range (m+1)).flatMap (dB N l w b)))) ?_ fun K hK _ _=>aA (fun hb=>?_) (fun hb=>?_)
    ·clear hH h0 h1 h2 h3 h9 h10;rintro ρ H ⟨h0,h1,h2,h3,h10,j,h9,hH⟩;simp only[go_sem,h0,h1,h2,h3,h9,h10,fM hkk];exact⟨⟨m+1,hlt,rfl,j,rfl,hH⟩,by simp only[aE];omega⟩
    ·simp only[go_sem,h0,h1,h2,h3,h9,h10,h13];refine aP hH ⟨rfl,rfl⟩ (by simp only[go_sem]) (by simp only[Xab,Xaa,List.length_nil];omega) (fun j' hj'=>?_);simp only[go_sem];refine hK _ _ ⟨by simp only[go_sem,h0],by simp only[go_sem,h1],by simp only[go_sem,h2],by simp only[go_sem,h3],by simp only[go_sem,h10],j',by simp only[go_sem],?_⟩;rw[hfl,dB,hn];show _=some (aJ (es++opt _ ⟨6,nP w m⟩));rw[dW (hsb.trans hb)];exact cD (l':=[⟨6,nP w m⟩]) rfl
    ·simp only[go_sem];refine hK _ _ ⟨by simp only[go_sem,h0],by simp only[go_sem,h1],by simp only[go_sem,h2],by simp only[go_sem,h3],by simp only[go_sem,h10],j,by simp only[go_sem,h9],?_⟩;rw[hfl,dB,hn];show _=some (aJ (es++opt _ ⟨6,nP w m⟩));rw[dV (hsb.trans hb),Xah,hH]
 ·have hge:=bK hk hge;subst hge;simp only[go_sem,h9];exact⟨_,rfl,by rw[hH,←hes,←hes1,←hes0];rfl⟩
theorem iV:∀l:List Fault,dF 2 (l.map cE)
 | []=>trivial
 | f::r=>⟨rfl,iV r⟩
theorem lA(N:Int)(l:List Pair)(w:ByteArray)(b:Bool):(mJ N l w b).length≤l.length+1:=by have:=cJ (kN N l w b) (List.range l.length);have h2:=aU (decide ((l.length:Int)>16)) (⟨4,w⟩:Fault);rw[mJ,Xac];rw[Xau]at this;omega
theorem Fq(N:Int)(ap be:List Pair)(hl:ap.length≤1048576)(hl2:be.length≤1048576):
  NC prog 94 [int N,.sl (ap.map bP),.sl (be.map bP)] (aJ (mJ N ap ⟨#[97,112,97,114,116]⟩ true++mJ N be ⟨#[98,101,102,111,114,101]⟩ false)) .os:=by
 refine ncb (fun t=>t == 7) func94 rfl rfl ?_;simp only[go_sem];refine NC.use (GV N ap ⟨#[97,112,97,114,116]⟩ true hl (by decide)) fun j hj=>?_
 simp only[go_sem];refine NC.use (GV N be ⟨#[98,101,102,111,114,101]⟩ false hl2 (by decide)) fun i hi=>?_
 simp only[go_sem];have l1:=lA N ap ⟨#[97,112,97,114,116]⟩ true;have l2:=lA N be ⟨#[98,101,102,111,114,101]⟩ false;refine tL (jV (aD _ _ _) hi) (aD _ _ _) ⟨rfl,rfl⟩ (iV _) (by simp only[Xab];omega) (fun j' hj'=>?_);simp only[go_sem];exact⟨_,rfl,cD rfl⟩
theorem NC.pc{f:FuncId}{args:List AV}{row:Row}(h:NC prog f args row .os):PC prog f args (.sl row.es):=
 RC.conv (RC.mono h fun r H' ⟨k,e,hk⟩=>by subst e;exact .row k row row.es hk (ConvE.refl _))
def gP(l:List Arc)(i:Nat):Arc:=l.getD i ⟨0,0,0,0,[],[]⟩
theorem jK{l:List Arc}{k:Nat}{p:Arc}(h:l[k]?=some p):gP l k=p:=by simp[gP,List.getD,h]
def eV(k:Nat):ByteArray:=⟨#[97,114,99,32]⟩++cO k
def jW(N:Int)(a:Arc):Bool:=decide (a.src<0)||decide (a.src≥N)||decide (a.dst<0)||decide (a.dst≥N)
def mL(a:Arc):Bool:=decide (a.profile<0)||decide (a.profile>7)||decide (a.miles<0)||decide (a.miles>10000)||a.src == a.dst
def cW(a b:Arc):Bool:=a.src == b.src&&a.dst == b.dst&&a.profile == b.profile
def fN(l:List Point)(i:Nat):Bool:= !inR (yS l i).t 0 4096|| !inR (yS l i).a 0 4096||decide ((i:Int)>0)&&decide ((yS l i).t≤(yS l (i-1)).t)
def vD(n:Network)(k:Nat):List Fault:=
 []++opt (jW n.places.length (gP n.arcs k)) ⟨11,eV k⟩++opt (mL (gP n.arcs k)) ⟨2,eV k⟩++opt ((n.arcs.take k).any (cW (gP n.arcs k))) ⟨6,eV k⟩
   ++ (jH (gP n.arcs k).travel).map (fun f=>⟨f.err,eV k⟩)++opt (decide (((gP n.arcs k).slow.length:Int)>16)) ⟨4,eV k⟩
   ++ (List.range (gP n.arcs k).slow.length).flatMap fun i=>opt (fN (gP n.arcs k).slow i) ⟨2,eV k⟩
theorem Nk(l:List Point)(hl:l.length≤1048576):PC prog 205 [.sl (l.map bL)] (.sl ((jH l).map cE)):=NC.pc (OE l hl)
theorem sA(l:List Point):(jH l).length≤2*l.length+1:=by have:=cJ (JS l) (List.range l.length);have h2:=aU (qT l.length 1 16) (⟨4,ByteArray.empty⟩:Fault);rw[jH,Xac];rw[Xau]at this;omega
theorem O7(n:Network)(k:Nat)(hk:k<n.arcs.length)(hp:n.places.length≤1048576)(hl:n.arcs.length≤1048576)(hs:∀a∈n.arcs,a.travel.length≤1048576∧a.slow.length≤1048576):
  NC prog 154 [.agg (aN n),int k] (aJ (vD n k)) .os:=by
 refine ncb (fun t=>t == 5) func154 rfl rfl ?_;simp only[go_sem];obtain⟨a,ha⟩:=cG hk;have b1:=inB hk;have hst:=hs a (aQ ha);have hds:=gG k;refine cN fun j hj=>?_
 simp only[go_sem];refine bB (nE _ (by omega)) ?_;simp only[go_sem,b1,aM ha];have h4:(#[97,114,99,32]:Array UInt8).size=4:=rfl;refine⟨by rw[bA];omega,cN fun i hi=>?_⟩;simp only[go_sem];refine fD (aD _ _ _) (by simp[qB]) ?_;simp only[go_sem];have hji:j≠i:=bM (aD _ _ _) hi;have he1:eV k=⟨#[97,114,99,32]⟩++cO k:=rfl;refine lB (fun ρ' H'=>ρ' 1=int k∧ρ' 2=.rp (aN n) 0∧ρ' 6=str (eV k)∧ρ' 7=.op i 0 0∧H' i=some (eD a)∧∃j',ρ' 5=.os j'∧j'≠i∧H' j'=some (aJ []))
  ⟨by simp only[go_sem],by simp only[go_sem],by simp only[go_sem,he1],by simp only[go_sem],aD _ _ _,j,by simp only[go_sem],hji,by rw[aK _ _ _ _ hji,aK _ _ _ _ hji,aD];rfl⟩ ?_
 clear hi hj hji;rintro ρ H ⟨h1,h2,h6,h7,hi,j,h5,hji,hH⟩;generalize hes0:([]:List Fault)=es0 at hH;have hln0:es0.length≤0:=by rw[←hes0];exact Xae _
 refine bI (fun ρ' H'=>ρ' 1=int k∧ρ' 2=.rp (aN n) 0∧ρ' 6=str (eV k)∧ρ' 7=.op i 0 0∧H' i=some (eD a)∧∃j',ρ' 5=.os j'∧j'≠i∧H' j'=some (aJ (es0++opt (jW n.places.length a) ⟨11,eV k⟩))) ?_ fun K hK=>aA (fun hb=>?_) (fun hb=>?_)
 rotate_left
 ·simp only[go_sem,h1,h2,h6,h7,h5];refine aP hH ⟨rfl,rfl⟩ (by simp only[go_sem]) (by simp only[Xab,Xaa,List.length_nil];omega) (fun j' hj'=>?_);simp only[go_sem];refine hK _ _ ⟨by simp only[go_sem,h1],by simp only[go_sem,h2],by simp only[go_sem,h6],by simp only[go_sem,h7],cF hi hji hj',j',by simp only[go_sem],(bM hi hj').symm,?_⟩;rw[dW (show(jW n.places.length a)=true from hb)];exact cD (l':=[⟨11,eV k⟩]) rfl
 ·simp only[go_sem];refine hK _ _ ⟨by simp only[go_sem,h1],by simp only[go_sem,h2],by simp only[go_sem,h6],by simp only[go_sem,h7],hi,j,by simp only[go_sem,h5],hji,?_⟩;rw[dV (show(jW n.places.length a)=false from hb),Xah,hH]
 clear hH h1 h2 h6 h7 h5;rintro ρ H ⟨h1,h2,h6,h7,hi,j,h5,hji,hH⟩;generalize hes1:es0++opt (jW n.places.length a) (⟨11,eV k⟩:Fault)=es1 at hH;have hln1:es1.length≤es0.length+1:=by rw[←hes1,Xac];have:=aU (jW n.places.length a) (⟨11,eV k⟩:Fault);omega
 simp only[go_sem,h1,h2,h6,h7,h5,hi];refine bI (fun ρ' H'=>ρ' 1=int k∧ρ' 2=.rp (aN n) 0∧ρ' 6=str (eV k)∧ρ' 7=.op i 0 0∧H' i=some (eD a)∧∃j',ρ' 5=.os j'∧j'≠i∧H' j'=some (aJ (es1++opt (mL a) ⟨2,eV k⟩))) ?_ fun K hK=>aA (fun hb=>?_) (fun hb=>?_)
 rotate_left
 ·simp only[go_sem,h1,h2,h6,h7,h5];refine aP hH ⟨rfl,rfl⟩ (by simp only[go_sem]) (by simp only[Xab,Xaa,List.length_nil];omega) (fun j' hj'=>?_);simp only[go_sem];refine hK _ _ ⟨by simp only[go_sem,h1],by simp only[go_sem,h2],by simp only[go_sem,h6],by simp only[go_sem,h7],cF hi hji hj',j',by simp only[go_sem],(bM hi hj').symm,?_⟩;rw[dW (show(mL a)=true from hb)];exact cD (l':=[⟨2,eV k⟩]) rfl
 ·simp only[go_sem];refine hK _ _ ⟨by simp only[go_sem,h1],by simp only[go_sem,h2],by simp only[go_sem,h6],by simp only[go_sem,h7],hi,j,by simp only[go_sem,h5],hji,?_⟩;rw[dV (show(mL a)=false from hb),Xah,hH]
 clear hH h1 h2 h6 h7 h5;rintro ρ H ⟨h1,h2,h6,h7,hi,j,h5,hji,hH⟩;generalize hes2:es1++opt (mL a) (⟨2,eV k⟩:Fault)=es2 at hH;have hln2:es2.length≤es1.length+1:=by rw[←hes2,Xac];have:=aU (mL a) (⟨2,eV k⟩:Fault);omega
 simp only[go_sem,h1,h2,h6,h7,h5,hi];refine⟨fun ρ' H'=>∃m:Nat,m≤k∧ρ' 1=int k∧ρ' 2=.rp (aN n) 0∧ρ' 6=str (eV k)∧ρ' 7=.op i 0 0∧ρ' 5=.os j∧ρ' 8=boo ((n.arcs.take m).any (cW a))∧ρ' 9=int m∧H' i=some (eD a)∧H' j=some (aJ es2),fun ρ _=>k-bO (ρ 9),
  ⟨0,Xad _,by simp only[go_sem,h1],by simp only[go_sem,h2],by simp only[go_sem,h6],by simp only[go_sem,h7],by simp only[go_sem,h5],by simp only[go_sem];rfl,by simp only[go_sem];rfl,hi,hH⟩,?_⟩
 clear h1 h2 h6 h7 h5 hi hH;rintro ρ H ⟨m,hm,h1,h2,h6,h7,h5,h8,h9,hi,hH⟩;simp only[go_sem,h1,h2,h6,h7,h5,h8,h9];refine aA (fun hlt=>?_) (fun hge=>?_)
 ·have hlt:=bD hlt;obtain⟨c,hc⟩:=cG (show m<n.arcs.length by omega);have b2:=inB (show m<n.arcs.length by omega);simp only[go_sem,h1,h2,h6,h7,h5,h8,h9,b2,aM hc];refine cN fun x hx=>?_
  simp only[go_sem];refine fD (aD _ _ _) (by simp[qB]) ?_;have hix:=bM hi hx;have hjx:=bM hH hx;simp only[go_sem,h1,h2,h6,h7,h5,h8,h9,aK _ _ _ _ hix,hi,cH m];refine⟨⟨m+1,hlt,?_,rfl,?_⟩,by simp only[aE];omega⟩
  ·rw[Ar hc];simp only[cW]
  ·rw[aK _ _ _ _ hjx,aK _ _ _ _ hjx,hH]
 ·have hge:=bK hm hge;subst hge;simp only[go_sem,h1,h2,h6,h7,h5,h8,h9];clear h1 h2 h8 h9;refine bI (fun ρ' H'=>ρ' 6=str (eV m)∧ρ' 7=.op i 0 0∧H' i=some (eD a)∧∃j',ρ' 5=.os j'∧j'≠i∧H' j'=some (aJ (es2++opt ((n.arcs.take m).any (cW a)) ⟨6,eV m⟩))) ?_ fun K hK=>aA (fun hb=>?_) (fun hb=>?_)
  rotate_left
  ·simp only[go_sem,h6,h7,h5];refine aP hH ⟨rfl,rfl⟩ (by simp only[go_sem]) (by simp only[Xab,Xaa,List.length_nil];omega) (fun j' hj'=>?_);simp only[go_sem];refine hK _ _ ⟨by simp only[go_sem,h6],by simp only[go_sem,h7],cF hi hji hj',j',by simp only[go_sem],(bM hi hj').symm,?_⟩;rw[dW (show((n.arcs.take m).any (cW a))=true from hb)];exact cD (l':=[⟨6,eV m⟩]) rfl
  ·simp only[go_sem];refine hK _ _ ⟨by simp only[go_sem,h6],by simp only[go_sem,h7],hi,j,by simp only[go_sem,h5],hji,?_⟩;rw[dV (show((n.arcs.take m).any (cW a))=false from hb),Xah,hH]
  clear hH h6 h7 h5;rintro ρ H ⟨h6,h7,hi,j,h5,hji,hH⟩;generalize hes3:es2++opt ((n.arcs.take m).any (cW a)) (⟨6,eV m⟩:Fault)=es3 at hH;have hln3:es3.length≤es2.length+1:=by rw[←hes3,Xac];have:=aU ((n.arcs.take m).any (cW a)) (⟨6,eV m⟩:Fault);omega
  simp only[go_sem,h6,h7,h5,hi];refine bB (Nk a.travel hst.1) ?_;simp only[go_sem];have htl:=sA a.travel;have htr:(jH (gP n.arcs m).travel).map (fun f=>(⟨f.err,eV m⟩:Fault))=(jH a.travel).map (fun f=>⟨f.err,eV m⟩):=by rw[jK ha]
  generalize jH a.travel=tr at htl htr;refine⟨fun ρ H=>∃q:Nat,q≤tr.length∧ρ 6=str (eV m)∧ρ 7=.op i 0 0∧ρ 11=.sl (tr.map cE)∧ρ 12=int q∧H i=some (eD a)∧∃j,ρ 5=.os j∧j≠i∧H j=some (aJ (es3++(tr.take q).map fun f=>⟨f.err,eV m⟩)),fun ρ _=>tr.length-bO (ρ 12),
   ⟨0,Xad _,by simp only[go_sem,h6],by simp only[go_sem,h7],by simp only[go_sem],by simp only[go_sem];rfl,hi,j,by simp only[go_sem,h5],hji,by simpa using hH⟩,?_⟩
  clear h6 h7 h5 hi hH hji;rintro ρ H ⟨q,hq,h6,h7,h11,h12,hi,j,h5,hji,hH⟩;simp only[go_sem,h6,h7,h5,h11,h12];refine aA (fun hlt=>?_) (fun hge=>?_)
  ·have hlt:=bD hlt;obtain⟨f,hf⟩:=cG hlt;have b2:=inB hlt;simp only[go_sem,h6,h7,h5,h11,h12,b2,aM hf];refine aP hH ⟨rfl,rfl⟩ (by simp only[go_sem]) (by simp only[Xab,Xac,Xas,Xaa,List.length_nil];omega) (fun j' hj'=>?_);simp only[go_sem,h6,h7,h5,h11,h12,cH q];refine⟨⟨q+1,hlt,rfl,cF hi hji hj',j',rfl,(bM hi hj').symm,?_⟩,by simp only[aE];omega⟩;rw[xF hf,←Xar];exact cD (l':=[⟨f.err,eV m⟩]) rfl
  ·have hge:=bK hq hge;subst hge;simp only[go_sem,h6,h7,h5,h11,h12,hi];clear h11 h12;rw[List.take_length]at hH;generalize hes4:es3++tr.map (fun f=>(⟨f.err,eV m⟩:Fault))=es4 at hH;have hln4:es4.length=es3.length+tr.length:=by rw[←hes4,Xac,Xab]
   refine bI (fun ρ' H'=>ρ' 6=str (eV m)∧ρ' 7=.op i 0 0∧H' i=some (eD a)∧∃j',ρ' 5=.os j'∧j'≠i∧H' j'=some (aJ (es4++opt (decide ((a.slow.length:Int)>16)) ⟨4,eV m⟩))) ?_ fun K hK=>aA (fun hb=>?_) (fun hb=>?_)
   rotate_left
   ·simp only[go_sem,h6,h7,h5];refine aP hH ⟨rfl,rfl⟩ (by simp only[go_sem]) (by simp only[Xab,Xaa,List.length_nil];omega) (fun j' hj'=>?_);simp only[go_sem];refine hK _ _ ⟨by simp only[go_sem,h6],by simp only[go_sem,h7],cF hi hji hj',j',by simp only[go_sem],(bM hi hj').symm,?_⟩;rw[dW (show(decide ((a.slow.length:Int)>16))=true from hb)];exact cD (l':=[⟨4,eV m⟩]) rfl
   ·simp only[go_sem];refine hK _ _ ⟨by simp only[go_sem,h6],by simp only[go_sem,h7],hi,j,by simp only[go_sem,h5],hji,?_⟩;rw[dV (show(decide ((a.slow.length:Int)>16))=false from hb),Xah,hH]
   clear hH h6 h7 h5;rintro ρ H ⟨h6,h7,hi,j,h5,hji,hH⟩;generalize hes5:es4++opt (decide ((a.slow.length:Int)>16)) (⟨4,eV m⟩:Fault)=es5 at hH;have hln5:es5.length≤es4.length+1:=by rw[←hes5,Xac];have:=aU (decide ((a.slow.length:Int)>16)) (⟨4,eV m⟩:Fault);omega
   simp only[go_sem,h6,h7,h5,hi];refine⟨fun ρ H=>∃k:Nat,k≤a.slow.length∧ρ 6=str (eV m)∧ρ 7=.op i 0 0∧ρ 13=int k∧H i=some (eD a)∧∃j,ρ 5=.os j∧j≠i∧H j=some (aJ (es5++(List.range k).flatMap fun x=>opt (fN a.slow x) ⟨2,eV m⟩)),fun ρ _=>a.slow.length-bO (ρ 13),
    ⟨0,Xad _,by simp only[go_sem,h6],by simp only[go_sem,h7],by simp only[go_sem];rfl,hi,j,by simp only[go_sem,h5],hji,by simpa using hH⟩,?_⟩
   clear h6 h7 h5 hi hH hji;rintro ρ H ⟨k,hk,h6,h7,h13,hi,j,h5,hji,hH⟩;generalize hes:es5++(List.range k).flatMap (fun x=>opt (fN a.slow x) (⟨2,eV m⟩:Fault))=es at hH;have hlen:es.length≤es5.length+k:=by have:=cJ (f:=fun x=>opt (fN a.slow x) (⟨2,eV m⟩:Fault)) (c:=1) (fun x=>aU _ _) (List.range k);rw[←hes,Xac];rw[Xau]at this;omega
   simp only[go_sem,h6,h7,h5,h13,hi];refine aA (fun hlt=>?_) (fun hge=>?_)
   ·have hlt:=bD hlt;have hkk:k≤4611686018427387904:=by omega
    obtain⟨p,hp⟩:=cG hlt;obtain⟨r,hr⟩:=cG (show k-1<a.slow.length by omega);have b2:=inB hlt;simp only[go_sem,h6,h7,h5,h13,hi,b2,aM hp];refine cN fun x hx=>?_
    simp only[go_sem];refine fD (aD _ _ _) (by simp[kK]) ?_;have hix:=bM hi hx;have hjx:=bM hH hx;simp only[go_sem];refine lK (by rfl) (by kernel_rfl) ?_;simp only[go_sem,h6,h7,h5,h13,aK _ _ _ _ hix,hi];refine⟨_,(NJ _).q rfl,?_⟩;simp only[go_sem,h6,h7,h5,h13,aK _ _ _ _ hix,hi];refine⟨_,fun _=>(NJ _).q rfl,?_⟩;simp only[go_sem,h6,h7,h5,h13,aK _ _ _ _ hix,hi,Eh hkk,aM hr];have hi2:bG (bG H x (some ⟨157,2,[[int 0,int 0]]⟩)) x (some ⟨157,2,[bL p]⟩) i=some (eD a):=by rw[aK _ _ _ _ hix,aK _ _ _ _ hix,hi]
    have hH2:bG (bG H x (some ⟨157,2,[[int 0,int 0]]⟩)) x (some ⟨157,2,[bL p]⟩) j=some (aJ es):=by rw[aK _ _ _ _ hjx,aK _ _ _ _ hjx,hH]
    have hbs:fN a.slow k=(!inR p.t 0 4096|| !inR p.a 0 4096||decide ((k:Int)>0)&&decide (p.t≤r.t)):=by rw[fN,lT hp,lT hr]
    have hfl:es5++(List.range (k+1)).flatMap (fun x=>opt (fN a.slow x) (⟨2,eV m⟩:Fault))=es++opt (fN a.slow k) ⟨2,eV m⟩:=by rw[cU,←Xar,hes]
    refine⟨fun h=>by
     have:(k:Int)>0:=by simpa using h.2
     rw[lW hkk];omega,eR (fun ρ' H'=>ρ' 6=str (eV m)∧ρ' 7=.op i 0 0∧ρ' 13=int k∧H' i=some (eD a)∧∃j,ρ' 5=.os j∧j≠i∧H' j=some (aJ (es++opt (fN a.slow k) ⟨2,eV m⟩))) ?_ fun K hK _ _=>aA (fun hb=>?_) (fun hb=>?_)⟩
    ·clear h6 h7 h5 h13;rintro ρ H ⟨h6,h7,h13,hi,j,h5,hji,hH⟩;simp only[go_sem,h6,h7,h5,h13,fM hkk];exact⟨⟨k+1,hlt,rfl,hi,j,rfl,hji,by rw[hfl];exact hH⟩,by simp only[aE];omega⟩
    ·simp only[go_sem,h6,h7,h5,h13];refine aP hH2 ⟨rfl,rfl⟩ (by simp only[go_sem]) (by simp only[Xab,Xaa,List.length_nil];omega) (fun j' hj'=>?_);simp only[go_sem];refine hK _ _ ⟨by simp only[go_sem,h6],by simp only[go_sem,h7],by simp only[go_sem,h13],cF hi2 hji hj',j',by simp only[go_sem],(bM hi2 hj').symm,?_⟩;rw[dW (hbs.trans hb)];exact cD (l':=[⟨2,eV m⟩]) rfl
    ·simp only[go_sem];refine hK _ _ ⟨by simp only[go_sem,h6],by simp only[go_sem,h7],by simp only[go_sem,h13],hi2,j,by simp only[go_sem,h5],hji,?_⟩;rw[dV (hbs.trans hb),Xah,hH2]
   ·have hge:=bK hk hge;subst hge;simp only[go_sem,h5];refine⟨_,rfl,?_⟩;rw[hH,←hes,←hes5,←hes4,←htr,←hes3,←hes2,←hes1,←hes0,vD,jK ha]
theorem sM(n:Network)(k:Nat)(ht:(gP n.arcs k).travel.length≤1048576)(hs:(gP n.arcs k).slow.length≤1048576):(vD n k).length≤3145740:=by have h1:=aU (jW n.places.length (gP n.arcs k)) (⟨11,eV k⟩:Fault);have h2:=aU (mL (gP n.arcs k)) (⟨2,eV k⟩:Fault);have h3:=aU ((n.arcs.take k).any (cW (gP n.arcs k))) (⟨6,eV k⟩:Fault);have h4:=sA (gP n.arcs k).travel;have h5:=aU (decide (((gP n.arcs k).slow.length:Int)>16)) (⟨4,eV k⟩:Fault);have h6:=cJ (f:=fun i=>opt (fN (gP n.arcs k).slow i) (⟨2,eV k⟩:Fault)) (c:=1) (fun x=>aU _ _) (List.range (gP n.arcs k).slow.length);rw[Xau]at h6;simp only[vD,Xac,Xab,List.length_nil];omega
theorem zO{α β:Type}{f:α→List β}{c:Nat}:∀l:List α,(∀x∈l,(f x).length≤c)→(l.flatMap f).length≤c*l.length
 | [],_=>by simp
 | x::r,h=>by
  have h1:=h x (by simp);have h2:=zO r fun y hy=>h y (by simp[hy])
  simp only[List.flatMap_cons,Xac,Xaa,Nat.mul_add,Nat.mul_one];omega
def yL(n:Network):List Fault:=lN n.places++opt (decide ((n.arcs.length:Int)>1024)) ⟨4,⟨#[97,114,99,115]⟩⟩++(List.range n.arcs.length).flatMap (vD n)
theorem tE(l:List ByteArray):(lN l).length≤l.length+1:=by have:=cJ (Fc l) (List.range l.length);have h2:=aU (decide ((l.length:Int)>24)) (⟨4,⟨#[112,108,97,99,101,115]⟩⟩:Fault);rw[lN,Xac];rw[Xau]at this;omega
theorem SY(n:Network)(hp:n.places.length≤1048576)(hps:∀s∈n.places,s.size≤1048576)(hl:n.arcs.length≤1048576)(hs:∀a∈n.arcs,a.travel.length≤1048576∧a.slow.length≤1048576):
  NC prog 90 [.agg (aN n)] (aJ (yL n)) .os:=by
 have hal:∀k,(vD n k).length≤3145740:=fun k=>by
  rcases Xbc k n.arcs.length with h|h
  ·obtain⟨a,ha⟩:=cG h;have hm:=hs a (aQ ha);exact sM n k (by rw[jK ha];exact hm.1) (by rw[jK ha];exact hm.2)
  ·have:gP n.arcs k=⟨0,0,0,0,[],[]⟩:=by simp[gP,List.getD,List.getElem?_eq_none h]
   exact sM n k (by rw[this];simp) (by rw[this];simp)
 have hpl:=tE n.places;refine ncb (fun t=>t == 3) func90 rfl rfl ?_;simp only[go_sem];refine NC.use (NM n hp hps) fun j hj=>?_
 simp only[go_sem];refine lB (fun ρ' H'=>ρ' 1=.rp (aN n) 0∧∃j',ρ' 3=.os j'∧H' j'=some (aJ (lN n.places))) ⟨by simp only[go_sem],j,by simp only[go_sem],aD _ _ _⟩ ?_;clear hj;rintro ρ H ⟨h1,j,h3,hH⟩;generalize hes0:lN n.places=es0 at hH hpl;refine bI (fun ρ' H'=>ρ' 1=.rp (aN n) 0∧∃j',ρ' 3=.os j'∧H' j'=some (aJ (es0++opt (decide ((n.arcs.length:Int)>1024)) ⟨4,⟨#[97,114,99,115]⟩⟩))) ?_ fun K hK=>aA (fun hb=>?_) (fun hb=>?_)
 rotate_left
 ·simp only[go_sem,h1,h3];refine aP hH ⟨rfl,rfl⟩ (by simp only[go_sem]) (by simp only[Xab,Xaa,List.length_nil];omega) (fun j' hj'=>?_);simp only[go_sem];refine hK _ _ ⟨by simp only[go_sem,h1],j',by simp only[go_sem],?_⟩;rw[dW (show(decide ((n.arcs.length:Int)>1024))=true from hb)];exact cD (l':=[⟨4,⟨#[97,114,99,115]⟩⟩]) rfl
 ·simp only[go_sem];refine hK _ _ ⟨by simp only[go_sem,h1],j,by simp only[go_sem,h3],?_⟩;rw[dV (show(decide ((n.arcs.length:Int)>1024))=false from hb),Xah,hH]
 clear hH h1 h3;rintro ρ H ⟨h1,j,h3,hH⟩;generalize hes1:es0++opt (decide ((n.arcs.length:Int)>1024)) (⟨4,⟨#[97,114,99,115]⟩⟩:Fault)=es1 at hH;have hln1:es1.length≤es0.length+1:=by rw[←hes1,Xac];have:=aU (decide ((n.arcs.length:Int)>1024)) (⟨4,⟨#[97,114,99,115]⟩⟩:Fault);omega
 simp only[go_sem,h1,h3];refine⟨fun ρ H=>∃k:Nat,k≤n.arcs.length∧ρ 1=.rp (aN n) 0∧ρ 4=int k∧∃j,ρ 3=.os j∧H j=some (aJ (es1++(List.range k).flatMap (vD n))),fun ρ _=>n.arcs.length-bO (ρ 4),⟨0,Xad _,by simp only[go_sem,h1],by simp only[go_sem];rfl,j,by simp only[go_sem,h3],by simpa using hH⟩,?_⟩;clear hH h1 h3;rintro ρ H ⟨k,hk,h1,h4,j,h3,hH⟩;generalize hes:es1++(List.range k).flatMap (vD n)=es at hH;have hlen:es.length≤es1.length+3145740*k:=by have:=cJ hal (List.range k);rw[←hes,Xac];rw[Xau]at this;omega
 simp only[go_sem,h1,h3,h4];refine aA (fun hlt=>?_) (fun hge=>?_)
 ·have hlt:=bD hlt;simp only[go_sem,h1,h3,h4];refine NC.use (O7 n k hlt hp hl hs) fun i hi=>?_
  simp only[go_sem];have:=hal k;refine tL (jV hH hi) (aD _ _ _) ⟨rfl,rfl⟩ (iV _) (by simp only[Xab];omega) (fun j' hj'=>?_);simp only[go_sem,h1,h3,h4,cH k];refine⟨⟨k+1,hlt,rfl,j',rfl,?_⟩,by simp only[aE];omega⟩;rw[cU,←Xar,hes];exact cD rfl
 ·have hge:=bK hk hge;subst hge;simp only[go_sem,h3];exact⟨_,rfl,by rw[hH,←hes,←hes1,←hes0];rfl⟩
def small(l:List Fault):Prop:=∀f∈l,f.at_.size≤4194304
theorem ML:small []:=by simp[small]
theorem fS{a b:List Fault}(ha:small a)(hb:small b):small (a++b):=fun f hf=>(Xap.1 hf).elim (ha f) (hb f)
theorem fT{b:Bool}{f:Fault}(h:f.at_.size≤4194304):small (opt b f):=by
 cases b
 ·simp[small,opt]
 ·intro g hg;simp[opt]at hg;subst hg;exact h
theorem kV{α:Type}{F:α→List Fault}{l:List α}(h:∀x∈l,small (F x)):small (l.flatMap F):=fun f hf=>by obtain⟨x,hx,hf⟩:=List.mem_flatMap.1 hf;exact h x hx f hf
theorem xT{α:Type}{F:α→Fault}{l:List α}(h:∀x∈l,(F x).at_.size≤4194304):small (l.map F):=fun f hf=>by obtain⟨x,hx,rfl⟩:=Xat.1 hf;exact h x hx
theorem pM{i n:Nat}(h:i∈List.range n):i<n:=List.mem_range.1 h
theorem Mn(i:Nat):(eV i).size≤i+5:=by have:=gG i;unfold eV;rw[ByteArray.size_append];have:(⟨#[97,114,99,32]⟩:ByteArray).size=4:=rfl;omega
theorem Jy(w:ByteArray)(i:Nat):(nP w i).size≤w.size+i+2:=by have:=gG i;unfold nP;rw[ByteArray.size_append,ByteArray.size_append];have:(⟨#[32]⟩:ByteArray).size=1:=rfl;omega
theorem sz0:ByteArray.empty.size=0:=rfl
theorem Fv(l:List ByteArray)(h:l.length≤1048576):small (lN l):=fS (fT (by decide)) (kV fun i hi=>by
 have:=pM hi;have:=Ie i;unfold cC;split
 ·exact fT (b:=true) (by show(kD i).size≤_;omega)
 ·exact fT (by show(kD i).size≤_;omega))
theorem DW(n:Network)(hp:n.places.length≤1048576)(hl:n.arcs.length≤1048576):small (yL n):=by
 refine fS (fS (Fv _ hp) (fT (by decide))) (kV fun i hi=>?_);have:=pM hi;have h:(eV i).size≤4194304:=by have:=Mn i;omega
 exact fS (fS (fS (fS (fS (fS ML (fT h)) (fT h)) (fT h)) (xT fun _ _=>h)) (fT h)) (kV fun _ _=>fT h)
theorem zN(n:Network)(l:List VType)(hl:l.length≤1048576):small (lE n l):=
 fS (fT (by decide)) (kV fun i hi=>xT fun _ _=>by have:=pM hi;have:=gG i;show(cO i).size≤_;omega)
theorem xC(n:Network)(d T:Int)(l:List Order)(hl:l.length≤1048576):small (jY n d T l):=
 fS (fT (by decide)) (kV fun i hi=>xT fun _ _=>by have:=pM hi;have:=gG i;show(cO i).size≤_;omega)
theorem oN(N:Int)(l:List Pair)(w:ByteArray)(b:Bool)(hl:l.length≤1048576)(hw:w.size≤100):small (mJ N l w b):=fS (fT (by show w.size≤_;omega)) (kV fun i hi=>by
 have:=pM hi;have:=Jy w i;unfold dB;split
 ·exact fT (b:=true) (by show(nP w i).size≤_;omega)
 ·exact fT (by show(nP w i).size≤_;omega))
theorem Bp(n:Network)(l:List VType):(lE n l).length≤9*l.length+1:=by have:=cJ (f:=eE n l) (c:=9) (fun x=>by unfold eE;rw[Xab];exact jI _ _ _ _) (List.range l.length);have h2:=aU (!inR l.length 1 6) (⟨4,ByteArray.empty⟩:Fault);rw[lE,Xac];rw[Xau]at this;omega
theorem zF(n:Network)(d T:Int)(l:List Order):(jY n d T l).length≤9*l.length+1:=by have:=cJ (f:=dS n d T l) (c:=9) (fun x=>by unfold dS;rw[Xab];exact iM _ _ _ _ _ _) (List.range l.length);have h2:=aU (decide ((l.length:Int)>10)) (⟨4,ByteArray.empty⟩:Fault);rw[jY,Xac];rw[Xau]at this;omega
structure InB(x:Instance):Prop where
 places:x.net.places.length≤1048576
 place:∀s∈x.net.places,s.size≤1048576
 arcs:x.net.arcs.length≤1048576
 arc:∀a∈x.net.arcs,a.travel.length≤1048576∧a.slow.length≤1048576
 types:x.types.length≤1048576
 type:∀t∈x.types,t.name.size≤1048576∧t.cap.length≤1048576
 orders:x.orders.length≤1048576
 order:∀t∈x.orders,t.name.size≤1048576∧t.load.length≤1048576
 apart:x.apart.length≤1048576
 before:x.before.length≤1048576
def kW(x:Instance):List Fault:=mJ x.orders.length x.apart ⟨#[97,112,97,114,116]⟩ true++mJ x.orders.length x.before ⟨#[98,101,102,111,114,101]⟩ false
def iI(x:Instance):List Fault:=(yL x.net).map (dT ⟨#[110,101,116]⟩)++(lE x.net x.types).map (dT ⟨#[116,121,112,101,115]⟩) ++
 (jY x.net (hY x.types) x.types.length x.orders).map (dT ⟨#[111,114,100,101,114,115]⟩)++(kW x).map (dT ⟨#[114,117,108,101,115]⟩)
theorem Hq(x:Instance)(h:InB x):(yL x.net).length≤3300000000000:=by
 have h1:=tE x.net.places;have h2:=aU (decide ((x.net.arcs.length:Int)>1024)) (⟨4,⟨#[97,114,99,115]⟩⟩:Fault);have h3:=zO (f:=vD x.net) (c:=3145740) (List.range x.net.arcs.length) fun k hk=>by obtain⟨a,ha⟩:=cG (pM hk);have hm:=h.arc a (aQ ha);exact sM x.net k (by rw[jK ha];exact hm.1) (by rw[jK ha];exact hm.2)
 have h4:=h.places;have h5:=h.arcs;rw[Xau]at h3;simp only[yL,Xac];omega
theorem Lk(x:Instance)(h:InB x):NC prog 44 [.agg (aO x)] (aJ (iI x)) .os:=by
 have c1:PC prog 90 [.agg (aN x.net)] (.sl ((yL x.net).map cE)):=NC.pc (SY x.net h.places h.place h.arcs h.arc);have c2:PC prog 91 [.agg (aN x.net),.sl (x.types.map aX)] (.sl ((lE x.net x.types).map cE)):=NC.pc (Qd x.net x.types h.types h.type h.places);have c3:PC prog 92 [.agg (aN x.net),int (hY x.types),int x.types.length,.sl (x.orders.map aB)] (.sl ((jY x.net (hY x.types) x.types.length x.orders).map cE)):=NC.pc (N5 x.net _ _ x.orders h.orders h.order h.places);have c4:PC prog 94 [int x.orders.length,.sl (x.apart.map bP),.sl (x.before.map bP)] (.sl ((kW x).map cE)):=NC.pc (Fq x.orders.length x.apart x.before h.apart h.before);have l1:=Hq x h;have l2:=Bp x.net x.types;have l3:=zF x.net (hY x.types) x.types.length x.orders;have l4:(kW x).length≤2097154:=by have a1:=lA x.orders.length x.apart ⟨#[97,112,97,114,116]⟩ true;have a2:=lA x.orders.length x.before ⟨#[98,101,102,111,114,101]⟩ false;have:=h.apart;have:=h.before;rw[kW,Xac];omega
 have s1:=DW x.net h.places h.arcs;have s2:=zN x.net x.types h.types;have s3:=xC x.net (hY x.types) x.types.length x.orders h.orders;have s4:small (kW x):=fS (oN _ _ _ _ h.apart (by decide)) (oN _ _ _ _ h.before (by decide));have ht:=h.types;have ho:=h.orders;refine ncb (fun t=>t == 27) func44 rfl rfl ?_;simp only[go_sem];refine bB c1 ?_;simp only[go_sem];refine NC.use (mR ⟨#[110,101,116]⟩ _ (by decide) (by omega) fun f hf=>Xam (s1 f hf) (by decide)) fun j hj=>?_
 simp only[go_sem];refine bB c2 ?_;simp only[go_sem];refine NC.use (mR ⟨#[116,121,112,101,115]⟩ _ (by decide) (by omega) fun f hf=>Xam (s2 f hf) (by decide)) fun i hi=>?_
 simp only[go_sem];refine tL (jV (aD _ _ _) hi) (aD _ _ _) ⟨rfl,rfl⟩ (iV _) (by simp only[Xab];omega) (fun j' hj'=>?_);simp only[go_sem];refine Fl (by kernel_rfl) ?_;simp only[go_sem];refine⟨_,(NG x.types).q rfl,?_⟩;simp only[go_sem];have hH:=cD (e:=84) (sz:=2) (enc:=cE) (H:=bG (bG (bG bV j (some (aJ ((yL x.net).map (dT ⟨#[110,101,116]⟩))))) i (some (aJ ((lE x.net x.types).map (dT ⟨#[116,121,112,101,115]⟩))))) j none) (k:=j') (l:=(yL x.net).map (dT ⟨#[110,101,116]⟩)) (l':=(lE x.net x.types).map (dT ⟨#[116,121,112,101,115]⟩)) rfl;generalize bG (bG (bG (bG bV j _) i _) j none) j' _=H at hH ⊢;generalize hes:(yL x.net).map (dT ⟨#[110,101,116]⟩)++(lE x.net x.types).map (dT ⟨#[116,121,112,101,115]⟩)=es at hH;have hel:es.length≤3300000000000+9*x.types.length+1:=by rw[←hes,Xac,Xab,Xab];omega
 clear hi hj hj';refine bB c3 ?_;simp only[go_sem];refine NC.use (mR ⟨#[111,114,100,101,114,115]⟩ _ (by decide) (by omega) fun f hf=>Xam (s3 f hf) (by decide)) fun i hi=>?_
 simp only[go_sem];refine tL (jV hH hi) (aD _ _ _) ⟨rfl,rfl⟩ (iV _) (by simp only[Xab];omega) (fun k hk=>?_);simp only[go_sem];have hH2:=cD (e:=84) (sz:=2) (enc:=cE) (H:=bG (bG H i (some (aJ ((jY x.net (hY x.types) x.types.length x.orders).map (dT ⟨#[111,114,100,101,114,115]⟩))))) j' none) (k:=k) (l:=es) (l':=(jY x.net (hY x.types) x.types.length x.orders).map (dT ⟨#[111,114,100,101,114,115]⟩)) rfl;generalize bG (bG (bG H i _) j' none) k _=H2 at hH2 ⊢;clear hi hk;refine bB c4 ?_;simp only[go_sem];refine NC.use (mR ⟨#[114,117,108,101,115]⟩ _ (by decide) (by omega) fun f hf=>Xam (s4 f hf) (by decide)) fun q hq=>?_
 simp only[go_sem];refine tL (jV hH2 hq) (aD _ _ _) ⟨rfl,rfl⟩ (iV _) (by simp only[Xab,Xac];omega) (fun m hm=>?_);simp only[go_sem];refine⟨m,rfl,?_⟩;rw[iI,hes];exact cD rfl
end Go.Proofs.YthbiheckeoknlaaGreatDoor
end
section
namespace Go.Aw.D
open Go.Aw Go.RowKit
def Sw(w:World):Sg:=⟨fun k=>k<w.heap.size,fun k=>k<w.heap.size,fun _=>.slice none 0 0,fun _=>1,0⟩
def FC(w:World):Prop:=∀t∈Ae,t.2 (fB w t.1)
theorem FV{w:World}{g:Nat}{cs:Array Value}(h:fB w g=some cs):g<w.heap.size:=by
 unfold fB at h;split at h
 ·rename_i h1;exact(Array.getElem?_eq_some_iff.1 h1).1
 ·cases h
theorem Tf(w:World)(ht:FC w):St (Sw w) w bV:=⟨fun _ h=>h,fun _ h=>h,fun k r hk=>by simp[bV]at hk,fun k r hk=>by simp[bV]at hk,fun k k' r r' hk=>by simp[bV]at hk,fun t h=>by obtain⟨a,ha⟩:=Ob h (ht t h);exact⟨FV ha,ht t h⟩⟩
section
variable{H:Type}{e:TypeId×Value→H}{P:Program}{w:World}{t:TypeId}
end
section
open Go.Proofs Go.Proofs.YthbiheckeoknlaaGreatDoor
variable{H:Type}{e:TypeId×Value→H}{w:World}
end
end Go.Aw.D
end
section
namespace Go.Proofs.YthbiheckeoknlaaGreatDoor
open Go.Aw Go.Aw.D Go.Proofs Go.RowKit Go.ChangeShapes Go.WideShapes Go.ChangeAt
section
variable{H:Type}{e:TypeId×Value→H}{P:Program}{W W':World}
theorem GD{f:FuncId}{args:List AV}{vals:List Value}(h:PC P f args (.v (.bool true)))(ht:FC W)(ha:aV (Sw W) W args vals):
  Calls P f vals.toArray W fun en W'=>en=.returned (.bool true)∧Below W.heap.size W W':=
 (h (Sw W) W vals (Tf W ht) (fun _ h=>h) ha).mono fun en W' ⟨v,r,H',S',he,hr,_,hv,hg,_⟩=>by subst hr;simp only[rep]at hv;subst hv;exact⟨he,hg.os,hg.tape,hg.output,hg.size,hg.same⟩
theorem wD(hl:laidOutB P=true)(hb:Below W.heap.size W W'):∀{ts:List TypeId} {vs:List Value} {ds:List (DataW H)} {ps:List MemPlace},(∀t∈ts,P.readableRec t=true∧t<P.types.size) →
  DataW.TrodAll e P W 0 (fun _=>true) true ts vs ds ps→(∀x∈ps,x.block<W.heap.size)→∀sp:Nat→Bool,(∀x∈ps,sp x.block=true)→DataW.TrodAll e P W' 0 sp true ts vs ds ps
 | [],[],[],_,_,h,_,_,_=>h
 | t::ts,v::vs,d::ds,ps,ht,⟨p,q,h1,h2,he⟩,hlt,sp,hs=>by
  subst he;have h0:=ht t (by simp);exact⟨p,q,WideElems.Trod_stays hl h0.1 h0.2 h1 (fun x hx=>hb.same (hlt x (by simp[hx]))) (fun x hx=>hs x (by simp[hx])),
   wD hl hb (fun t ht'=>ht t (by simp[ht'])) h2 (fun x hx=>hlt x (by simp[hx])) sp (fun x hx=>hs x (by simp[hx])),rfl⟩
theorem Ni{fn:Func}{s:ChangeSpec}{args:Array Value}{ds gs:List (DataW H)}{before:List MemPlace}(hl:laidOutB P=true)(hts:∀t∈fn.params.toList,P.readableRec t=true∧t<P.types.size)
  (hvars:s.vars=[]) {tb:TypeId} (hbt:P.underlying tb=some .bool) (hrt:fn.resultTypes=#[tb]) (hW:DataW.Whole e P fn.params.toList s.vars false W args.toList ds gs before)
  (hres:(s.fn H (ds++gs)).results=[.lit (.bool true)]) (hargs:(s.fn H (ds++gs)).args=ds) (hvs:(s.fn H (ds++gs)).vars=[]) (hb:Below W.heap.size W W'):
  s.post e P fn false true false false W args (.bool true) W':=by
 have hlt:=hW.lt;have hW':=hW;obtain⟨p,q,hA,hV,rfl,hfz,hnd⟩:=hW;rw[hvars]at hV;obtain⟨rfl,rfl⟩:=trodVars_none hV;have hk:W.keptBut W' (·∈p++[]):=hb.frame _;have hold:∀x∈p++[],(fun b=>decide (b<W.heap.size)) x.block=true:=fun x hx=>by simpa using hlt x hx
 have r1:∀(b:Nat) (sp:Nat→Bool) (hd:Bool),DataW.TrodAll e P W' b sp hd fn.resultTypes.toList ((Value.bool true).resultList fn.resultTypes.size) (s.fn H (ds++[])).results []:=fun b sp hd=>by rw[hrt,hres];exact trodAll_cons_mk (shut_bool hbt _) trodAll_mk0
 have r2:∀sp:Nat→Bool,(∀x∈p++[],sp x.block=true)→DataW.TrodAll e P W' 0 sp true fn.params.toList args.toList (s.fn H (ds++[])).args p:=fun sp hsp=>by rw[hargs];exact wD hl hb hts hA (fun x hx=>hlt x (by simp[hx])) sp (fun x hx=>hsp x (by simp[hx]))
 have r3:∀sp:Nat→Bool,DataW.TrodVars e P W' sp s.vars (s.fn H (ds++[])).vars []:=fun sp=>by rw[hvars,hvs];simp[DataW.TrodVars]
 refine⟨ds,[],p++[],[],p,[],hW',r1 _ _ _,r2 _ hold,r3 _,World.keptBut_mono (fun x hx=>⟨hx,.inr (by simpa using hx)⟩) hk,fun _=>?_⟩;refine⟨?_,_,_,([]++p)++[],⟨[]++p,[],trodAll_append (r2 _ (fun _ _=>rfl)) (r1 _ _ _),r3 _,rfl,?_,?_⟩,?_⟩
 ·exact ok_one hrt rfl (okWide_bool_mk hbt _)
 ·intro b off hp;have hp':MemPlace.cell b off∈p++[]:=by simpa using hp
  rw[hb.frozen (hlt _ hp')];exact hfz b off hp'
 ·intro ha;simp at ha
 ·intro x hx _;simpa using hx
end
end Go.Proofs.YthbiheckeoknlaaGreatDoor
end
