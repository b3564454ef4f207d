/- Texts joined by a program: RefA. -/
import Derived.Test.YtdlijlecpopadaaGreatDoorZz11

set_option linter.unusedSimpArgs false
set_option linter.unusedVariables false
namespace Go.Proofs.YtdlijlecpopadaaGreatDoor
open Go.Aw Go.Aw.D Go.Proofs Ty
set_option maxRecDepth 100000
def inR(n lo hi:Int):Bool:=decide (n≥lo)&&decide (n≤hi)
theorem oC(n lo hi:Int):PC Tryz.prog 70 [int n,int lo,int hi] (boo (inR n lo hi)):=by
 refine PC.body (c:=Tryz.f70.body.getD .skip) (fun _=>false) mixed Tryz.func70 rfl (by kernel_rfl) ?_;unfold Tryz.f70;simp only[Option.getD_some];simp only[go_sem];exact .refl _
theorem Bz(n lo hi:Int):PC Tryz.prog 136 [int n,int lo,int hi] (boo (inR n lo hi)):=by
 refine PC.body (c:=Tryz.f136.body.getD .skip) (fun _=>false) mixed Tryz.func136 rfl (by kernel_rfl) ?_;unfold Tryz.f136;simp only[Option.getD_some];simp only[go_sem];exact .refl _
theorem U0(n:Int):PC Tryz.prog 132 [int n] (boo (inR n 0 4096)):=by
 refine PC.body (c:=Tryz.f132.body.getD .skip) (fun _=>false) mixed Tryz.func132 rfl (by kernel_rfl) ?_;unfold Tryz.f132;simp only[Option.getD_some];simp only[go_sem];exact .refl _
def Bc(c:Int):Bool:=decide (c≥48)&&decide (c≤57)
theorem CI(c:Int):PC Tryz.prog 179 [.v (.int .u8 c)] (boo (Bc c)):=by
 refine PC.body (c:=Tryz.f179.body.getD .skip) (fun _=>false) mixed Tryz.func179 rfl (by kernel_rfl) ?_;unfold Tryz.f179;simp only[Option.getD_some];simp only[go_sem];exact .refl _
def AR(c:Int):Bool:=decide (c≥97)&&decide (c≤122)||decide (c≥65)&&decide (c≤90)||c == 95
theorem AA(c:Int):PC Tryz.prog 180 [.v (.int .u8 c)] (boo (AR c)):=by
 refine PC.body (c:=Tryz.f180.body.getD .skip) (fun _=>false) mixed Tryz.func180 rfl (by kernel_rfl) ?_;unfold Tryz.f180;simp only[Option.getD_some];simp only[go_sem];exact .refl _
def kQ(s:Stop):Bool:=s.place == -1&&s.start == 0&&s.close == 0&&s.service == 0
def Hl(s:Stop):Bool:=decide (s.place<0)||decide (s.start<0)||decide (s.start>s.close)||decide (s.close>4096)||decide (s.service<0)||decide (s.service>4096)
def fB(s:Stop):Int:=if kQ s then 0 else if Hl s then 2 else 0
theorem JO(s:Stop):PC Tryz.prog 137 [.agg (iH s)] (int (fB s)):=by
 refine PC.body (c:=Tryz.f137.body.getD .skip) (fun _=>false) mixed Tryz.func137 rfl (by kernel_rfl) ?_;unfold Tryz.f137;simp only[Option.getD_some];simp only[go_sem];refine aB (fun h=>?_) (fun h=>?_)
 · simp only[go_sem]
   have:fB s=0:=if_pos h;rw[this];exact .refl _
 · simp only[go_sem]
   refine aB (fun h2=>?_) (fun h2=>?_)
   · simp only[go_sem]
     have:fB s=2:=by unfold fB;rw[if_neg (by simp[kQ,h])];exact if_pos h2
     rw[this];exact .refl _
   · simp only[go_sem]
     have:fB s=0:=by unfold fB;rw[if_neg (by simp[kQ,h]),if_neg (by simp only[Hl,h2];simp)]
     rw[this];exact .refl _
def DE(n:Int):ByteArray:=strOfNums [IntKind.u8.wrap (IntKind.i64.wrap (48+n))]
def jO(n:Nat):ByteArray:=if n<10 then DE n else jO (n/10)++DE (n%10:Nat)
theorem A4(x:Int):(strOfNums [x]).size=1:=by simp[strOfNums];rfl
theorem Cd(n:Int):(DE n).size=1:=A4 _
theorem xF{n:Nat}(h:10≤n):jO n=jO (n/10)++DE (n%10:Nat):=by rw[jO,if_neg (by omega)]
theorem tP{n:Nat}(h:n<10):jO n=DE n:=by rw[jO,if_pos h]
theorem nE(n:Nat):(jO n).size≤n+1:=by
 induction n using Nat.strongRecOn with
 | ind n ih=>
   rcases Nat.lt_or_ge n 10 with h|h
   · rw[tP h,Cd];omega
   · rw[xF h,ByteArray.size_append,Cd]
     have:=ih (n/10) (by omega);omega
theorem Mz(m:Nat):(m:Int).tmod 10=((m%10:Nat):Int):=by rw[Int.tmod_eq_emod_of_nonneg (by omega)];rfl
theorem Oe(m:Nat):(m:Int).tdiv 10=((m/10:Nat):Int):=by rw[Int.tdiv_eq_ediv_of_nonneg (by omega)];rfl
theorem Dd{k:Nat}(h:k≤4611686018427387904):IntKind.i64.wrap (k:Int)=(k:Int):=aQ (by omega)
theorem tV:IntKind.i64.max=9223372036854775807:=by decide
theorem Xb(n:Nat)(hn:n≤4611686018427387904):PC Tryz.prog 138 [int n] (str (jO n)):=by
 refine PC.body (c:=Tryz.f138.body.getD .skip) (fun _=>false) mixed Tryz.func138 rfl (by kernel_rfl) ?_;unfold Tryz.f138;simp only[Option.getD_some];simp only[go_sem];refine⟨fun ρ _=>∃(m:Nat) (s:ByteArray),ρ 0=int m∧ρ 3=str s∧jO n=jO m++s∧s.size+m≤n,
   fun ρ _=>bE (ρ 0),⟨n,ByteArray.empty,rfl,rfl,by simp,by simp⟩,?_⟩
 rintro ρ H ⟨k,s,h0,h3,he,hs⟩;simp only[go_sem,h0,h3];refine aB (fun hlt=>?_) (fun hge=>?_)
 · have hlt : 10 ≤ k := by
     have:(10:Int)≤k:=by simpa using hlt
     omega
   simp only[go_sem,h0,h3,Oe,Mz,Dd (show k/10≤4611686018427387904 by omega),aJ];refine⟨by omega,?_,by omega,⟨k/10,_,rfl,rfl,?_,?_⟩,by omega⟩
   · rw[A4,tV];omega
   · rw[he,xF hlt,ByteArray.append_assoc];rfl
   · rw[ByteArray.size_append,A4];omega
 · have hge : k < 10 := by
     have:¬(10:Int)≤k:=by simpa using hge
     omega
   simp only[go_sem,h0,h3];refine⟨by rw[A4,tV];omega,?_⟩;rw[he,tP hge];exact .refl _
def V5:AV→Nat
 | .v (.bool true)=>1
 | _=>0
theorem qN(n:Nat)(hn:n≤4611686018427387904):PC Tryz.prog 72 [int n] (str (jO n)):=by
 refine PC.body (c:=Tryz.f72.body.getD .skip) (fun _=>false) mixed Tryz.func72 rfl (by kernel_rfl) ?_;unfold Tryz.f72;simp only[Option.getD_some];simp only[go_sem];refine⟨fun ρ _=>∃(b:Bool) (m:Nat) (s:ByteArray),ρ 0=int n∧ρ 5=boo b∧ρ 4=int m∧ρ 3=str s∧(b=true→jO n=jO m++s∧s.size+m≤n)∧(b=false→jO n=s),
   fun ρ _=>bE (ρ 4)+V5 (ρ 5),⟨true,n,ByteArray.empty,rfl,rfl,rfl,rfl,fun _=>by simp,by simp⟩,?_⟩
 rintro ρ H ⟨b,k,s,h0,h5,h4,h3,ht,hf⟩;simp only[go_sem,h0,h3,h4,h5];refine aB (fun hb=>?_) (fun hb=>?_)
 · subst hb
   obtain⟨he,hs⟩:=ht rfl;simp only[go_sem,h0,h3,h4,h5,Oe,Mz];refine⟨by omega,?_⟩;refine aB (fun hb=>?_) (fun hb=>?_)
   · exfalso;simp at hb;omega
   · simp only[go_sem,h0,h3,h4,h5,Oe,Mz,Dd (show k/10≤4611686018427387904 by omega),aJ]
     refine⟨by rw[A4,tV];omega,by omega,⟨_,k/10,_,rfl,rfl,rfl,?_,?_⟩,?_⟩
     · intro hb
       have:10≤k:=by simp at hb;omega
       refine⟨?_,?_⟩
       · rw[he,xF this,ByteArray.append_assoc];rfl
       · rw[ByteArray.size_append,A4];omega
     · intro hb
       have h10:k<10:=by simp at hb;omega
       rw[he,tP h10,Nat.mod_eq_of_lt h10];rfl
     · rcases Nat.lt_or_ge k 10 with h|h
       · have:k/10=0:=by omega
         simp[this,V5]
       · simp only[V5];split <;> omega
 · simp only[go_sem,h0,h3,h4,h5]
   refine aB (fun hb=>?_) (fun hb=>?_)
   · exfalso;simp at hb;omega
   · simp only[go_sem,h0,h3,h4,h5]
     rw[hf (by assumption)];exact .refl _
def dX(l:List Int)(d:Int):Bool:=if(l.length:Int)=d then l.all fun n=> !(decide (n<0)||decide (n>1000))else false
theorem EI{α:Type}{p:α→Bool}{l:List α}(h:∀x∈l,p x=true):l.all p=true:=List.all_eq_true.2 h
theorem D8{α:Type}{p:α→Bool}{l:List α}{x:α}(h:x∈l)(hp:p x=false):l.all p=false:=by
 cases hb:l.all p with
 | false=>rfl
 | true=>rw[List.all_eq_true.1 hb x h]at hp;cases hp
theorem jQ{α:Type}{l:List α}{k:Nat}{x:α}(h:l[k]?=some x):x∈l:=List.mem_of_getElem? h
theorem vU{α:Type}{q:α→Prop}{l:List α}{k:Nat}{x:α}(hr:l[k]?=some x)(h:∀y∈l.take k,q y)(hx:q x):∀y∈l.take (k+1),q y:=by
 rw[cL hr];intro y hy;rcases List.mem_append.1 hy with hy|hy
 · exact h y hy
 · simp at hy;subst hy;exact hx
theorem cJ{k n:Nat}(h:decide ((k:Int)<(n:Int))=true):k<n:=by simpa using h
theorem cM{k n:Nat}(hk:k≤n)(h:decide ((k:Int)<(n:Int))=false):k=n:=by
 have:¬k<n:=by simpa using h
 omega
theorem Hd(l:List Int)(d:Int)(hl:l.length≤1048576):PC Tryz.prog 135 [.sl (l.map aO),int d] (boo (dX l d)):=by
 refine PC.body (c:=Tryz.f135.body.getD .skip) (fun _=>false) mixed Tryz.func135 rfl (by kernel_rfl) ?_;unfold Tryz.f135;simp only[Option.getD_some];simp only[go_sem];refine aB (fun hd=>?_) (fun hd=>?_)
 · simp only[go_sem]
   have:dX l d=false:=by unfold dX;rw[if_neg (by simpa using hd)]
   rw[this];exact .refl _
 · have hd:(l.length:Int)=d:=by simpa using hd
   simp only[go_sem];refine⟨fun ρ _=>∃k:Nat,k≤l.length∧ρ 0=.sl (l.map aO)∧ρ 5=int k∧∀n∈l.take k,(decide (n<0)||decide (n>1000))=false,fun ρ _=>l.length-bE (ρ 5),⟨0,Nat.zero_le _,rfl,rfl,by simp⟩,?_⟩;rintro ρ H ⟨k,hk,h0,h5,hn⟩;simp only[go_sem,h0,h5];refine aB (fun hlt=>?_) (fun hge=>?_)
   · have hlt:=cJ hlt
     obtain⟨r,hr⟩:=aU hlt;have b1:=inB hlt;simp only[go_sem,h0,h5,b1,aH hr];refine aB (fun hb=>?_) (fun hb=>?_)
     · simp only[go_sem]
       have:dX l d=false:=by unfold dX;rw[if_pos hd];exact D8 (jQ hr) (by simp only[hb];rfl)
       rw[this];exact .refl _
     · simp only[go_sem,h0,h5,bA (show k≤4611686018427387904 by omega)]
       exact⟨⟨k+1,hlt,rfl,vU hr hn hb⟩,by simp only[aJ];omega⟩
   · have hge:=cM hk hge
     subst hge;simp only[go_sem];have:dX l d=true:=by unfold dX;rw[if_pos hd];exact EI fun n h=>by rw[hn n (by simpa using h)];rfl
     rw[this];exact .refl _
def vZ(l:List Int)(d:Int):Bool:=if(!inR l.length 1 3||(l.length:Int) != d)=true then false else l.all fun n=>inR n 0 1000
theorem adD(l:List Int)(d:Int)(hl:l.length≤1048576):PC Tryz.prog 134 [.sl (l.map aO),int d] (boo (vZ l d)):=by
 refine PC.body (c:=Tryz.f134.body.getD .skip) (fun _=>false) mixed Tryz.func134 rfl (by kernel_rfl) ?_;unfold Tryz.f134;simp only[Option.getD_some];simp only[go_sem];refine PC.use (oC _ _ _) ?_;simp only[go_sem];refine aB (fun hd=>?_) (fun hd=>?_)
 · simp only[go_sem]
   have:vZ l d=false:=by unfold vZ;rw[if_pos hd]
   rw[this];exact .refl _
 · simp only[go_sem]
   refine⟨fun ρ _=>∃k:Nat,k≤l.length∧ρ 0=.sl (l.map aO)∧ρ 5=int k∧∀n∈l.take k,inR n 0 1000=true,fun ρ _=>l.length-bE (ρ 5),⟨0,Nat.zero_le _,rfl,rfl,by simp⟩,?_⟩;rintro ρ H ⟨k,hk,h0,h5,hn⟩;simp only[go_sem,h0,h5];refine aB (fun hlt=>?_) (fun hge=>?_)
   · have hlt:=cJ hlt
     obtain⟨r,hr⟩:=aU hlt;have b1:=inB hlt;simp only[go_sem,h0,h5,b1,aH hr];refine PC.use (oC _ _ _) ?_;simp only[go_sem];refine aB (fun hb=>?_) (fun hb=>?_)
     · simp only[go_sem]
       have:vZ l d=false:=by unfold vZ;rw[if_neg (by rw[hd];simp)];exact D8 (jQ hr) (by simpa using hb)
       rw[this];exact .refl _
     · simp only[go_sem,h0,h5,bA (show k≤4611686018427387904 by omega)]
       exact⟨⟨k+1,hlt,rfl,vU hr hn (by simpa using hb)⟩,by simp only[aJ];omega⟩
   · have hge:=cM hk hge
     subst hge;simp only[go_sem];have:vZ l d=true:=by unfold vZ;rw[if_neg (by rw[hd];simp)];exact EI fun n h=>hn n (by simpa using h)
     rw[this];exact .refl _
def sU(s:ByteArray)(i:Nat):Int:=((s.data.getD i 0).toNat:Int)
def lD(s:ByteArray):Bool:=if(decide ((s.size:Int)<1)||decide ((s.size:Int)>16)||Bc (sU s 0))=true then false else(List.range s.size).all fun i=>AR (sU s i)||Bc (sU s i)
theorem mY{n k:Nat}(h:k<n):(List.range n)[k]?=some k:=by simp[h]
theorem NB(s:ByteArray)(hl:s.size≤1048576):PC Tryz.prog 130 [str s] (boo (lD s)):=by
 refine PC.body (c:=Tryz.f130.body.getD .skip) (fun _=>false) mixed Tryz.func130 rfl (by kernel_rfl) ?_;unfold Tryz.f130;simp only[Option.getD_some];simp only[go_sem];refine⟨fun h=>⟨by omega,by simp at h;omega⟩,_,fun _=>(CI _).q rfl,?_⟩;simp only[go_sem];refine aB (fun hd=>?_) (fun hd=>?_)
 · simp only[go_sem]
   have:lD s=false:=by unfold lD;rw[if_pos (by exact hd)]
   rw[this];exact .refl _
 · simp only[go_sem]
   refine⟨fun ρ _=>∃k:Nat,k≤s.size∧ρ 0=str s∧ρ 3=int k∧∀i∈(List.range s.size).take k,(AR (sU s i)||Bc (sU s i))=true,fun ρ _=>s.size-bE (ρ 3),⟨0,Nat.zero_le _,rfl,rfl,by simp⟩,?_⟩;rintro ρ H ⟨k,hk,h0,h3,hn⟩;simp only[go_sem,h0,h3];refine aB (fun hlt=>?_) (fun hge=>?_)
   · have hlt:=cJ hlt
     have b1:=inB hlt;simp only[go_sem,h0,h3,b1];refine PC.use (AA _) ?_;simp only[go_sem,h0,h3,b1];refine⟨_,fun _=>(CI _).q rfl,?_⟩;simp only[go_sem];refine aB (fun hb=>?_) (fun hb=>?_)
     · simp only[go_sem]
       have:lD s=false:=by unfold lD;rw[if_neg (by intro h;exact absurd (h.symm.trans hd) (by simp))];exact D8 (jQ (mY hlt)) (by simpa[sU]using hb)
       rw[this];exact .refl _
     · simp only[go_sem,h0,h3,bA (show k≤4611686018427387904 by omega)]
       exact⟨⟨k+1,hlt,rfl,vU (mY hlt) hn (by
         have:(!AR (sU s k)&& !Bc (sU s k))=false:=hb
         revert this;cases AR (sU s k) <;> cases Bc (sU s k) <;> simp)⟩,by simp only[aJ];omega⟩
   · have hge:=cM hk hge
     subst hge;simp only[go_sem];have:lD s=true:=by unfold lD;rw[if_neg (by intro h;exact absurd (h.symm.trans hd) (by simp))];exact EI fun n h=>hn n (by rw[List.take_of_length_le (by simp)];exact h)
     rw[this];exact .refl _
def mJ(l:List VType):Int:=match l with|[]=>0|t::_=>t.cap.length
theorem VN(l:List VType):PC Tryz.prog 33 [.sl (l.map bC)] (int (mJ l)):=by
 refine PC.body (c:=Tryz.f33.body.getD .skip) (fun _=>false) mixed Tryz.func33 rfl (by kernel_rfl) ?_;unfold Tryz.f33;simp only[Option.getD_some];simp only[go_sem];cases l with
 | nil=>
   simp only[go_sem];refine aB (fun hb=>?_) (fun hb=>?_)
   · simp only[go_sem];exact .refl _
   · simp at hb
 | cons t l=>
   refine aB (fun hb=>?_) (fun hb=>?_)
   · simp at hb;omega
   · simp only[go_sem]
     exact⟨⟨by omega,by omega⟩,.refl _⟩
def sV(l:List VType)(k:Nat)(s:ByteArray):Bool:=(l.take k).any fun t=>t.name.toList == s.toList
theorem XK(l:List VType)(m:Nat)(s:ByteArray)(hm:m≤l.length)(hl:l.length≤1048576):PC Tryz.prog 133 [.sl (l.map bC),int m,str s] (boo (sV l m s)):=by
 refine PC.body (c:=Tryz.f133.body.getD .skip) (fun _=>false) mixed Tryz.func133 rfl (by kernel_rfl) ?_;unfold Tryz.f133;simp only[Option.getD_some];simp only[go_sem];refine⟨fun ρ _=>∃k:Nat,k≤m∧ρ 0=.sl (l.map bC)∧ρ 1=int m∧ρ 2=str s∧ρ 7=int k∧∀t∈l.take k,(t.name.toList == s.toList)=false,fun ρ _=>m-bE (ρ 7),⟨0,Nat.zero_le _,rfl,rfl,rfl,rfl,by simp⟩,?_⟩;rintro ρ H ⟨k,hk,h0,h1,h2,h7,hn⟩;simp only[go_sem,h0,h1,h2,h7];refine aB (fun hlt=>?_) (fun hge=>?_)
 · have hlt:=cJ hlt
   obtain⟨r,hr⟩:=aU (show k<l.length by omega);have b1:=inB (show k<l.length by omega);simp only[go_sem,h0,h1,h2,h7,b1,aH hr];refine aB (fun hb=>?_) (fun hb=>?_)
   · simp only[go_sem]
     have:sV l m s=true:=by
       refine List.any_eq_true.2 ⟨r,?_,hb⟩;exact List.mem_of_getElem? (i:=k) (by rw[List.getElem?_take];simp[hlt,hr])
     rw[this];exact .refl _
   · simp only[go_sem,h0,h1,h2,h7,bA (show k≤4611686018427387904 by omega)]
     exact⟨⟨k+1,hlt,rfl,vU hr hn hb⟩,by simp only[aJ];omega⟩
 · have hge:=cM hk hge
   subst hge;simp only[go_sem];have:sV l k s=false:=List.any_eq_false.2 fun t ht=>by simp[hn t ht]
   rw[this];exact .refl _
def pE(p:Point):Bool:=decide (p.t<0)||decide (p.t>4096)||decide (p.a<p.t)||decide (p.a>IntKind.i64.wrap (p.t+4096))
def IZ(p q:Point):Bool:=decide (p.t≤q.t)||decide (p.a<q.a)
def dJ(l:List Point)(i:Nat):Point:=l.getD i ⟨0,0⟩
def zC(n lo hi:Int):Bool:=decide (n<lo)||decide (n>hi)
def gU(l:List Point)(i:Nat):List Fault:=
 opt (pE (dJ l i)) ⟨2,jO i⟩++opt (decide ((i:Int)>0)&&IZ (dJ l i) (dJ l (i-1))) ⟨13,jO i⟩
def hU(l:List Point):List Fault:=opt (zC l.length 1 16) ⟨4,ByteArray.empty⟩++(List.range l.length).flatMap (gU l)
theorem Ve(l:List Point)(i:Nat):(gU l i).length≤2:=by
 unfold gU;rw[List.length_append];have:=cH (pE (dJ l i)) (⟨2,jO i⟩:Fault);have:=cH (decide ((i:Int)>0)&&IZ (dJ l i) (dJ l (i-1))) (⟨13,jO i⟩:Fault);omega
theorem fE{α β:Type}{f:α→List β}{c:Nat}(h:∀x,(f x).length≤c):∀l:List α,(l.flatMap f).length≤c*l.length
 | []=>by simp
 | x::r=>by
   have h1:=h x;have h2:=fE h r;simp only[List.flatMap_cons,List.length_append,List.length_cons,Nat.mul_add,Nat.mul_one];omega
theorem iC{β:Type}(f:Nat→List β)(k:Nat):(List.range (k+1)).flatMap f=(List.range k).flatMap f++f k:=by rw[List.range_succ,List.flatMap_append];simp
theorem cY{l:List Point}{k:Nat}{p:Point}(h:l[k]?=some p):dJ l k=p:=by simp[dJ,List.getD,h]
theorem UZ(l:List Point)(hl:l.length≤1048576):NC Tryz.prog 131 [.sl (l.map bK)] (bF (hU l)) .os:=by
 refine NC.body (c:=Tryz.f131.body.getD .skip) (fun t=>t == 3) mixed Tryz.func131 rfl (by kernel_rfl) ?_;unfold Tryz.f131;simp only[Option.getD_some];simp only[go_sem];refine aL fun j hj=>?_
 simp only[go_sem];refine aW (fun ρ H=>∃j,ρ 0=.sl (l.map bK)∧ρ 3=.os j∧H j=some (bF (opt (zC l.length 1 16) ⟨4,ByteArray.empty⟩))) ?_ fun K hK=>aB (fun hb=>?_) (fun hb=>?_)
 · rintro ρ H ⟨j,h0,h3,hH⟩
   simp only[go_sem,h0,h3];generalize hpre:opt (zC l.length 1 16) (⟨4,ByteArray.empty⟩:Fault)=pre at hH;have hpl:pre.length≤1:=by rw[←hpre];exact cH _ _
   refine⟨fun ρ H=>∃k:Nat,k≤l.length∧ρ 0=.sl (l.map bK)∧ρ 4=int k∧∃j,ρ 3=.os j∧H j=some (bF (pre++(List.range k).flatMap (gU l))),fun ρ _=>l.length-bE (ρ 4),⟨0,Nat.zero_le _,by simp only[go_sem,h0],by simp only[go_sem];rfl,j,by simp only[go_sem,h3],by simpa using hH⟩,?_⟩;rintro ρ H ⟨k,hk,h0,h4,j,h3,hH⟩;generalize hes:pre++(List.range k).flatMap (gU l)=es at hH;have hlen:es.length≤2*k+1:=by
     have:=fE (Ve l) (List.range k);rw[←hes,List.length_append];rw[List.length_range]at this;omega
   simp only[go_sem,h0,h3,h4];refine aB (fun hlt=>?_) (fun hge=>?_)
   · have hlt:=cJ hlt
     obtain⟨p,hp⟩:=aU hlt;have b1:=inB hlt;simp only[go_sem,h0,h3,h4,b1,aH hp];refine aL fun i hi=>?_
     simp only[go_sem];refine aP (r:=⟨136,2,[[int 0,int 0]]⟩) (by rw[aA]) (by simp[dZ]) ?_;simp only[go_sem];have hji:j≠i:=aN hH hi;have hH':aI (aI H i (some ⟨136,2,[[int 0,int 0]]⟩)) i (some ⟨136,2,[bK p]⟩) j=some (bF es):=by rw[aC _ _ _ _ hji,aC _ _ _ _ hji,hH]
     refine aW (fun ρ' H'=>∃j',ρ' 0=.sl (l.map bK)∧ρ' 4=int k∧ρ' 3=.os j'∧ρ' 5=.op i 0 0∧H' i=some ⟨136,2,[bK p]⟩∧j'≠i ∧
       H' j'=some (bF (es++opt (pE p) ⟨2,jO k⟩))) ?_ fun K hK=>aB (fun hb=>?_) (fun hb=>?_)
     · rintro ρ H ⟨j,h0,h4,h3,h5,hi,hji,hH⟩
       generalize hfs:es++opt (pE p) ⟨2,jO k⟩=fs at hH;have hfl:fs.length≤2*k+2:=by
         have:=cH (pE p) (⟨2,jO k⟩:Fault);rw[←hfs,List.length_append];omega
       simp only[go_sem];refine gA (by rfl) (by kernel_rfl) ?_;simp only[go_sem,h0,h3,h4,h5,hi];obtain⟨q,hq⟩:=aU (show k-1<l.length by omega);simp only[go_sem,h0,h3,h4,h5,hi,Tk (show k≤4611686018427387904 by omega),aH hq];have hkk:k≤4611686018427387904:=by omega
       have hg:decide ((k:Int)>0)=true→0≤IntKind.i64.wrap ((k:Int)-1)∧IntKind.i64.wrap ((k:Int)-1)<(l.length:Int):=fun h=>by
         have:(k:Int)>0:=by simpa using h
         rw[nM hkk];omega
       have hpf:pre++(List.range (k+1)).flatMap (gU l)=fs++opt (decide ((k:Int)>0)&&IZ p q) ⟨13,jO k⟩:=by
         rw[iC,←List.append_assoc,hes,←hfs,gU,cY hp,cY hq,List.append_assoc]
       refine⟨hg,fun h=>hg h.1,dW (fun ρ' H'=>ρ' 0=.sl (l.map bK)∧ρ' 4=int k∧∃j,ρ' 3=.os j∧H' j=some (bF (pre++(List.range (k+1)).flatMap (gU l)))) ?_ fun K hK _ _=>aB (fun hb=>?_) (fun hb=>?_)⟩
       · rintro ρ H ⟨h0,h4,j,h3,hH⟩
         simp only[go_sem,h0,h3,h4,bA hkk];exact⟨⟨k+1,hlt,rfl,j,rfl,hH⟩,by simp only[aJ];omega⟩
       · simp only[go_sem,h0,h3,h4]
         refine PC.use (qN _ (by omega)) ?_;simp only[go_sem,h0,h3,h4];refine aX hH ⟨rfl,rfl⟩ (by simp only[go_sem]) (by simp only[List.length_map,List.length_cons,List.length_nil];omega) (fun j' hj'=>?_);simp only[go_sem,h0,h3,h4];refine hK _ _ ⟨by simp only[go_sem,h0],by simp only[go_sem,h4],j',by simp only[go_sem],?_⟩;rw[hpf,iM (by exact hb)];exact fD (l':=[⟨13,jO k⟩]) rfl
       · simp only[go_sem]
         refine hK _ _ ⟨by simp only[go_sem,h0],by simp only[go_sem,h4],j,by simp only[go_sem,h3],?_⟩;rw[hpf,iL (by exact hb),List.append_nil,hH]
     · simp only[go_sem,h0,h3,h4]
       refine PC.use (qN _ (by omega)) ?_;simp only[go_sem,h0,h3,h4];refine aX hH' ⟨rfl,rfl⟩ (by simp only[go_sem]) (by simp only[List.length_map,List.length_cons,List.length_nil];omega) (fun j' hj'=>?_);simp only[go_sem,h0,h3,h4];have hi':=aA (aI H i (some ⟨136,2,[[int 0,int 0]]⟩)) i (some ⟨136,2,[bK p]⟩);refine hK _ _ ⟨j',by simp only[go_sem,h0],by simp only[go_sem,h4],by simp only[go_sem],by simp only[go_sem],dP hi' hji hj',(aN hi' hj').symm,?_⟩;rw[iM (show pE p=true from hb)];exact fD (l':=[⟨2,jO k⟩]) rfl
     · simp only[go_sem]
       refine hK _ _ ⟨j,by simp only[go_sem,h0],by simp only[go_sem,h4],by simp only[go_sem,h3],by simp only[go_sem],by rw[aA],hji,?_⟩;rw[hH',iL (show pE p=false from hb),List.append_nil]
   · have hge:=cM hk hge
     subst hge;simp only[go_sem,h3];exact⟨_,rfl,by rw[hH,←hes,←hpre];rfl⟩
 · simp only[go_sem]
   refine aX (r:=bF []) (by simp only[go_sem];rfl) ⟨rfl,rfl⟩ (by simp only[go_sem]) (by simp) (fun j' hj'=>?_);simp only[go_sem];refine hK _ _ ⟨j',rfl,rfl,?_⟩;rw[iM (by exact hb)];exact fD (l:=[]) (l':=[⟨4,ByteArray.empty⟩]) rfl
 · simp only[go_sem]
   refine hK _ _ ⟨j,rfl,rfl,?_⟩;rw[iL (by exact hb),aA];rfl
def Fr(l:List ByteArray)(i:Nat):ByteArray:=l.getD i ByteArray.empty
theorem Br{l:List ByteArray}{k:Nat}{p:ByteArray}(h:l[k]?=some p):Fr l k=p:=by simp[Fr,List.getD,h]
def qV(i:Nat):ByteArray:=⟨#[112,108,97,99,101,32]⟩++jO i
def rA(l:List ByteArray)(i:Nat):Bool:=(l.take i).any fun s=>s.toList == (Fr l i).toList
def gB(l:List ByteArray)(i:Nat):List Fault:=match lD (Fr l i)with
 | false=>[⟨5,qV i⟩]
 | true=>opt (rA l i) ⟨6,qV i⟩
theorem Ov(l:List ByteArray)(i:Nat):(gB l i).length≤1:=by
 unfold gB;split
 · simp
 · exact cH _ _
def vF(l:List ByteArray):List Fault:=opt (decide ((l.length:Int)>24)) ⟨4,⟨#[112,108,97,99,101,115]⟩⟩++(List.range l.length).flatMap (gB l)
theorem Dq{α:Type}{p:α→Bool}{l:List α}{k:Nat}{x:α}(h:l[k]?=some x):(l.take (k+1)).any p=((l.take k).any p||p x):=by rw[cL h,List.any_append];simp
theorem K0(i:Nat):(qV i).size≤i+7:=by
 have:=nE i;unfold qV;rw[ByteArray.size_append];have:(⟨#[112,108,97,99,101,32]⟩:ByteArray).size=6:=rfl;omega
theorem Az(n:Network)(hl:n.places.length≤1048576)(hs:∀s∈n.places,s.size≤1048576):NC Tryz.prog 68 [.agg (aT n)] (bF (vF n.places)) .os:=by
 refine NC.body (c:=Tryz.f68.body.getD .skip) (fun t=>t == 3) mixed Tryz.func68 rfl (by kernel_rfl) ?_;unfold Tryz.f68;simp only[Option.getD_some];simp only[go_sem];refine aL fun j hj=>?_
 simp only[go_sem];refine aW (fun ρ H=>∃j,ρ 1=.rp (aT n) 0∧ρ 3=.os j∧H j=some (bF (opt (decide ((n.places.length:Int)>24)) ⟨4,⟨#[112,108,97,99,101,115]⟩⟩))) ?_ fun K hK=>aB (fun hb=>?_) (fun hb=>?_)
 · rintro ρ H ⟨j,h1,h3,hH⟩
   simp only[go_sem,h1,h3];generalize hpre:opt (decide ((n.places.length:Int)>24)) (⟨4,⟨#[112,108,97,99,101,115]⟩⟩:Fault)=pre at hH;have hpl:pre.length≤1:=by rw[←hpre];exact cH _ _
   refine⟨fun ρ H=>∃k:Nat,k≤n.places.length∧ρ 1=.rp (aT n) 0∧ρ 4=int k∧∃j,ρ 3=.os j∧H j=some (bF (pre++(List.range k).flatMap (gB n.places))),fun ρ _=>n.places.length-bE (ρ 4),⟨0,Nat.zero_le _,by simp only[go_sem,h1],by simp only[go_sem];rfl,j,by simp only[go_sem,h3],by simpa using hH⟩,?_⟩;rintro ρ H ⟨k,hk,h1,h4,j,h3,hH⟩;generalize hes:pre++(List.range k).flatMap (gB n.places)=es at hH;have hlen:es.length≤k+1:=by
     have:=fE (Ov n.places) (List.range k);rw[←hes,List.length_append];rw[List.length_range]at this;omega
   simp only[go_sem,h1,h3,h4];refine aB (fun hlt=>?_) (fun hge=>?_)
   · have hlt:=cJ hlt
     obtain⟨p,hp⟩:=aU hlt;have b1:=inB hlt;have hkk:k≤4611686018427387904:=by omega
     have hds:=nE k;have hfl:pre++(List.range (k+1)).flatMap (gB n.places)=es++gB n.places k:=by rw[iC,←List.append_assoc,hes]
     simp only[go_sem,h1,h3,h4];refine PC.use (qN _ (by omega)) ?_;simp only[go_sem,h1,h3,h4,b1,aH hp];refine⟨by rw[tV];show((6+(jO k).size:Nat):Int)≤_;omega,?_⟩;refine PC.use (NB p (hs p (jQ hp))) ?_;simp only[go_sem,h1,h3,h4];refine aB (fun hb=>?_) (fun hb=>?_)
     · simp only[go_sem,h1,h3,h4]
       refine aX hH ⟨rfl,rfl⟩ (by simp only[go_sem]) (by simp only[List.length_map,List.length_cons,List.length_nil];omega) (fun j' hj'=>?_);simp only[go_sem,h1,h3,h4,bA hkk];refine⟨⟨k+1,hlt,rfl,j',rfl,?_⟩,by simp only[aJ];omega⟩;have hn:lD (Fr n.places k)=false:=by rw[Br hp];simpa using hb
       rw[hfl,gB,hn];exact fD (l':=[⟨5,qV k⟩]) rfl
     · simp only[go_sem,h1,h3,h4]
       have hn:lD (Fr n.places k)=true:=by rw[Br hp];simpa using hb
       refine⟨fun ρ H'=>∃m:Nat,m≤k∧ρ 1=.rp (aT n) 0∧ρ 3=.os j∧ρ 4=int k∧ρ 5=str (qV k)∧ρ 6=boo ((n.places.take m).any fun s=>s.toList == p.toList)∧ρ 7=int m∧H'=H,fun ρ _=>k-bE (ρ 7),⟨0,Nat.zero_le _,by simp only[go_sem,h1],by simp only[go_sem,h3],by simp only[go_sem,h4],by simp only[go_sem];rfl,by simp only[go_sem];rfl,by simp only[go_sem];rfl,rfl⟩,?_⟩;rintro ρ H' ⟨m,hm,h1,h3,h4,h5,h6,h7,rfl⟩;simp only[go_sem,h1,h3,h4,h5,h6,h7];refine aB (fun hlt2=>?_) (fun hge2=>?_)
       · have hlt2:=cJ hlt2
         obtain⟨q,hq⟩:=aU (show m<n.places.length by omega);have b2:=inB (show m<n.places.length by omega);simp only[go_sem];refine gA (by rfl) (by kernel_rfl) ?_;simp only[go_sem,h1,h3,h4,h5,h6,h7,b1,b2,aH hp,aH hq,bA (show m≤4611686018427387904 by omega)];refine⟨⟨m+1,hlt2,?_,rfl⟩,by simp only[aJ];omega⟩;rw[Dq hq]
       · have hge2:=cM hm hge2
         subst hge2;simp only[go_sem,h6];have hsb:rA n.places m=(n.places.take m).any fun s=>s.toList == p.toList:=by unfold rA;rw[Br hp]
         refine dW (fun ρ' H'=>ρ' 1=.rp (aT n) 0∧ρ' 4=int m∧∃j,ρ' 3=.os j∧H' j=some (bF (pre++(List.range (m+1)).flatMap (gB n.places)))) ?_ fun K hK _ _=>aB (fun hb=>?_) (fun hb=>?_)
         · rintro ρ H ⟨h1,h4,j,h3,hH⟩
           simp only[go_sem,h1,h3,h4,bA hkk];exact⟨⟨m+1,hlt,rfl,j,rfl,hH⟩,by simp only[aJ];omega⟩
         · simp only[go_sem,h1,h3,h4,h5]
           refine aX hH ⟨rfl,rfl⟩ (by simp only[go_sem]) (by simp only[List.length_map,List.length_cons,List.length_nil];omega) (fun j' hj'=>?_);simp only[go_sem];refine hK _ _ ⟨by simp only[go_sem,h1],by simp only[go_sem,h4],j',by simp only[go_sem],?_⟩;rw[hfl,gB,hn];show _=some (bF (es++opt (rA n.places m) ⟨6,qV m⟩));rw[iM (hsb.trans hb)];exact fD (l':=[⟨6,qV m⟩]) rfl
         · simp only[go_sem]
           refine hK _ _ ⟨by simp only[go_sem,h1],by simp only[go_sem,h4],j,by simp only[go_sem,h3],?_⟩;rw[hfl,gB,hn];show _=some (bF (es++opt (rA n.places m) ⟨6,qV m⟩));rw[iL (hsb.trans hb),List.append_nil,hH]
   · have hge:=cM hk hge
     subst hge;simp only[go_sem,h3];exact⟨_,rfl,by rw[hH,←hes,←hpre];rfl⟩
 · simp only[go_sem]
   refine aX (r:=bF []) (by simp only[go_sem];rfl) ⟨rfl,rfl⟩ (by simp only[go_sem]) (by simp) (fun j' hj'=>?_);simp only[go_sem];refine hK _ _ ⟨j',rfl,rfl,?_⟩;rw[iM (by exact hb)];exact fD (l:=[]) (l':=[⟨4,⟨#[112,108,97,99,101,115]⟩⟩]) rfl
 · simp only[go_sem]
   refine hK _ _ ⟨j,rfl,rfl,?_⟩;rw[iL (by exact hb),aA];rfl
def MA(l:List VType)(i:Nat):VType:=l.getD i ⟨ByteArray.empty,0,0,0,[],0,0,0,0,0,0,0,0,0⟩
theorem Db{l:List VType}{k:Nat}{p:VType}(h:l[k]?=some p):MA l k=p:=by simp[MA,List.getD,h]
def lL(n:Network)(l:List VType)(k:Nat)(t:VType):List Int:=
 []++opt (!lD t.name) 5++opt (sV l k t.name) 6++opt (!inR t.count 0 10) 22++opt (!inR t.src 0 (n.places.length-1)|| !inR t.dst 0 (n.places.length-1)) 11
   ++ opt (!vZ t.cap (mJ l)) 17++opt (!inR t.skills 0 1073741823) 18++opt (!inR t.start 0 t.close||decide (t.close>4096)) 15
   ++ opt (!inR t.drive 1 4096|| !inR t.rest 0 4096) 16++opt (!inR t.profile 0 7|| !inR t.fixed 0 100000|| !inR t.perMile 0 100|| !inR t.perTick 0 100) 2
theorem Us(n : Network)(l : List VType)(k : Nat)(hk : k < l.length)(hl : l.length ≤ 1048576)(hs : ∀ t ∈ l, t.name.size ≤ 1048576 ∧ t.cap.length ≤ 1048576)(hp : n.places.length ≤ 1048576):
   PC Tryz.prog 71 [.agg (aT n),.sl (l.map bC),int k] (.sl ((lL n l k (MA l k)).map aO)):=by
 refine PC.body (c:=Tryz.f71.body.getD .skip) (fun t=>t == 8) mixed Tryz.func71 rfl (by kernel_rfl) ?_;unfold Tryz.f71;simp only[Option.getD_some];simp only[go_sem];obtain⟨t,ht⟩:=aU hk;have b1:=inB hk;have hst:=hs t (jQ ht);rw[Db ht];simp only[go_sem,b1,aH ht];refine aL fun i hi=>?_
 simp only[go_sem];refine aP (aA _ _ _) (by simp[zT]) ?_;simp only[go_sem];refine aL fun j hj=>?_
 have hi':=kA (r':=(⟨35,1,[]⟩:Row)) (aA _ _ _) hj;simp only[go_sem,hi'];refine PC.use (NB _ hst.1) ?_;simp only[go_sem];refine oV (fun ρ' H'=>ρ' 1=.sl (l.map bC)∧ρ' 2=int k∧ρ' 3=.rp (aT n) 0∧ρ' 7=.op i 0 0∧H' i=some (pC t)∧∃j',ρ' 8=.os j'∧j'≠i∧H' j'=some (kN [])) ⟨by simp only[go_sem],by simp only[go_sem],by simp only[go_sem],by simp only[go_sem],kA (aA _ _ _) hj,_,by simp only[go_sem],(aN (aA _ _ _) hj).symm,aA _ _ _⟩ ?_;rintro ρ H ⟨h1,h2,h3,h7,hi,j,h8,hji,hH⟩;generalize hes0:([]:List Int)=es0 at hH;have hln0:es0.length≤0:=by rw[←hes0];exact Nat.le_refl _
 refine aW (fun ρ' H'=>ρ' 1=.sl (l.map bC)∧ρ' 2=int k∧ρ' 3=.rp (aT n) 0∧ρ' 7=.op i 0 0∧H' i=some (pC t)∧∃j',ρ' 8=.os j'∧j'≠i∧H' j'=some (kN (es0++opt (!lD t.name) 5))) ?_ fun K hK=>aB (fun hb=>?_) (fun hb=>?_)
 rotate_left
 · simp only[go_sem,h1,h2,h3,h7,h8]
   refine aX hH ⟨rfl,rfl⟩ (by simp only[go_sem]) (by simp only[List.length_map,List.length_cons,List.length_nil];omega) (fun j' hj'=>?_);simp only[go_sem];refine hK _ _ ⟨by simp only[go_sem,h1],by simp only[go_sem,h2],by simp only[go_sem,h3],by simp only[go_sem,h7],dP hi hji hj',j',by simp only[go_sem],(aN hi hj').symm,?_⟩;rw[iM (show(!lD t.name)=true from hb)];exact gX (l':=[5]) rfl
 · simp only[go_sem]
   refine hK _ _ ⟨by simp only[go_sem,h1],by simp only[go_sem,h2],by simp only[go_sem,h3],by simp only[go_sem,h7],hi,j,by simp only[go_sem,h8],hji,?_⟩;rw[iL (show(!lD t.name)=false from hb),List.append_nil,hH]
 clear hH h1 h2 h3 h7 h8;rintro ρ H ⟨h1,h2,h3,h7,hi,j,h8,hji,hH⟩;generalize hes1:es0++opt (!lD t.name) (5:Int)=es1 at hH;have hln1:es1.length≤es0.length+1:=by rw[←hes1,List.length_append];have:=cH (!lD t.name) (5:Int);omega
 simp only[go_sem,h1,h2,h3,h7,h8,hi];refine PC.use (XK l k t.name (by omega) hl) ?_;simp only[go_sem];refine aW (fun ρ' H'=>ρ' 1=.sl (l.map bC)∧ρ' 2=int k∧ρ' 3=.rp (aT n) 0∧ρ' 7=.op i 0 0∧H' i=some (pC t)∧∃j',ρ' 8=.os j'∧j'≠i∧H' j'=some (kN (es1++opt (sV l k t.name) 6))) ?_ fun K hK=>aB (fun hb=>?_) (fun hb=>?_)
 rotate_left
 · simp only[go_sem,h1,h2,h3,h7,h8]
   refine aX hH ⟨rfl,rfl⟩ (by simp only[go_sem]) (by simp only[List.length_map,List.length_cons,List.length_nil];omega) (fun j' hj'=>?_);simp only[go_sem];refine hK _ _ ⟨by simp only[go_sem,h1],by simp only[go_sem,h2],by simp only[go_sem,h3],by simp only[go_sem,h7],dP hi hji hj',j',by simp only[go_sem],(aN hi hj').symm,?_⟩;rw[iM (show(sV l k t.name)=true from hb)];exact gX (l':=[6]) rfl
 · simp only[go_sem]
   refine hK _ _ ⟨by simp only[go_sem,h1],by simp only[go_sem,h2],by simp only[go_sem,h3],by simp only[go_sem,h7],hi,j,by simp only[go_sem,h8],hji,?_⟩;rw[iL (show(sV l k t.name)=false from hb),List.append_nil,hH]
 clear hH h1 h2 h3 h7 h8;rintro ρ H ⟨h1,h2,h3,h7,hi,j,h8,hji,hH⟩;generalize hes2:es1++opt (sV l k t.name) (6:Int)=es2 at hH;have hln2:es2.length≤es1.length+1:=by rw[←hes2,List.length_append];have:=cH (sV l k t.name) (6:Int);omega
 simp only[go_sem,h1,h2,h3,h7,h8,hi];refine PC.use (oC _ _ _) ?_;simp only[go_sem];refine aW (fun ρ' H'=>ρ' 1=.sl (l.map bC)∧ρ' 2=int k∧ρ' 3=.rp (aT n) 0∧ρ' 7=.op i 0 0∧H' i=some (pC t)∧∃j',ρ' 8=.os j'∧j'≠i∧H' j'=some (kN (es2++opt (!inR t.count 0 10) 22))) ?_ fun K hK=>aB (fun hb=>?_) (fun hb=>?_)
 rotate_left
 · simp only[go_sem,h1,h2,h3,h7,h8]
   refine aX hH ⟨rfl,rfl⟩ (by simp only[go_sem]) (by simp only[List.length_map,List.length_cons,List.length_nil];omega) (fun j' hj'=>?_);simp only[go_sem];refine hK _ _ ⟨by simp only[go_sem,h1],by simp only[go_sem,h2],by simp only[go_sem,h3],by simp only[go_sem,h7],dP hi hji hj',j',by simp only[go_sem],(aN hi hj').symm,?_⟩;rw[iM (show(!inR t.count 0 10)=true from hb)];exact gX (l':=[22]) rfl
 · simp only[go_sem]
   refine hK _ _ ⟨by simp only[go_sem,h1],by simp only[go_sem,h2],by simp only[go_sem,h3],by simp only[go_sem,h7],hi,j,by simp only[go_sem,h8],hji,?_⟩;rw[iL (show(!inR t.count 0 10)=false from hb),List.append_nil,hH]
 clear hH h1 h2 h3 h7 h8;rintro ρ H ⟨h1,h2,h3,h7,hi,j,h8,hji,hH⟩;generalize hes3:es2++opt (!inR t.count 0 10) (22:Int)=es3 at hH;have hln3:es3.length≤es2.length+1:=by rw[←hes3,List.length_append];have:=cH (!inR t.count 0 10) (22:Int);omega
 simp only[go_sem,h1,h2,h3,h7,h8,hi,nM (show n.places.length≤4611686018427387904 by omega)];refine PC.use (oC _ _ _) ?_;simp only[go_sem,h1,h2,h3,h7,h8,hi,nM (show n.places.length≤4611686018427387904 by omega)];refine⟨_,fun _=>(oC _ _ _).q rfl,?_⟩;simp only[go_sem,h1,h2,h3,h7,h8,hi];refine aW (fun ρ' H'=>ρ' 1=.sl (l.map bC)∧ρ' 2=int k∧ρ' 3=.rp (aT n) 0∧ρ' 7=.op i 0 0∧H' i=some (pC t)∧∃j',ρ' 8=.os j'∧j'≠i∧H' j'=some (kN (es3++opt (!inR t.src 0 (n.places.length-1)|| !inR t.dst 0 (n.places.length-1)) 11))) ?_ fun K hK=>aB (fun hb=>?_) (fun hb=>?_)
 rotate_left
 · simp only[go_sem,h1,h2,h3,h7,h8]
   refine aX hH ⟨rfl,rfl⟩ (by simp only[go_sem]) (by simp only[List.length_map,List.length_cons,List.length_nil];omega) (fun j' hj'=>?_);simp only[go_sem];refine hK _ _ ⟨by simp only[go_sem,h1],by simp only[go_sem,h2],by simp only[go_sem,h3],by simp only[go_sem,h7],dP hi hji hj',j',by simp only[go_sem],(aN hi hj').symm,?_⟩;rw[iM (show(!inR t.src 0 (n.places.length-1)|| !inR t.dst 0 (n.places.length-1))=true from hb)];exact gX (l':=[11]) rfl
 · simp only[go_sem]
   refine hK _ _ ⟨by simp only[go_sem,h1],by simp only[go_sem,h2],by simp only[go_sem,h3],by simp only[go_sem,h7],hi,j,by simp only[go_sem,h8],hji,?_⟩;rw[iL (show(!inR t.src 0 (n.places.length-1)|| !inR t.dst 0 (n.places.length-1))=false from hb),List.append_nil,hH]
 clear hH h1 h2 h3 h7 h8;rintro ρ H ⟨h1,h2,h3,h7,hi,j,h8,hji,hH⟩;generalize hes4:es3++opt (!inR t.src 0 (n.places.length-1)|| !inR t.dst 0 (n.places.length-1)) (11:Int)=es4 at hH;have hln4:es4.length≤es3.length+1:=by rw[←hes4,List.length_append];have:=cH (!inR t.src 0 (n.places.length-1)|| !inR t.dst 0 (n.places.length-1)) (11:Int);omega
 simp only[go_sem,h1,h2,h3,h7,h8,hi];refine gA (by rfl) (by kernel_rfl) ?_;simp only[go_sem,h1,h2,h3,h7,h8,hi];refine⟨_,(VN l).q rfl,?_⟩;simp only[go_sem,h1,h2,h3,h7,h8,hi];refine⟨_,(adD t.cap (mJ l) hst.2).q rfl,?_⟩;simp only[go_sem,h1,h2,h3,h7,h8,hi];refine aW (fun ρ' H'=>ρ' 1=.sl (l.map bC)∧ρ' 2=int k∧ρ' 3=.rp (aT n) 0∧ρ' 7=.op i 0 0∧H' i=some (pC t)∧∃j',ρ' 8=.os j'∧j'≠i∧H' j'=some (kN (es4++opt (!vZ t.cap (mJ l)) 17))) ?_ fun K hK=>aB (fun hb=>?_) (fun hb=>?_)
 rotate_left
 · simp only[go_sem,h1,h2,h3,h7,h8]
   refine aX hH ⟨rfl,rfl⟩ (by simp only[go_sem]) (by simp only[List.length_map,List.length_cons,List.length_nil];omega) (fun j' hj'=>?_);simp only[go_sem];refine hK _ _ ⟨by simp only[go_sem,h1],by simp only[go_sem,h2],by simp only[go_sem,h3],by simp only[go_sem,h7],dP hi hji hj',j',by simp only[go_sem],(aN hi hj').symm,?_⟩;rw[iM (show(!vZ t.cap (mJ l))=true from hb)];exact gX (l':=[17]) rfl
 · simp only[go_sem]
   refine hK _ _ ⟨by simp only[go_sem,h1],by simp only[go_sem,h2],by simp only[go_sem,h3],by simp only[go_sem,h7],hi,j,by simp only[go_sem,h8],hji,?_⟩;rw[iL (show(!vZ t.cap (mJ l))=false from hb),List.append_nil,hH]
 clear hH h1 h2 h3 h7 h8;rintro ρ H ⟨h1,h2,h3,h7,hi,j,h8,hji,hH⟩;generalize hes5:es4++opt (!vZ t.cap (mJ l)) (17:Int)=es5 at hH;have hln5:es5.length≤es4.length+1:=by rw[←hes5,List.length_append];have:=cH (!vZ t.cap (mJ l)) (17:Int);omega
 simp only[go_sem,h1,h2,h3,h7,h8,hi];refine PC.use (oC _ _ _) ?_;simp only[go_sem,h1,h2,h3,h7,h8,hi];refine aW (fun ρ' H'=>ρ' 1=.sl (l.map bC)∧ρ' 2=int k∧ρ' 3=.rp (aT n) 0∧ρ' 7=.op i 0 0∧H' i=some (pC t)∧∃j',ρ' 8=.os j'∧j'≠i∧H' j'=some (kN (es5++opt (!inR t.skills 0 1073741823) 18))) ?_ fun K hK=>aB (fun hb=>?_) (fun hb=>?_)
 rotate_left
 · simp only[go_sem,h1,h2,h3,h7,h8]
   refine aX hH ⟨rfl,rfl⟩ (by simp only[go_sem]) (by simp only[List.length_map,List.length_cons,List.length_nil];omega) (fun j' hj'=>?_);simp only[go_sem];refine hK _ _ ⟨by simp only[go_sem,h1],by simp only[go_sem,h2],by simp only[go_sem,h3],by simp only[go_sem,h7],dP hi hji hj',j',by simp only[go_sem],(aN hi hj').symm,?_⟩;rw[iM (show(!inR t.skills 0 1073741823)=true from hb)];exact gX (l':=[18]) rfl
 · simp only[go_sem]
   refine hK _ _ ⟨by simp only[go_sem,h1],by simp only[go_sem,h2],by simp only[go_sem,h3],by simp only[go_sem,h7],hi,j,by simp only[go_sem,h8],hji,?_⟩;rw[iL (show(!inR t.skills 0 1073741823)=false from hb),List.append_nil,hH]
 clear hH h1 h2 h3 h7 h8;rintro ρ H ⟨h1,h2,h3,h7,hi,j,h8,hji,hH⟩;generalize hes6:es5++opt (!inR t.skills 0 1073741823) (18:Int)=es6 at hH;have hln6:es6.length≤es5.length+1:=by rw[←hes6,List.length_append];have:=cH (!inR t.skills 0 1073741823) (18:Int);omega
 simp only[go_sem,h1,h2,h3,h7,h8,hi];refine PC.use (oC _ _ _) ?_;simp only[go_sem,h1,h2,h3,h7,h8,hi];refine aW (fun ρ' H'=>ρ' 1=.sl (l.map bC)∧ρ' 2=int k∧ρ' 3=.rp (aT n) 0∧ρ' 7=.op i 0 0∧H' i=some (pC t)∧∃j',ρ' 8=.os j'∧j'≠i∧H' j'=some (kN (es6++opt (!inR t.start 0 t.close||decide (t.close>4096)) 15))) ?_ fun K hK=>aB (fun hb=>?_) (fun hb=>?_)
 rotate_left
 · simp only[go_sem,h1,h2,h3,h7,h8]
   refine aX hH ⟨rfl,rfl⟩ (by simp only[go_sem]) (by simp only[List.length_map,List.length_cons,List.length_nil];omega) (fun j' hj'=>?_);simp only[go_sem];refine hK _ _ ⟨by simp only[go_sem,h1],by simp only[go_sem,h2],by simp only[go_sem,h3],by simp only[go_sem,h7],dP hi hji hj',j',by simp only[go_sem],(aN hi hj').symm,?_⟩;rw[iM (show(!inR t.start 0 t.close||decide (t.close>4096))=true from hb)];exact gX (l':=[15]) rfl
 · simp only[go_sem]
   refine hK _ _ ⟨by simp only[go_sem,h1],by simp only[go_sem,h2],by simp only[go_sem,h3],by simp only[go_sem,h7],hi,j,by simp only[go_sem,h8],hji,?_⟩;rw[iL (show(!inR t.start 0 t.close||decide (t.close>4096))=false from hb),List.append_nil,hH]
 clear hH h1 h2 h3 h7 h8;rintro ρ H ⟨h1,h2,h3,h7,hi,j,h8,hji,hH⟩;generalize hes7:es6++opt (!inR t.start 0 t.close||decide (t.close>4096)) (15:Int)=es7 at hH;have hln7:es7.length≤es6.length+1:=by rw[←hes7,List.length_append];have:=cH (!inR t.start 0 t.close||decide (t.close>4096)) (15:Int);omega
 simp only[go_sem,h1,h2,h3,h7,h8,hi];refine PC.use (oC _ _ _) ?_;simp only[go_sem,h1,h2,h3,h7,h8,hi];refine⟨_,fun _=>(oC _ _ _).q rfl,?_⟩;simp only[go_sem,h1,h2,h3,h7,h8,hi];refine aW (fun ρ' H'=>ρ' 1=.sl (l.map bC)∧ρ' 2=int k∧ρ' 3=.rp (aT n) 0∧ρ' 7=.op i 0 0∧H' i=some (pC t)∧∃j',ρ' 8=.os j'∧j'≠i∧H' j'=some (kN (es7++opt (!inR t.drive 1 4096|| !inR t.rest 0 4096) 16))) ?_ fun K hK=>aB (fun hb=>?_) (fun hb=>?_)
 rotate_left
 · simp only[go_sem,h1,h2,h3,h7,h8]
   refine aX hH ⟨rfl,rfl⟩ (by simp only[go_sem]) (by simp only[List.length_map,List.length_cons,List.length_nil];omega) (fun j' hj'=>?_);simp only[go_sem];refine hK _ _ ⟨by simp only[go_sem,h1],by simp only[go_sem,h2],by simp only[go_sem,h3],by simp only[go_sem,h7],dP hi hji hj',j',by simp only[go_sem],(aN hi hj').symm,?_⟩;rw[iM (show(!inR t.drive 1 4096|| !inR t.rest 0 4096)=true from hb)];exact gX (l':=[16]) rfl
 · simp only[go_sem]
   refine hK _ _ ⟨by simp only[go_sem,h1],by simp only[go_sem,h2],by simp only[go_sem,h3],by simp only[go_sem,h7],hi,j,by simp only[go_sem,h8],hji,?_⟩;rw[iL (show(!inR t.drive 1 4096|| !inR t.rest 0 4096)=false from hb),List.append_nil,hH]
 clear hH h1 h2 h3 h7 h8;rintro ρ H ⟨h1,h2,h3,h7,hi,j,h8,hji,hH⟩;generalize hes8:es7++opt (!inR t.drive 1 4096|| !inR t.rest 0 4096) (16:Int)=es8 at hH;have hln8:es8.length≤es7.length+1:=by rw[←hes8,List.length_append];have:=cH (!inR t.drive 1 4096|| !inR t.rest 0 4096) (16:Int);omega
 simp only[go_sem,h1,h2,h3,h7,h8,hi];refine PC.use (oC _ _ _) ?_;simp only[go_sem,h1,h2,h3,h7,h8,hi];refine⟨_,fun _=>(oC _ _ _).q rfl,?_⟩;simp only[go_sem,h1,h2,h3,h7,h8,hi];refine⟨_,fun _=>(oC _ _ _).q rfl,?_⟩;simp only[go_sem,h1,h2,h3,h7,h8,hi];refine⟨_,fun _=>(oC _ _ _).q rfl,?_⟩;simp only[go_sem,h1,h2,h3,h7,h8,hi];refine aW (fun ρ' H'=>ρ' 1=.sl (l.map bC)∧ρ' 2=int k∧ρ' 3=.rp (aT n) 0∧ρ' 7=.op i 0 0∧H' i=some (pC t)∧∃j',ρ' 8=.os j'∧j'≠i∧H' j'=some (kN (es8++opt (!inR t.profile 0 7|| !inR t.fixed 0 100000|| !inR t.perMile 0 100|| !inR t.perTick 0 100) 2))) ?_ fun K hK=>aB (fun hb=>?_) (fun hb=>?_)
 rotate_left
 · simp only[go_sem,h1,h2,h3,h7,h8]
   refine aX hH ⟨rfl,rfl⟩ (by simp only[go_sem]) (by simp only[List.length_map,List.length_cons,List.length_nil];omega) (fun j' hj'=>?_);simp only[go_sem];refine hK _ _ ⟨by simp only[go_sem,h1],by simp only[go_sem,h2],by simp only[go_sem,h3],by simp only[go_sem,h7],dP hi hji hj',j',by simp only[go_sem],(aN hi hj').symm,?_⟩;rw[iM (show(!inR t.profile 0 7|| !inR t.fixed 0 100000|| !inR t.perMile 0 100|| !inR t.perTick 0 100)=true from hb)];exact gX (l':=[2]) rfl
 · simp only[go_sem]
   refine hK _ _ ⟨by simp only[go_sem,h1],by simp only[go_sem,h2],by simp only[go_sem,h3],by simp only[go_sem,h7],hi,j,by simp only[go_sem,h8],hji,?_⟩;rw[iL (show(!inR t.profile 0 7|| !inR t.fixed 0 100000|| !inR t.perMile 0 100|| !inR t.perTick 0 100)=false from hb),List.append_nil,hH]
 clear hH h1 h2 h3 h7 h8;rintro ρ H ⟨h1,h2,h3,h7,hi,j,h8,hji,hH⟩;generalize hes9:es8++opt (!inR t.profile 0 7|| !inR t.fixed 0 100000|| !inR t.perMile 0 100|| !inR t.perTick 0 100) (2:Int)=es9 at hH;have hln9:es9.length≤es8.length+1:=by rw[←hes9,List.length_append];have:=cH (!inR t.profile 0 7|| !inR t.fixed 0 100000|| !inR t.perMile 0 100|| !inR t.perTick 0 100) (2:Int);omega
 simp only[go_sem,h1,h2,h3,h7,h8,hi];have hall:lL n l k t=es9:=by unfold lL;rw[hes0,hes1,hes2,hes3,hes4,hes5,hes6,hes7,hes8,hes9]
 rw[hall];exact .row _ _ _ hH (ConvE.refl _)
def iE(n:Network)(l:List VType)(k:Nat):List Fault:=(lL n l k (MA l k)).map fun e=>⟨e,jO k⟩
def qS(n:Network)(l:List VType):List Fault:=opt (!inR l.length 1 6) ⟨4,ByteArray.empty⟩++(List.range l.length).flatMap (iE n l)
theorem uN(n:Network)(l:List VType)(k:Nat)(t:VType):(lL n l k t).length≤9:=by
 unfold lL;simp only[List.length_append,List.length_nil];have h:=fun(b:Bool) (x:Int)=>cH b x
 have h1:=h (!lD t.name) 5;have h2:=h (sV l k t.name) 6;have h3:=h (!inR t.count 0 10) 22;have h4:=h (!inR t.src 0 (n.places.length-1)|| !inR t.dst 0 (n.places.length-1)) 11;have h5:=h (!vZ t.cap (mJ l)) 17;have h6:=h (!inR t.skills 0 1073741823) 18;have h7:=h (!inR t.start 0 t.close||decide (t.close>4096)) 15;have h8:=h (!inR t.drive 1 4096|| !inR t.rest 0 4096) 16;have h9:=h (!inR t.profile 0 7|| !inR t.fixed 0 100000|| !inR t.perMile 0 100|| !inR t.perTick 0 100) 2;omega
theorem Al{α β:Type}{f:α→β}{l:List α}{k:Nat}{x:α}(h:l[k]?=some x):(l.take (k+1)).map f=(l.take k).map f++[f x]:=by rw[cL h,List.map_append];rfl
theorem Wq(n : Network)(l : List VType)(hl : l.length ≤ 1048576)(hs : ∀ t ∈ l, t.name.size ≤ 1048576 ∧ t.cap.length ≤ 1048576)(hp : n.places.length ≤ 1048576):
   NC Tryz.prog 31 [.agg (aT n),.sl (l.map bC)] (bF (qS n l)) .os:=by
 refine NC.body (c:=Tryz.f31.body.getD .skip) (fun t=>t == 5) mixed Tryz.func31 rfl (by kernel_rfl) ?_;unfold Tryz.f31;simp only[Option.getD_some];simp only[go_sem];refine aL fun j hj=>?_
 simp only[go_sem];refine PC.use (oC _ _ _) ?_;simp only[go_sem];refine oV (fun ρ' H'=>ρ' 1=.sl (l.map bC)∧ρ' 2=.rp (aT n) 0∧∃j',ρ' 5=.os j'∧H' j'=some (bF [])) ⟨by simp only[go_sem],by simp only[go_sem],_,by simp only[go_sem],aA _ _ _⟩ ?_;rintro ρ H ⟨h1,h2,j,h5,hH⟩;generalize hes0:([]:List Fault)=es0 at hH;have hln0:es0.length≤0:=by rw[←hes0];exact Nat.le_refl _
 refine aW (fun ρ' H'=>ρ' 1=.sl (l.map bC)∧ρ' 2=.rp (aT n) 0∧∃j',ρ' 5=.os j'∧H' j'=some (bF (es0++opt (!inR l.length 1 6) ⟨4,ByteArray.empty⟩))) ?_ fun K hK=>aB (fun hb=>?_) (fun hb=>?_)
 rotate_left
 · simp only[go_sem,h1,h2,h5]
   refine aX hH ⟨rfl,rfl⟩ (by simp only[go_sem]) (by simp only[List.length_map,List.length_cons,List.length_nil];omega) (fun j' hj'=>?_);simp only[go_sem];refine hK _ _ ⟨by simp only[go_sem,h1],by simp only[go_sem,h2],j',by simp only[go_sem],?_⟩;rw[iM (show(!inR l.length 1 6)=true from hb)];exact fD (l':=[⟨4,ByteArray.empty⟩]) rfl
 · simp only[go_sem]
   refine hK _ _ ⟨by simp only[go_sem,h1],by simp only[go_sem,h2],j,by simp only[go_sem,h5],?_⟩;rw[iL (show(!inR l.length 1 6)=false from hb),List.append_nil,hH]
 clear hH h1 h2 h5;rintro ρ H ⟨h1,h2,j,h5,hH⟩;generalize hes1:es0++opt (!inR l.length 1 6) (⟨4,ByteArray.empty⟩:Fault)=es1 at hH;have hln1:es1.length≤es0.length+1:=by rw[←hes1,List.length_append];have:=cH (!inR l.length 1 6) (⟨4,ByteArray.empty⟩:Fault);omega
 simp only[go_sem,h1,h2];refine⟨fun ρ H=>∃k:Nat,k≤l.length∧ρ 1=.sl (l.map bC)∧ρ 2=.rp (aT n) 0∧ρ 6=int k∧∃j,ρ 5=.os j∧H j=some (bF (es1++(List.range k).flatMap (iE n l))),fun ρ _=>l.length-bE (ρ 6),⟨0,Nat.zero_le _,by simp only[go_sem,h1],by simp only[go_sem,h2],by simp only[go_sem];rfl,j,by simp only[go_sem,h5],by simpa using hH⟩,?_⟩;clear hH h1 h2 h5 hj;rintro ρ H ⟨k,hk,h1,h2,h6,j,h5,hH⟩;generalize hes:es1++(List.range k).flatMap (iE n l)=es at hH;have hlen:es.length≤9*k+1:=by
   have:=fE (f:=iE n l) (c:=9) (fun x=>by unfold iE;rw[List.length_map];exact uN _ _ _ _) (List.range k);rw[←hes,List.length_append];rw[List.length_range]at this;omega
 simp only[go_sem,h1,h2,h6,h5];refine aB (fun hlt=>?_) (fun hge=>?_)
 · have hlt:=cJ hlt
   have hkk:k≤4611686018427387904:=by omega
   have hfl:es1++(List.range (k+1)).flatMap (iE n l)=es++iE n l k:=by rw[iC,←List.append_assoc,hes]
   simp only[go_sem,h1,h2,h6];refine PC.use (Us n l k hlt hl hs hp) ?_;simp only[go_sem];have hel:=uN n l k (MA l k);have htf:iE n l k=(lL n l k (MA l k)).map fun e=>⟨e,jO k⟩:=rfl
   generalize lL n l k (MA l k)=er at hel htf;refine⟨fun ρ H=>∃m:Nat,m≤er.length∧ρ 1=.sl (l.map bC)∧ρ 2=.rp (aT n) 0∧ρ 6=int k∧ρ 7=.sl (er.map aO)∧ρ 8=int m∧∃j,ρ 5=.os j∧H j=some (bF (es++(er.take m).map fun e=>⟨e,jO k⟩)),fun ρ _=>er.length-bE (ρ 8),⟨0,Nat.zero_le _,by simp only[go_sem,h1],by simp only[go_sem,h2],by simp only[go_sem,h6],by simp only[go_sem],by simp only[go_sem];rfl,j,by simp only[go_sem,h5],by simpa using hH⟩,?_⟩;clear hH h1 h2 h5 h6;rintro ρ H ⟨m,hm,h1,h2,h6,h7,h8,j,h5,hH⟩;simp only[go_sem,h1,h2,h6,h5,h7,h8];refine aB (fun hlt2=>?_) (fun hge2=>?_)
   · have hlt2:=cJ hlt2
     obtain⟨e,he⟩:=aU hlt2;have b2:=inB hlt2;simp only[go_sem];refine IL (by kernel_rfl) ?_;simp only[go_sem,h1,h2,h6,h5,h7,h8,b2,aH he];refine⟨_,(qN _ (by omega)).q rfl,?_⟩;simp only[go_sem];refine aX hH ⟨rfl,rfl⟩ (by simp only[go_sem]) (by simp only[List.length_map,List.length_append,List.length_take,List.length_cons,List.length_nil];omega) (fun j' hj'=>?_);simp only[go_sem,h1,h2,h6,h7,h8,bA (show m≤4611686018427387904 by omega)];refine⟨⟨m+1,hlt2,rfl,j',rfl,?_⟩,by simp only[aJ];omega⟩;rw[Al he,←List.append_assoc];exact fD (l':=[⟨e,jO k⟩]) rfl
   · have hge2:=cM hm hge2
     subst hge2;simp only[go_sem,h1,h2,h6,h5,bA hkk];refine⟨⟨k+1,hlt,rfl,j,rfl,?_⟩,by simp only[aJ];omega⟩;rw[hfl,hH,htf,List.take_length]
 · have hge:=cM hk hge
   subst hge;simp only[go_sem,h5];exact⟨_,rfl,by rw[hH,←hes,←hes1,←hes0];rfl⟩
end Go.Proofs.YtdlijlecpopadaaGreatDoor
