/- Texts joined by a program: RefA. -/
import Derived.Test.YtdlijlecpopadaaGreatDoorZy11

set_option linter.unusedSimpArgs false
set_option linter.unusedVariables false
namespace Go.Proofs.YtdlijlecpopadaaGreatDoor
open Go.Aw Go.Aw.D Go.Proofs Ty
set_option maxRecDepth 100000
def inR(n lo hi:Int):Bool:=decide (n≥lo)&&decide (n≤hi)
theorem nO(n lo hi:Int):PC Tryz.prog 70 [int n,int lo,int hi] (boo (inR n lo hi)):=by
 refine PC.body (c:=Tryz.f70.body.getD .skip) (fun _=>false) mixed Tryz.func70 rfl (by kernel_rfl) ?_;unfold Tryz.f70;simp only[Option.getD_some];simp only[go_sem];exact .refl _
theorem AJ(n lo hi:Int):PC Tryz.prog 136 [int n,int lo,int hi] (boo (inR n lo hi)):=by
 refine PC.body (c:=Tryz.f136.body.getD .skip) (fun _=>false) mixed Tryz.func136 rfl (by kernel_rfl) ?_;unfold Tryz.f136;simp only[Option.getD_some];simp only[go_sem];exact .refl _
theorem Ux(n:Int):PC Tryz.prog 132 [int n] (boo (inR n 0 4096)):=by
 refine PC.body (c:=Tryz.f132.body.getD .skip) (fun _=>false) mixed Tryz.func132 rfl (by kernel_rfl) ?_;unfold Tryz.f132;simp only[Option.getD_some];simp only[go_sem];exact .refl _
def AZ(c:Int):Bool:=decide (c≥48)&&decide (c≤57)
theorem Cv(c:Int):PC Tryz.prog 179 [.v (.int .u8 c)] (boo (AZ c)):=by
 refine PC.body (c:=Tryz.f179.body.getD .skip) (fun _=>false) mixed Tryz.func179 rfl (by kernel_rfl) ?_;unfold Tryz.f179;simp only[Option.getD_some];simp only[go_sem];exact .refl _
def Au(c:Int):Bool:=decide (c≥97)&&decide (c≤122)||decide (c≥65)&&decide (c≤90)||c == 95
theorem zC(c:Int):PC Tryz.prog 180 [.v (.int .u8 c)] (boo (Au c)):=by
 refine PC.body (c:=Tryz.f180.body.getD .skip) (fun _=>false) mixed Tryz.func180 rfl (by kernel_rfl) ?_;unfold Tryz.f180;simp only[Option.getD_some];simp only[go_sem];exact .refl _
def kJ(s:Stop):Bool:=s.place == -1&&s.start == 0&&s.close == 0&&s.service == 0
def GZ(s:Stop):Bool:=decide (s.place<0)||decide (s.start<0)||decide (s.start>s.close)||decide (s.close>4096)||decide (s.service<0)||decide (s.service>4096)
def eY(s:Stop):Int:=if kJ s then 0 else if GZ s then 2 else 0
theorem Kf(s:Stop):PC Tryz.prog 137 [.agg (iC s)] (int (eY s)):=by
 refine PC.body (c:=Tryz.f137.body.getD .skip) (fun _=>false) mixed Tryz.func137 rfl (by kernel_rfl) ?_;unfold Tryz.f137;simp only[Option.getD_some];simp only[go_sem];refine aB (fun h=>?_) (fun h=>?_)
 · simp only[go_sem]
   have:eY s=0:=if_pos h;rw[this];exact .refl _
 · simp only[go_sem]
   refine aB (fun h2=>?_) (fun h2=>?_)
   · simp only[go_sem]
     have:eY s=2:=by unfold eY;rw[if_neg (by simp[kJ,h])];exact if_pos h2
     rw[this];exact .refl _
   · simp only[go_sem]
     have:eY s=0:=by unfold eY;rw[if_neg (by simp[kJ,h]),if_neg (by simp only[GZ,h2];simp)]
     rw[this];exact .refl _
def DB(n:Int):ByteArray:=strOfNums [IntKind.u8.wrap (IntKind.i64.wrap (48+n))]
def jN(n:Nat):ByteArray:=if n<10 then DB n else jN (n/10)++DB (n%10:Nat)
theorem Bd(x:Int):(strOfNums [x]).size=1:=by simp[strOfNums];rfl
theorem BF(n:Int):(DB n).size=1:=Bd _
theorem wY{n:Nat}(h:10≤n):jN n=jN (n/10)++DB (n%10:Nat):=by rw[jN,if_neg (by omega)]
theorem sP{n:Nat}(h:n<10):jN n=DB n:=by rw[jN,if_pos h]
theorem mT(n:Nat):(jN n).size≤n+1:=by
 induction n using Nat.strongRecOn with
 | ind n ih=>
   rcases Nat.lt_or_ge n 10 with h|h
   · rw[sP h,BF];omega
   · rw[wY h,ByteArray.size_append,BF]
     have:=ih (n/10) (by omega);omega
theorem MY(m:Nat):(m:Int).tmod 10=((m%10:Nat):Int):=by rw[Int.tmod_eq_emod_of_nonneg (by omega)];rfl
theorem MF(m:Nat):(m:Int).tdiv 10=((m/10:Nat):Int):=by rw[Int.tdiv_eq_ediv_of_nonneg (by omega)];rfl
theorem Du{k:Nat}(h:k≤4611686018427387904):IntKind.i64.wrap (k:Int)=(k:Int):=aQ (by omega)
theorem uG:IntKind.i64.max=9223372036854775807:=by decide
theorem Xh(n:Nat)(hn:n≤4611686018427387904):PC Tryz.prog 138 [int n] (str (jN n)):=by
 refine PC.body (c:=Tryz.f138.body.getD .skip) (fun _=>false) mixed Tryz.func138 rfl (by kernel_rfl) ?_;unfold Tryz.f138;simp only[Option.getD_some];simp only[go_sem];refine⟨fun ρ _=>∃(m:Nat) (s:ByteArray),ρ 0=int m∧ρ 3=str s∧jN n=jN m++s∧s.size+m≤n,
   fun ρ _=>bE (ρ 0),⟨n,ByteArray.empty,rfl,rfl,by simp,by simp⟩,?_⟩
 rintro ρ H ⟨k,s,h0,h3,he,hs⟩;simp only[go_sem,h0,h3];refine aB (fun hlt=>?_) (fun hge=>?_)
 · have hlt : 10 ≤ k := by
     have:(10:Int)≤k:=by simpa using hlt
     omega
   simp only[go_sem,h0,h3,MF,MY,Du (show k/10≤4611686018427387904 by omega),aH];refine⟨by omega,?_,by omega,⟨k/10,_,rfl,rfl,?_,?_⟩,by omega⟩
   · rw[Bd,uG];omega
   · rw[he,wY hlt,ByteArray.append_assoc];rfl
   · rw[ByteArray.size_append,Bd];omega
 · have hge : k < 10 := by
     have:¬(10:Int)≤k:=by simpa using hge
     omega
   simp only[go_sem,h0,h3];refine⟨by rw[Bd,uG];omega,?_⟩;rw[he,sP hge];exact .refl _
def SF:AV→Nat
 | .v (.bool true)=>1
 | _=>0
theorem pU(n:Nat)(hn:n≤4611686018427387904):PC Tryz.prog 72 [int n] (str (jN n)):=by
 refine PC.body (c:=Tryz.f72.body.getD .skip) (fun _=>false) mixed Tryz.func72 rfl (by kernel_rfl) ?_;unfold Tryz.f72;simp only[Option.getD_some];simp only[go_sem];refine⟨fun ρ _=>∃(b:Bool) (m:Nat) (s:ByteArray),ρ 0=int n∧ρ 5=boo b∧ρ 4=int m∧ρ 3=str s∧(b=true→jN n=jN m++s∧s.size+m≤n)∧(b=false→jN n=s),
   fun ρ _=>bE (ρ 4)+SF (ρ 5),⟨true,n,ByteArray.empty,rfl,rfl,rfl,rfl,fun _=>by simp,by simp⟩,?_⟩
 rintro ρ H ⟨b,k,s,h0,h5,h4,h3,ht,hf⟩;simp only[go_sem,h0,h3,h4,h5];refine aB (fun hb=>?_) (fun hb=>?_)
 · subst hb
   obtain⟨he,hs⟩:=ht rfl;simp only[go_sem,h0,h3,h4,h5,MF,MY];refine⟨by omega,?_⟩;refine aB (fun hb=>?_) (fun hb=>?_)
   · exfalso;simp at hb;omega
   · simp only[go_sem,h0,h3,h4,h5,MF,MY,Du (show k/10≤4611686018427387904 by omega),aH]
     refine⟨by rw[Bd,uG];omega,by omega,⟨_,k/10,_,rfl,rfl,rfl,?_,?_⟩,?_⟩
     · intro hb
       have:10≤k:=by simp at hb;omega
       refine⟨?_,?_⟩
       · rw[he,wY this,ByteArray.append_assoc];rfl
       · rw[ByteArray.size_append,Bd];omega
     · intro hb
       have h10:k<10:=by simp at hb;omega
       rw[he,sP h10,Nat.mod_eq_of_lt h10];rfl
     · rcases Nat.lt_or_ge k 10 with h|h
       · have:k/10=0:=by omega
         simp[this,SF]
       · simp only[SF];split <;> omega
 · simp only[go_sem,h0,h3,h4,h5]
   refine aB (fun hb=>?_) (fun hb=>?_)
   · exfalso;simp at hb;omega
   · simp only[go_sem,h0,h3,h4,h5]
     rw[hf (by assumption)];exact .refl _
def dU(l:List Int)(d:Int):Bool:=if(l.length:Int)=d then l.all fun n=> !(decide (n<0)||decide (n>1000))else false
theorem D4{α:Type}{p:α→Bool}{l:List α}(h:∀x∈l,p x=true):l.all p=true:=List.all_eq_true.2 h
theorem Da{α:Type}{p:α→Bool}{l:List α}{x:α}(h:x∈l)(hp:p x=false):l.all p=false:=by
 cases hb:l.all p with
 | false=>rfl
 | true=>rw[List.all_eq_true.1 hb x h]at hp;cases hp
theorem jK{α:Type}{l:List α}{k:Nat}{x:α}(h:l[k]?=some x):x∈l:=List.mem_of_getElem? h
theorem wB{α:Type}{q:α→Prop}{l:List α}{k:Nat}{x:α}(hr:l[k]?=some x)(h:∀y∈l.take k,q y)(hx:q x):∀y∈l.take (k+1),q y:=by
 rw[cM hr];intro y hy;rcases List.mem_append.1 hy with hy|hy
 · exact h y hy
 · simp at hy;subst hy;exact hx
theorem cF{k n:Nat}(h:decide ((k:Int)<(n:Int))=true):k<n:=by simpa using h
theorem cH{k n:Nat}(hk:k≤n)(h:decide ((k:Int)<(n:Int))=false):k=n:=by
 have:¬k<n:=by simpa using h
 omega
theorem G1(l:List Int)(d:Int)(hl:l.length≤1048576):PC Tryz.prog 135 [.sl (l.map aO),int d] (boo (dU l d)):=by
 refine PC.body (c:=Tryz.f135.body.getD .skip) (fun _=>false) mixed Tryz.func135 rfl (by kernel_rfl) ?_;unfold Tryz.f135;simp only[Option.getD_some];simp only[go_sem];refine aB (fun hd=>?_) (fun hd=>?_)
 · simp only[go_sem]
   have:dU l d=false:=by unfold dU;rw[if_neg (by simpa using hd)]
   rw[this];exact .refl _
 · have hd:(l.length:Int)=d:=by simpa using hd
   simp only[go_sem];refine⟨fun ρ _=>∃k:Nat,k≤l.length∧ρ 0=.sl (l.map aO)∧ρ 5=int k∧∀n∈l.take k,(decide (n<0)||decide (n>1000))=false,fun ρ _=>l.length-bE (ρ 5),⟨0,Nat.zero_le _,rfl,rfl,by simp⟩,?_⟩;rintro ρ H ⟨k,hk,h0,h5,hn⟩;simp only[go_sem,h0,h5];refine aB (fun hlt=>?_) (fun hge=>?_)
   · have hlt:=cF hlt
     obtain⟨r,hr⟩:=aW hlt;have b1:=inB hlt;simp only[go_sem,h0,h5,b1,aF hr];refine aB (fun hb=>?_) (fun hb=>?_)
     · simp only[go_sem]
       have:dU l d=false:=by unfold dU;rw[if_pos hd];exact Da (jK hr) (by simp only[hb];rfl)
       rw[this];exact .refl _
     · simp only[go_sem,h0,h5,bA (show k≤4611686018427387904 by omega)]
       exact⟨⟨k+1,hlt,rfl,wB hr hn hb⟩,by simp only[aH];omega⟩
   · have hge:=cH hk hge
     subst hge;simp only[go_sem];have:dU l d=true:=by unfold dU;rw[if_pos hd];exact D4 fun n h=>by rw[hn n (by simpa using h)];rfl
     rw[this];exact .refl _
def wE(l:List Int)(d:Int):Bool:=if(!inR l.length 1 3||(l.length:Int) != d)=true then false else l.all fun n=>inR n 0 1000
theorem aaV(l:List Int)(d:Int)(hl:l.length≤1048576):PC Tryz.prog 134 [.sl (l.map aO),int d] (boo (wE l d)):=by
 refine PC.body (c:=Tryz.f134.body.getD .skip) (fun _=>false) mixed Tryz.func134 rfl (by kernel_rfl) ?_;unfold Tryz.f134;simp only[Option.getD_some];simp only[go_sem];refine PC.use (nO _ _ _) ?_;simp only[go_sem];refine aB (fun hd=>?_) (fun hd=>?_)
 · simp only[go_sem]
   have:wE l d=false:=by unfold wE;rw[if_pos hd]
   rw[this];exact .refl _
 · simp only[go_sem]
   refine⟨fun ρ _=>∃k:Nat,k≤l.length∧ρ 0=.sl (l.map aO)∧ρ 5=int k∧∀n∈l.take k,inR n 0 1000=true,fun ρ _=>l.length-bE (ρ 5),⟨0,Nat.zero_le _,rfl,rfl,by simp⟩,?_⟩;rintro ρ H ⟨k,hk,h0,h5,hn⟩;simp only[go_sem,h0,h5];refine aB (fun hlt=>?_) (fun hge=>?_)
   · have hlt:=cF hlt
     obtain⟨r,hr⟩:=aW hlt;have b1:=inB hlt;simp only[go_sem,h0,h5,b1,aF hr];refine PC.use (nO _ _ _) ?_;simp only[go_sem];refine aB (fun hb=>?_) (fun hb=>?_)
     · simp only[go_sem]
       have:wE l d=false:=by unfold wE;rw[if_neg (by rw[hd];simp)];exact Da (jK hr) (by simpa using hb)
       rw[this];exact .refl _
     · simp only[go_sem,h0,h5,bA (show k≤4611686018427387904 by omega)]
       exact⟨⟨k+1,hlt,rfl,wB hr hn (by simpa using hb)⟩,by simp only[aH];omega⟩
   · have hge:=cH hk hge
     subst hge;simp only[go_sem];have:wE l d=true:=by unfold wE;rw[if_neg (by rw[hd];simp)];exact D4 fun n h=>hn n (by simpa using h)
     rw[this];exact .refl _
def rS(s:ByteArray)(i:Nat):Int:=((s.data.getD i 0).toNat:Int)
def kV(s:ByteArray):Bool:=if(decide ((s.size:Int)<1)||decide ((s.size:Int)>16)||AZ (rS s 0))=true then false else(List.range s.size).all fun i=>Au (rS s i)||AZ (rS s i)
theorem mP{n k:Nat}(h:k<n):(List.range n)[k]?=some k:=by simp[h]
theorem No(s:ByteArray)(hl:s.size≤1048576):PC Tryz.prog 130 [str s] (boo (kV s)):=by
 refine PC.body (c:=Tryz.f130.body.getD .skip) (fun _=>false) mixed Tryz.func130 rfl (by kernel_rfl) ?_;unfold Tryz.f130;simp only[Option.getD_some];simp only[go_sem];refine⟨fun h=>⟨by omega,by simp at h;omega⟩,_,fun _=>(Cv _).q rfl,?_⟩;simp only[go_sem];refine aB (fun hd=>?_) (fun hd=>?_)
 · simp only[go_sem]
   have:kV s=false:=by unfold kV;rw[if_pos (by exact hd)]
   rw[this];exact .refl _
 · simp only[go_sem]
   refine⟨fun ρ _=>∃k:Nat,k≤s.size∧ρ 0=str s∧ρ 3=int k∧∀i∈(List.range s.size).take k,(Au (rS s i)||AZ (rS s i))=true,fun ρ _=>s.size-bE (ρ 3),⟨0,Nat.zero_le _,rfl,rfl,by simp⟩,?_⟩;rintro ρ H ⟨k,hk,h0,h3,hn⟩;simp only[go_sem,h0,h3];refine aB (fun hlt=>?_) (fun hge=>?_)
   · have hlt:=cF hlt
     have b1:=inB hlt;simp only[go_sem,h0,h3,b1];refine PC.use (zC _) ?_;simp only[go_sem,h0,h3,b1];refine⟨_,fun _=>(Cv _).q rfl,?_⟩;simp only[go_sem];refine aB (fun hb=>?_) (fun hb=>?_)
     · simp only[go_sem]
       have:kV s=false:=by unfold kV;rw[if_neg (by intro h;exact absurd (h.symm.trans hd) (by simp))];exact Da (jK (mP hlt)) (by simpa[rS]using hb)
       rw[this];exact .refl _
     · simp only[go_sem,h0,h3,bA (show k≤4611686018427387904 by omega)]
       exact⟨⟨k+1,hlt,rfl,wB (mP hlt) hn (by
         have:(!Au (rS s k)&& !AZ (rS s k))=false:=hb
         revert this;cases Au (rS s k) <;> cases AZ (rS s k) <;> simp)⟩,by simp only[aH];omega⟩
   · have hge:=cH hk hge
     subst hge;simp only[go_sem];have:kV s=true:=by unfold kV;rw[if_neg (by intro h;exact absurd (h.symm.trans hd) (by simp))];exact D4 fun n h=>hn n (by rw[List.take_of_length_le (by simp)];exact h)
     rw[this];exact .refl _
def lY(l:List VType):Int:=match l with|[]=>0|t::_=>t.cap.length
theorem SB(l:List VType):PC Tryz.prog 33 [.sl (l.map bC)] (int (lY l)):=by
 refine PC.body (c:=Tryz.f33.body.getD .skip) (fun _=>false) mixed Tryz.func33 rfl (by kernel_rfl) ?_;unfold Tryz.f33;simp only[Option.getD_some];simp only[go_sem];cases l with
 | nil=>
   simp only[go_sem];refine aB (fun hb=>?_) (fun hb=>?_)
   · simp only[go_sem];exact .refl _
   · simp at hb
 | cons t l=>
   refine aB (fun hb=>?_) (fun hb=>?_)
   · simp at hb;omega
   · simp only[go_sem]
     exact⟨⟨by omega,by omega⟩,.refl _⟩
def rX(l:List VType)(k:Nat)(s:ByteArray):Bool:=(l.take k).any fun t=>t.name.toList == s.toList
theorem Vk(l:List VType)(m:Nat)(s:ByteArray)(hm:m≤l.length)(hl:l.length≤1048576):PC Tryz.prog 133 [.sl (l.map bC),int m,str s] (boo (rX l m s)):=by
 refine PC.body (c:=Tryz.f133.body.getD .skip) (fun _=>false) mixed Tryz.func133 rfl (by kernel_rfl) ?_;unfold Tryz.f133;simp only[Option.getD_some];simp only[go_sem];refine⟨fun ρ _=>∃k:Nat,k≤m∧ρ 0=.sl (l.map bC)∧ρ 1=int m∧ρ 2=str s∧ρ 7=int k∧∀t∈l.take k,(t.name.toList == s.toList)=false,fun ρ _=>m-bE (ρ 7),⟨0,Nat.zero_le _,rfl,rfl,rfl,rfl,by simp⟩,?_⟩;rintro ρ H ⟨k,hk,h0,h1,h2,h7,hn⟩;simp only[go_sem,h0,h1,h2,h7];refine aB (fun hlt=>?_) (fun hge=>?_)
 · have hlt:=cF hlt
   obtain⟨r,hr⟩:=aW (show k<l.length by omega);have b1:=inB (show k<l.length by omega);simp only[go_sem,h0,h1,h2,h7,b1,aF hr];refine aB (fun hb=>?_) (fun hb=>?_)
   · simp only[go_sem]
     have:rX l m s=true:=by
       refine List.any_eq_true.2 ⟨r,?_,hb⟩;exact List.mem_of_getElem? (i:=k) (by rw[List.getElem?_take];simp[hlt,hr])
     rw[this];exact .refl _
   · simp only[go_sem,h0,h1,h2,h7,bA (show k≤4611686018427387904 by omega)]
     exact⟨⟨k+1,hlt,rfl,wB hr hn hb⟩,by simp only[aH];omega⟩
 · have hge:=cH hk hge
   subst hge;simp only[go_sem];have:rX l k s=false:=List.any_eq_false.2 fun t ht=>by simp[hn t ht]
   rw[this];exact .refl _
def oV(p:Point):Bool:=decide (p.t<0)||decide (p.t>4096)||decide (p.a<p.t)||decide (p.a>IntKind.i64.wrap (p.t+4096))
def HK(p q:Point):Bool:=decide (p.t≤q.t)||decide (p.a<q.a)
def dH(l:List Point)(i:Nat):Point:=l.getD i ⟨0,0⟩
def yQ(n lo hi:Int):Bool:=decide (n<lo)||decide (n>hi)
def gK(l:List Point)(i:Nat):List Fault:=
 opt (oV (dH l i)) ⟨2,jN i⟩++opt (decide ((i:Int)>0)&&HK (dH l i) (dH l (i-1))) ⟨13,jN i⟩
def iA(l:List Point):List Fault:=opt (yQ l.length 1 16) ⟨4,ByteArray.empty⟩++(List.range l.length).flatMap (gK l)
theorem UK(l:List Point)(i:Nat):(gK l i).length≤2:=by
 unfold gK;rw[List.length_append];have:=cD (oV (dH l i)) (⟨2,jN i⟩:Fault);have:=cD (decide ((i:Int)>0)&&HK (dH l i) (dH l (i-1))) (⟨13,jN i⟩:Fault);omega
theorem eT{α β:Type}{f:α→List β}{c:Nat}(h:∀x,(f x).length≤c):∀l:List α,(l.flatMap f).length≤c*l.length
 | []=>by simp
 | x::r=>by
   have h1:=h x;have h2:=eT h r;simp only[List.flatMap_cons,List.length_append,List.length_cons,Nat.mul_add,Nat.mul_one];omega
theorem gY{β:Type}(f:Nat→List β)(k:Nat):(List.range (k+1)).flatMap f=(List.range k).flatMap f++f k:=by rw[List.range_succ,List.flatMap_append];simp
theorem cT{l:List Point}{k:Nat}{p:Point}(h:l[k]?=some p):dH l k=p:=by simp[dH,List.getD,h]
theorem Tn(l:List Point)(hl:l.length≤1048576):NC Tryz.prog 131 [.sl (l.map bJ)] (bF (iA l)) .os:=by
 refine NC.body (c:=Tryz.f131.body.getD .skip) (fun t=>t == 3) mixed Tryz.func131 rfl (by kernel_rfl) ?_;unfold Tryz.f131;simp only[Option.getD_some];simp only[go_sem];refine aL fun j hj=>?_
 simp only[go_sem];refine aU (fun ρ H=>∃j,ρ 0=.sl (l.map bJ)∧ρ 3=.os j∧H j=some (bF (opt (yQ l.length 1 16) ⟨4,ByteArray.empty⟩))) ?_ fun K hK=>aB (fun hb=>?_) (fun hb=>?_)
 · rintro ρ H ⟨j,h0,h3,hH⟩
   simp only[go_sem,h0,h3];generalize hpre:opt (yQ l.length 1 16) (⟨4,ByteArray.empty⟩:Fault)=pre at hH;have hpl:pre.length≤1:=by rw[←hpre];exact cD _ _
   refine⟨fun ρ H=>∃k:Nat,k≤l.length∧ρ 0=.sl (l.map bJ)∧ρ 4=int k∧∃j,ρ 3=.os j∧H j=some (bF (pre++(List.range k).flatMap (gK l))),fun ρ _=>l.length-bE (ρ 4),⟨0,Nat.zero_le _,by simp only[go_sem,h0],by simp only[go_sem];rfl,j,by simp only[go_sem,h3],by simpa using hH⟩,?_⟩;rintro ρ H ⟨k,hk,h0,h4,j,h3,hH⟩;generalize hes:pre++(List.range k).flatMap (gK l)=es at hH;have hlen:es.length≤2*k+1:=by
     have:=eT (UK l) (List.range k);rw[←hes,List.length_append];rw[List.length_range]at this;omega
   simp only[go_sem,h0,h3,h4];refine aB (fun hlt=>?_) (fun hge=>?_)
   · have hlt:=cF hlt
     obtain⟨p,hp⟩:=aW hlt;have b1:=inB hlt;simp only[go_sem,h0,h3,h4,b1,aF hp];refine aL fun i hi=>?_
     simp only[go_sem];refine aP (r:=⟨136,2,[[int 0,int 0]]⟩) (by rw[aA]) (by simp[dV]) ?_;simp only[go_sem];have hji:j≠i:=aN hH hi;have hH':aG (aG H i (some ⟨136,2,[[int 0,int 0]]⟩)) i (some ⟨136,2,[bJ p]⟩) j=some (bF es):=by rw[aC _ _ _ _ hji,aC _ _ _ _ hji,hH]
     refine aU (fun ρ' H'=>∃j',ρ' 0=.sl (l.map bJ)∧ρ' 4=int k∧ρ' 3=.os j'∧ρ' 5=.op i 0 0∧H' i=some ⟨136,2,[bJ p]⟩∧j'≠i ∧
       H' j'=some (bF (es++opt (oV p) ⟨2,jN k⟩))) ?_ fun K hK=>aB (fun hb=>?_) (fun hb=>?_)
     · rintro ρ H ⟨j,h0,h4,h3,h5,hi,hji,hH⟩
       generalize hfs:es++opt (oV p) ⟨2,jN k⟩=fs at hH;have hfl:fs.length≤2*k+2:=by
         have:=cD (oV p) (⟨2,jN k⟩:Fault);rw[←hfs,List.length_append];omega
       simp only[go_sem];refine fQ (by rfl) (by kernel_rfl) ?_;simp only[go_sem,h0,h3,h4,h5,hi];obtain⟨q,hq⟩:=aW (show k-1<l.length by omega);simp only[go_sem,h0,h3,h4,h5,hi,Ud (show k≤4611686018427387904 by omega),aF hq];have hkk:k≤4611686018427387904:=by omega
       have hg:decide ((k:Int)>0)=true→0≤IntKind.i64.wrap ((k:Int)-1)∧IntKind.i64.wrap ((k:Int)-1)<(l.length:Int):=fun h=>by
         have:(k:Int)>0:=by simpa using h
         rw[nG hkk];omega
       have hpf:pre++(List.range (k+1)).flatMap (gK l)=fs++opt (decide ((k:Int)>0)&&HK p q) ⟨13,jN k⟩:=by
         rw[gY,←List.append_assoc,hes,←hfs,gK,cT hp,cT hq,List.append_assoc]
       refine⟨hg,fun h=>hg h.1,dT (fun ρ' H'=>ρ' 0=.sl (l.map bJ)∧ρ' 4=int k∧∃j,ρ' 3=.os j∧H' j=some (bF (pre++(List.range (k+1)).flatMap (gK l)))) ?_ fun K hK _ _=>aB (fun hb=>?_) (fun hb=>?_)⟩
       · rintro ρ H ⟨h0,h4,j,h3,hH⟩
         simp only[go_sem,h0,h3,h4,bA hkk];exact⟨⟨k+1,hlt,rfl,j,rfl,hH⟩,by simp only[aH];omega⟩
       · simp only[go_sem,h0,h3,h4]
         refine PC.use (pU _ (by omega)) ?_;simp only[go_sem,h0,h3,h4];refine aX hH ⟨rfl,rfl⟩ (by simp only[go_sem]) (by simp only[List.length_map,List.length_cons,List.length_nil];omega) (fun j' hj'=>?_);simp only[go_sem,h0,h3,h4];refine hK _ _ ⟨by simp only[go_sem,h0],by simp only[go_sem,h4],j',by simp only[go_sem],?_⟩;rw[hpf,iH (by exact hb)];exact eS (l':=[⟨13,jN k⟩]) rfl
       · simp only[go_sem]
         refine hK _ _ ⟨by simp only[go_sem,h0],by simp only[go_sem,h4],j,by simp only[go_sem,h3],?_⟩;rw[hpf,iG (by exact hb),List.append_nil,hH]
     · simp only[go_sem,h0,h3,h4]
       refine PC.use (pU _ (by omega)) ?_;simp only[go_sem,h0,h3,h4];refine aX hH' ⟨rfl,rfl⟩ (by simp only[go_sem]) (by simp only[List.length_map,List.length_cons,List.length_nil];omega) (fun j' hj'=>?_);simp only[go_sem,h0,h3,h4];have hi':=aA (aG H i (some ⟨136,2,[[int 0,int 0]]⟩)) i (some ⟨136,2,[bJ p]⟩);refine hK _ _ ⟨j',by simp only[go_sem,h0],by simp only[go_sem,h4],by simp only[go_sem],by simp only[go_sem],dN hi' hji hj',(aN hi' hj').symm,?_⟩;rw[iH (show oV p=true from hb)];exact eS (l':=[⟨2,jN k⟩]) rfl
     · simp only[go_sem]
       refine hK _ _ ⟨j,by simp only[go_sem,h0],by simp only[go_sem,h4],by simp only[go_sem,h3],by simp only[go_sem],by rw[aA],hji,?_⟩;rw[hH',iG (show oV p=false from hb),List.append_nil]
   · have hge:=cH hk hge
     subst hge;simp only[go_sem,h3];exact⟨_,rfl,by rw[hH,←hes,←hpre];rfl⟩
 · simp only[go_sem]
   refine aX (r:=bF []) (by simp only[go_sem];rfl) ⟨rfl,rfl⟩ (by simp only[go_sem]) (by simp) (fun j' hj'=>?_);simp only[go_sem];refine hK _ _ ⟨j',rfl,rfl,?_⟩;rw[iH (by exact hb)];exact eS (l:=[]) (l':=[⟨4,ByteArray.empty⟩]) rfl
 · simp only[go_sem]
   refine hK _ _ ⟨j,rfl,rfl,?_⟩;rw[iG (by exact hb),aA];rfl
def FP(l:List ByteArray)(i:Nat):ByteArray:=l.getD i ByteArray.empty
theorem A4{l:List ByteArray}{k:Nat}{p:ByteArray}(h:l[k]?=some p):FP l k=p:=by simp[FP,List.getD,h]
def qB(i:Nat):ByteArray:=⟨#[112,108,97,99,101,32]⟩++jN i
def qJ(l:List ByteArray)(i:Nat):Bool:=(l.take i).any fun s=>s.toList == (FP l i).toList
def fV(l:List ByteArray)(i:Nat):List Fault:=match kV (FP l i)with
 | false=>[⟨5,qB i⟩]
 | true=>opt (qJ l i) ⟨6,qB i⟩
theorem NZ(l:List ByteArray)(i:Nat):(fV l i).length≤1:=by
 unfold fV;split
 · simp
 · exact cD _ _
def tR(l:List ByteArray):List Fault:=opt (decide ((l.length:Int)>24)) ⟨4,⟨#[112,108,97,99,101,115]⟩⟩++(List.range l.length).flatMap (fV l)
theorem CG{α:Type}{p:α→Bool}{l:List α}{k:Nat}{x:α}(h:l[k]?=some x):(l.take (k+1)).any p=((l.take k).any p||p x):=by rw[cM h,List.any_append];simp
theorem KS(i:Nat):(qB i).size≤i+7:=by
 have:=mT i;unfold qB;rw[ByteArray.size_append];have:(⟨#[112,108,97,99,101,32]⟩:ByteArray).size=6:=rfl;omega
theorem Aa(n:Network)(hl:n.places.length≤1048576)(hs:∀s∈n.places,s.size≤1048576):NC Tryz.prog 68 [.agg (aT n)] (bF (tR n.places)) .os:=by
 refine NC.body (c:=Tryz.f68.body.getD .skip) (fun t=>t == 3) mixed Tryz.func68 rfl (by kernel_rfl) ?_;unfold Tryz.f68;simp only[Option.getD_some];simp only[go_sem];refine aL fun j hj=>?_
 simp only[go_sem];refine aU (fun ρ H=>∃j,ρ 1=.rp (aT n) 0∧ρ 3=.os j∧H j=some (bF (opt (decide ((n.places.length:Int)>24)) ⟨4,⟨#[112,108,97,99,101,115]⟩⟩))) ?_ fun K hK=>aB (fun hb=>?_) (fun hb=>?_)
 · rintro ρ H ⟨j,h1,h3,hH⟩
   simp only[go_sem,h1,h3];generalize hpre:opt (decide ((n.places.length:Int)>24)) (⟨4,⟨#[112,108,97,99,101,115]⟩⟩:Fault)=pre at hH;have hpl:pre.length≤1:=by rw[←hpre];exact cD _ _
   refine⟨fun ρ H=>∃k:Nat,k≤n.places.length∧ρ 1=.rp (aT n) 0∧ρ 4=int k∧∃j,ρ 3=.os j∧H j=some (bF (pre++(List.range k).flatMap (fV n.places))),fun ρ _=>n.places.length-bE (ρ 4),⟨0,Nat.zero_le _,by simp only[go_sem,h1],by simp only[go_sem];rfl,j,by simp only[go_sem,h3],by simpa using hH⟩,?_⟩;rintro ρ H ⟨k,hk,h1,h4,j,h3,hH⟩;generalize hes:pre++(List.range k).flatMap (fV n.places)=es at hH;have hlen:es.length≤k+1:=by
     have:=eT (NZ n.places) (List.range k);rw[←hes,List.length_append];rw[List.length_range]at this;omega
   simp only[go_sem,h1,h3,h4];refine aB (fun hlt=>?_) (fun hge=>?_)
   · have hlt:=cF hlt
     obtain⟨p,hp⟩:=aW hlt;have b1:=inB hlt;have hkk:k≤4611686018427387904:=by omega
     have hds:=mT k;have hfl:pre++(List.range (k+1)).flatMap (fV n.places)=es++fV n.places k:=by rw[gY,←List.append_assoc,hes]
     simp only[go_sem,h1,h3,h4];refine PC.use (pU _ (by omega)) ?_;simp only[go_sem,h1,h3,h4,b1,aF hp];refine⟨by rw[uG];show((6+(jN k).size:Nat):Int)≤_;omega,?_⟩;refine PC.use (No p (hs p (jK hp))) ?_;simp only[go_sem,h1,h3,h4];refine aB (fun hb=>?_) (fun hb=>?_)
     · simp only[go_sem,h1,h3,h4]
       refine aX hH ⟨rfl,rfl⟩ (by simp only[go_sem]) (by simp only[List.length_map,List.length_cons,List.length_nil];omega) (fun j' hj'=>?_);simp only[go_sem,h1,h3,h4,bA hkk];refine⟨⟨k+1,hlt,rfl,j',rfl,?_⟩,by simp only[aH];omega⟩;have hn:kV (FP n.places k)=false:=by rw[A4 hp];simpa using hb
       rw[hfl,fV,hn];exact eS (l':=[⟨5,qB k⟩]) rfl
     · simp only[go_sem,h1,h3,h4]
       have hn:kV (FP n.places k)=true:=by rw[A4 hp];simpa using hb
       refine⟨fun ρ H'=>∃m:Nat,m≤k∧ρ 1=.rp (aT n) 0∧ρ 3=.os j∧ρ 4=int k∧ρ 5=str (qB k)∧ρ 6=boo ((n.places.take m).any fun s=>s.toList == p.toList)∧ρ 7=int m∧H'=H,fun ρ _=>k-bE (ρ 7),⟨0,Nat.zero_le _,by simp only[go_sem,h1],by simp only[go_sem,h3],by simp only[go_sem,h4],by simp only[go_sem];rfl,by simp only[go_sem];rfl,by simp only[go_sem];rfl,rfl⟩,?_⟩;rintro ρ H' ⟨m,hm,h1,h3,h4,h5,h6,h7,rfl⟩;simp only[go_sem,h1,h3,h4,h5,h6,h7];refine aB (fun hlt2=>?_) (fun hge2=>?_)
       · have hlt2:=cF hlt2
         obtain⟨q,hq⟩:=aW (show m<n.places.length by omega);have b2:=inB (show m<n.places.length by omega);simp only[go_sem];refine fQ (by rfl) (by kernel_rfl) ?_;simp only[go_sem,h1,h3,h4,h5,h6,h7,b1,b2,aF hp,aF hq,bA (show m≤4611686018427387904 by omega)];refine⟨⟨m+1,hlt2,?_,rfl⟩,by simp only[aH];omega⟩;rw[CG hq]
       · have hge2:=cH hm hge2
         subst hge2;simp only[go_sem,h6];have hsb:qJ n.places m=(n.places.take m).any fun s=>s.toList == p.toList:=by unfold qJ;rw[A4 hp]
         refine dT (fun ρ' H'=>ρ' 1=.rp (aT n) 0∧ρ' 4=int m∧∃j,ρ' 3=.os j∧H' j=some (bF (pre++(List.range (m+1)).flatMap (fV n.places)))) ?_ fun K hK _ _=>aB (fun hb=>?_) (fun hb=>?_)
         · rintro ρ H ⟨h1,h4,j,h3,hH⟩
           simp only[go_sem,h1,h3,h4,bA hkk];exact⟨⟨m+1,hlt,rfl,j,rfl,hH⟩,by simp only[aH];omega⟩
         · simp only[go_sem,h1,h3,h4,h5]
           refine aX hH ⟨rfl,rfl⟩ (by simp only[go_sem]) (by simp only[List.length_map,List.length_cons,List.length_nil];omega) (fun j' hj'=>?_);simp only[go_sem];refine hK _ _ ⟨by simp only[go_sem,h1],by simp only[go_sem,h4],j',by simp only[go_sem],?_⟩;rw[hfl,fV,hn];show _=some (bF (es++opt (qJ n.places m) ⟨6,qB m⟩));rw[iH (hsb.trans hb)];exact eS (l':=[⟨6,qB m⟩]) rfl
         · simp only[go_sem]
           refine hK _ _ ⟨by simp only[go_sem,h1],by simp only[go_sem,h4],j,by simp only[go_sem,h3],?_⟩;rw[hfl,fV,hn];show _=some (bF (es++opt (qJ n.places m) ⟨6,qB m⟩));rw[iG (hsb.trans hb),List.append_nil,hH]
   · have hge:=cH hk hge
     subst hge;simp only[go_sem,h3];exact⟨_,rfl,by rw[hH,←hes,←hpre];rfl⟩
 · simp only[go_sem]
   refine aX (r:=bF []) (by simp only[go_sem];rfl) ⟨rfl,rfl⟩ (by simp only[go_sem]) (by simp) (fun j' hj'=>?_);simp only[go_sem];refine hK _ _ ⟨j',rfl,rfl,?_⟩;rw[iH (by exact hb)];exact eS (l:=[]) (l':=[⟨4,⟨#[112,108,97,99,101,115]⟩⟩]) rfl
 · simp only[go_sem]
   refine hK _ _ ⟨j,rfl,rfl,?_⟩;rw[iG (by exact hb),aA];rfl
def L7(l:List VType)(i:Nat):VType:=l.getD i ⟨ByteArray.empty,0,0,0,[],0,0,0,0,0,0,0,0,0⟩
theorem C6{l:List VType}{k:Nat}{p:VType}(h:l[k]?=some p):L7 l k=p:=by simp[L7,List.getD,h]
def lE(n:Network)(l:List VType)(k:Nat)(t:VType):List Int:=
 []++opt (!kV t.name) 5++opt (rX l k t.name) 6++opt (!inR t.count 0 10) 22++opt (!inR t.src 0 (n.places.length-1)|| !inR t.dst 0 (n.places.length-1)) 11
   ++ opt (!wE t.cap (lY l)) 17++opt (!inR t.skills 0 1073741823) 18++opt (!inR t.start 0 t.close||decide (t.close>4096)) 15
   ++ opt (!inR t.drive 1 4096|| !inR t.rest 0 4096) 16++opt (!inR t.profile 0 7|| !inR t.fixed 0 100000|| !inR t.perMile 0 100|| !inR t.perTick 0 100) 2
theorem SM(n : Network)(l : List VType)(k : Nat)(hk : k < l.length)(hl : l.length ≤ 1048576)(hs : ∀ t ∈ l, t.name.size ≤ 1048576 ∧ t.cap.length ≤ 1048576)(hp : n.places.length ≤ 1048576):
   PC Tryz.prog 71 [.agg (aT n),.sl (l.map bC),int k] (.sl ((lE n l k (L7 l k)).map aO)):=by
 refine PC.body (c:=Tryz.f71.body.getD .skip) (fun t=>t == 8) mixed Tryz.func71 rfl (by kernel_rfl) ?_;unfold Tryz.f71;simp only[Option.getD_some];simp only[go_sem];obtain⟨t,ht⟩:=aW hk;have b1:=inB hk;have hst:=hs t (jK ht);rw[C6 ht];simp only[go_sem,b1,aF ht];refine aL fun i hi=>?_
 simp only[go_sem];refine aP (aA _ _ _) (by simp[zZ]) ?_;simp only[go_sem];refine aL fun j hj=>?_
 have hi':=jV (r':=(⟨35,1,[]⟩:Row)) (aA _ _ _) hj;simp only[go_sem,hi'];refine PC.use (No _ hst.1) ?_;simp only[go_sem];refine oE (fun ρ' H'=>ρ' 1=.sl (l.map bC)∧ρ' 2=int k∧ρ' 3=.rp (aT n) 0∧ρ' 7=.op i 0 0∧H' i=some (oI t)∧∃j',ρ' 8=.os j'∧j'≠i∧H' j'=some (kG [])) ⟨by simp only[go_sem],by simp only[go_sem],by simp only[go_sem],by simp only[go_sem],jV (aA _ _ _) hj,_,by simp only[go_sem],(aN (aA _ _ _) hj).symm,aA _ _ _⟩ ?_;rintro ρ H ⟨h1,h2,h3,h7,hi,j,h8,hji,hH⟩;generalize hes0:([]:List Int)=es0 at hH;have hln0:es0.length≤0:=by rw[←hes0];exact Nat.le_refl _
 refine aU (fun ρ' H'=>ρ' 1=.sl (l.map bC)∧ρ' 2=int k∧ρ' 3=.rp (aT n) 0∧ρ' 7=.op i 0 0∧H' i=some (oI t)∧∃j',ρ' 8=.os j'∧j'≠i∧H' j'=some (kG (es0++opt (!kV t.name) 5))) ?_ fun K hK=>aB (fun hb=>?_) (fun hb=>?_)
 rotate_left
 · simp only[go_sem,h1,h2,h3,h7,h8]
   refine aX hH ⟨rfl,rfl⟩ (by simp only[go_sem]) (by simp only[List.length_map,List.length_cons,List.length_nil];omega) (fun j' hj'=>?_);simp only[go_sem];refine hK _ _ ⟨by simp only[go_sem,h1],by simp only[go_sem,h2],by simp only[go_sem,h3],by simp only[go_sem,h7],dN hi hji hj',j',by simp only[go_sem],(aN hi hj').symm,?_⟩;rw[iH (show(!kV t.name)=true from hb)];exact gR (l':=[5]) rfl
 · simp only[go_sem]
   refine hK _ _ ⟨by simp only[go_sem,h1],by simp only[go_sem,h2],by simp only[go_sem,h3],by simp only[go_sem,h7],hi,j,by simp only[go_sem,h8],hji,?_⟩;rw[iG (show(!kV t.name)=false from hb),List.append_nil,hH]
 clear hH h1 h2 h3 h7 h8;rintro ρ H ⟨h1,h2,h3,h7,hi,j,h8,hji,hH⟩;generalize hes1:es0++opt (!kV t.name) (5:Int)=es1 at hH;have hln1:es1.length≤es0.length+1:=by rw[←hes1,List.length_append];have:=cD (!kV t.name) (5:Int);omega
 simp only[go_sem,h1,h2,h3,h7,h8,hi];refine PC.use (Vk l k t.name (by omega) hl) ?_;simp only[go_sem];refine aU (fun ρ' H'=>ρ' 1=.sl (l.map bC)∧ρ' 2=int k∧ρ' 3=.rp (aT n) 0∧ρ' 7=.op i 0 0∧H' i=some (oI t)∧∃j',ρ' 8=.os j'∧j'≠i∧H' j'=some (kG (es1++opt (rX l k t.name) 6))) ?_ fun K hK=>aB (fun hb=>?_) (fun hb=>?_)
 rotate_left
 · simp only[go_sem,h1,h2,h3,h7,h8]
   refine aX hH ⟨rfl,rfl⟩ (by simp only[go_sem]) (by simp only[List.length_map,List.length_cons,List.length_nil];omega) (fun j' hj'=>?_);simp only[go_sem];refine hK _ _ ⟨by simp only[go_sem,h1],by simp only[go_sem,h2],by simp only[go_sem,h3],by simp only[go_sem,h7],dN hi hji hj',j',by simp only[go_sem],(aN hi hj').symm,?_⟩;rw[iH (show(rX l k t.name)=true from hb)];exact gR (l':=[6]) rfl
 · simp only[go_sem]
   refine hK _ _ ⟨by simp only[go_sem,h1],by simp only[go_sem,h2],by simp only[go_sem,h3],by simp only[go_sem,h7],hi,j,by simp only[go_sem,h8],hji,?_⟩;rw[iG (show(rX l k t.name)=false from hb),List.append_nil,hH]
 clear hH h1 h2 h3 h7 h8;rintro ρ H ⟨h1,h2,h3,h7,hi,j,h8,hji,hH⟩;generalize hes2:es1++opt (rX l k t.name) (6:Int)=es2 at hH;have hln2:es2.length≤es1.length+1:=by rw[←hes2,List.length_append];have:=cD (rX l k t.name) (6:Int);omega
 simp only[go_sem,h1,h2,h3,h7,h8,hi];refine PC.use (nO _ _ _) ?_;simp only[go_sem];refine aU (fun ρ' H'=>ρ' 1=.sl (l.map bC)∧ρ' 2=int k∧ρ' 3=.rp (aT n) 0∧ρ' 7=.op i 0 0∧H' i=some (oI t)∧∃j',ρ' 8=.os j'∧j'≠i∧H' j'=some (kG (es2++opt (!inR t.count 0 10) 22))) ?_ fun K hK=>aB (fun hb=>?_) (fun hb=>?_)
 rotate_left
 · simp only[go_sem,h1,h2,h3,h7,h8]
   refine aX hH ⟨rfl,rfl⟩ (by simp only[go_sem]) (by simp only[List.length_map,List.length_cons,List.length_nil];omega) (fun j' hj'=>?_);simp only[go_sem];refine hK _ _ ⟨by simp only[go_sem,h1],by simp only[go_sem,h2],by simp only[go_sem,h3],by simp only[go_sem,h7],dN hi hji hj',j',by simp only[go_sem],(aN hi hj').symm,?_⟩;rw[iH (show(!inR t.count 0 10)=true from hb)];exact gR (l':=[22]) rfl
 · simp only[go_sem]
   refine hK _ _ ⟨by simp only[go_sem,h1],by simp only[go_sem,h2],by simp only[go_sem,h3],by simp only[go_sem,h7],hi,j,by simp only[go_sem,h8],hji,?_⟩;rw[iG (show(!inR t.count 0 10)=false from hb),List.append_nil,hH]
 clear hH h1 h2 h3 h7 h8;rintro ρ H ⟨h1,h2,h3,h7,hi,j,h8,hji,hH⟩;generalize hes3:es2++opt (!inR t.count 0 10) (22:Int)=es3 at hH;have hln3:es3.length≤es2.length+1:=by rw[←hes3,List.length_append];have:=cD (!inR t.count 0 10) (22:Int);omega
 simp only[go_sem,h1,h2,h3,h7,h8,hi,nG (show n.places.length≤4611686018427387904 by omega)];refine PC.use (nO _ _ _) ?_;simp only[go_sem,h1,h2,h3,h7,h8,hi,nG (show n.places.length≤4611686018427387904 by omega)];refine⟨_,fun _=>(nO _ _ _).q rfl,?_⟩;simp only[go_sem,h1,h2,h3,h7,h8,hi];refine aU (fun ρ' H'=>ρ' 1=.sl (l.map bC)∧ρ' 2=int k∧ρ' 3=.rp (aT n) 0∧ρ' 7=.op i 0 0∧H' i=some (oI t)∧∃j',ρ' 8=.os j'∧j'≠i∧H' j'=some (kG (es3++opt (!inR t.src 0 (n.places.length-1)|| !inR t.dst 0 (n.places.length-1)) 11))) ?_ fun K hK=>aB (fun hb=>?_) (fun hb=>?_)
 rotate_left
 · simp only[go_sem,h1,h2,h3,h7,h8]
   refine aX hH ⟨rfl,rfl⟩ (by simp only[go_sem]) (by simp only[List.length_map,List.length_cons,List.length_nil];omega) (fun j' hj'=>?_);simp only[go_sem];refine hK _ _ ⟨by simp only[go_sem,h1],by simp only[go_sem,h2],by simp only[go_sem,h3],by simp only[go_sem,h7],dN hi hji hj',j',by simp only[go_sem],(aN hi hj').symm,?_⟩;rw[iH (show(!inR t.src 0 (n.places.length-1)|| !inR t.dst 0 (n.places.length-1))=true from hb)];exact gR (l':=[11]) rfl
 · simp only[go_sem]
   refine hK _ _ ⟨by simp only[go_sem,h1],by simp only[go_sem,h2],by simp only[go_sem,h3],by simp only[go_sem,h7],hi,j,by simp only[go_sem,h8],hji,?_⟩;rw[iG (show(!inR t.src 0 (n.places.length-1)|| !inR t.dst 0 (n.places.length-1))=false from hb),List.append_nil,hH]
 clear hH h1 h2 h3 h7 h8;rintro ρ H ⟨h1,h2,h3,h7,hi,j,h8,hji,hH⟩;generalize hes4:es3++opt (!inR t.src 0 (n.places.length-1)|| !inR t.dst 0 (n.places.length-1)) (11:Int)=es4 at hH;have hln4:es4.length≤es3.length+1:=by rw[←hes4,List.length_append];have:=cD (!inR t.src 0 (n.places.length-1)|| !inR t.dst 0 (n.places.length-1)) (11:Int);omega
 simp only[go_sem,h1,h2,h3,h7,h8,hi];refine fQ (by rfl) (by kernel_rfl) ?_;simp only[go_sem,h1,h2,h3,h7,h8,hi];refine⟨_,(SB l).q rfl,?_⟩;simp only[go_sem,h1,h2,h3,h7,h8,hi];refine⟨_,(aaV t.cap (lY l) hst.2).q rfl,?_⟩;simp only[go_sem,h1,h2,h3,h7,h8,hi];refine aU (fun ρ' H'=>ρ' 1=.sl (l.map bC)∧ρ' 2=int k∧ρ' 3=.rp (aT n) 0∧ρ' 7=.op i 0 0∧H' i=some (oI t)∧∃j',ρ' 8=.os j'∧j'≠i∧H' j'=some (kG (es4++opt (!wE t.cap (lY l)) 17))) ?_ fun K hK=>aB (fun hb=>?_) (fun hb=>?_)
 rotate_left
 · simp only[go_sem,h1,h2,h3,h7,h8]
   refine aX hH ⟨rfl,rfl⟩ (by simp only[go_sem]) (by simp only[List.length_map,List.length_cons,List.length_nil];omega) (fun j' hj'=>?_);simp only[go_sem];refine hK _ _ ⟨by simp only[go_sem,h1],by simp only[go_sem,h2],by simp only[go_sem,h3],by simp only[go_sem,h7],dN hi hji hj',j',by simp only[go_sem],(aN hi hj').symm,?_⟩;rw[iH (show(!wE t.cap (lY l))=true from hb)];exact gR (l':=[17]) rfl
 · simp only[go_sem]
   refine hK _ _ ⟨by simp only[go_sem,h1],by simp only[go_sem,h2],by simp only[go_sem,h3],by simp only[go_sem,h7],hi,j,by simp only[go_sem,h8],hji,?_⟩;rw[iG (show(!wE t.cap (lY l))=false from hb),List.append_nil,hH]
 clear hH h1 h2 h3 h7 h8;rintro ρ H ⟨h1,h2,h3,h7,hi,j,h8,hji,hH⟩;generalize hes5:es4++opt (!wE t.cap (lY l)) (17:Int)=es5 at hH;have hln5:es5.length≤es4.length+1:=by rw[←hes5,List.length_append];have:=cD (!wE t.cap (lY l)) (17:Int);omega
 simp only[go_sem,h1,h2,h3,h7,h8,hi];refine PC.use (nO _ _ _) ?_;simp only[go_sem,h1,h2,h3,h7,h8,hi];refine aU (fun ρ' H'=>ρ' 1=.sl (l.map bC)∧ρ' 2=int k∧ρ' 3=.rp (aT n) 0∧ρ' 7=.op i 0 0∧H' i=some (oI t)∧∃j',ρ' 8=.os j'∧j'≠i∧H' j'=some (kG (es5++opt (!inR t.skills 0 1073741823) 18))) ?_ fun K hK=>aB (fun hb=>?_) (fun hb=>?_)
 rotate_left
 · simp only[go_sem,h1,h2,h3,h7,h8]
   refine aX hH ⟨rfl,rfl⟩ (by simp only[go_sem]) (by simp only[List.length_map,List.length_cons,List.length_nil];omega) (fun j' hj'=>?_);simp only[go_sem];refine hK _ _ ⟨by simp only[go_sem,h1],by simp only[go_sem,h2],by simp only[go_sem,h3],by simp only[go_sem,h7],dN hi hji hj',j',by simp only[go_sem],(aN hi hj').symm,?_⟩;rw[iH (show(!inR t.skills 0 1073741823)=true from hb)];exact gR (l':=[18]) rfl
 · simp only[go_sem]
   refine hK _ _ ⟨by simp only[go_sem,h1],by simp only[go_sem,h2],by simp only[go_sem,h3],by simp only[go_sem,h7],hi,j,by simp only[go_sem,h8],hji,?_⟩;rw[iG (show(!inR t.skills 0 1073741823)=false from hb),List.append_nil,hH]
 clear hH h1 h2 h3 h7 h8;rintro ρ H ⟨h1,h2,h3,h7,hi,j,h8,hji,hH⟩;generalize hes6:es5++opt (!inR t.skills 0 1073741823) (18:Int)=es6 at hH;have hln6:es6.length≤es5.length+1:=by rw[←hes6,List.length_append];have:=cD (!inR t.skills 0 1073741823) (18:Int);omega
 simp only[go_sem,h1,h2,h3,h7,h8,hi];refine PC.use (nO _ _ _) ?_;simp only[go_sem,h1,h2,h3,h7,h8,hi];refine aU (fun ρ' H'=>ρ' 1=.sl (l.map bC)∧ρ' 2=int k∧ρ' 3=.rp (aT n) 0∧ρ' 7=.op i 0 0∧H' i=some (oI t)∧∃j',ρ' 8=.os j'∧j'≠i∧H' j'=some (kG (es6++opt (!inR t.start 0 t.close||decide (t.close>4096)) 15))) ?_ fun K hK=>aB (fun hb=>?_) (fun hb=>?_)
 rotate_left
 · simp only[go_sem,h1,h2,h3,h7,h8]
   refine aX hH ⟨rfl,rfl⟩ (by simp only[go_sem]) (by simp only[List.length_map,List.length_cons,List.length_nil];omega) (fun j' hj'=>?_);simp only[go_sem];refine hK _ _ ⟨by simp only[go_sem,h1],by simp only[go_sem,h2],by simp only[go_sem,h3],by simp only[go_sem,h7],dN hi hji hj',j',by simp only[go_sem],(aN hi hj').symm,?_⟩;rw[iH (show(!inR t.start 0 t.close||decide (t.close>4096))=true from hb)];exact gR (l':=[15]) rfl
 · simp only[go_sem]
   refine hK _ _ ⟨by simp only[go_sem,h1],by simp only[go_sem,h2],by simp only[go_sem,h3],by simp only[go_sem,h7],hi,j,by simp only[go_sem,h8],hji,?_⟩;rw[iG (show(!inR t.start 0 t.close||decide (t.close>4096))=false from hb),List.append_nil,hH]
 clear hH h1 h2 h3 h7 h8;rintro ρ H ⟨h1,h2,h3,h7,hi,j,h8,hji,hH⟩;generalize hes7:es6++opt (!inR t.start 0 t.close||decide (t.close>4096)) (15:Int)=es7 at hH;have hln7:es7.length≤es6.length+1:=by rw[←hes7,List.length_append];have:=cD (!inR t.start 0 t.close||decide (t.close>4096)) (15:Int);omega
 simp only[go_sem,h1,h2,h3,h7,h8,hi];refine PC.use (nO _ _ _) ?_;simp only[go_sem,h1,h2,h3,h7,h8,hi];refine⟨_,fun _=>(nO _ _ _).q rfl,?_⟩;simp only[go_sem,h1,h2,h3,h7,h8,hi];refine aU (fun ρ' H'=>ρ' 1=.sl (l.map bC)∧ρ' 2=int k∧ρ' 3=.rp (aT n) 0∧ρ' 7=.op i 0 0∧H' i=some (oI t)∧∃j',ρ' 8=.os j'∧j'≠i∧H' j'=some (kG (es7++opt (!inR t.drive 1 4096|| !inR t.rest 0 4096) 16))) ?_ fun K hK=>aB (fun hb=>?_) (fun hb=>?_)
 rotate_left
 · simp only[go_sem,h1,h2,h3,h7,h8]
   refine aX hH ⟨rfl,rfl⟩ (by simp only[go_sem]) (by simp only[List.length_map,List.length_cons,List.length_nil];omega) (fun j' hj'=>?_);simp only[go_sem];refine hK _ _ ⟨by simp only[go_sem,h1],by simp only[go_sem,h2],by simp only[go_sem,h3],by simp only[go_sem,h7],dN hi hji hj',j',by simp only[go_sem],(aN hi hj').symm,?_⟩;rw[iH (show(!inR t.drive 1 4096|| !inR t.rest 0 4096)=true from hb)];exact gR (l':=[16]) rfl
 · simp only[go_sem]
   refine hK _ _ ⟨by simp only[go_sem,h1],by simp only[go_sem,h2],by simp only[go_sem,h3],by simp only[go_sem,h7],hi,j,by simp only[go_sem,h8],hji,?_⟩;rw[iG (show(!inR t.drive 1 4096|| !inR t.rest 0 4096)=false from hb),List.append_nil,hH]
 clear hH h1 h2 h3 h7 h8;rintro ρ H ⟨h1,h2,h3,h7,hi,j,h8,hji,hH⟩;generalize hes8:es7++opt (!inR t.drive 1 4096|| !inR t.rest 0 4096) (16:Int)=es8 at hH;have hln8:es8.length≤es7.length+1:=by rw[←hes8,List.length_append];have:=cD (!inR t.drive 1 4096|| !inR t.rest 0 4096) (16:Int);omega
 simp only[go_sem,h1,h2,h3,h7,h8,hi];refine PC.use (nO _ _ _) ?_;simp only[go_sem,h1,h2,h3,h7,h8,hi];refine⟨_,fun _=>(nO _ _ _).q rfl,?_⟩;simp only[go_sem,h1,h2,h3,h7,h8,hi];refine⟨_,fun _=>(nO _ _ _).q rfl,?_⟩;simp only[go_sem,h1,h2,h3,h7,h8,hi];refine⟨_,fun _=>(nO _ _ _).q rfl,?_⟩;simp only[go_sem,h1,h2,h3,h7,h8,hi];refine aU (fun ρ' H'=>ρ' 1=.sl (l.map bC)∧ρ' 2=int k∧ρ' 3=.rp (aT n) 0∧ρ' 7=.op i 0 0∧H' i=some (oI t)∧∃j',ρ' 8=.os j'∧j'≠i∧H' j'=some (kG (es8++opt (!inR t.profile 0 7|| !inR t.fixed 0 100000|| !inR t.perMile 0 100|| !inR t.perTick 0 100) 2))) ?_ fun K hK=>aB (fun hb=>?_) (fun hb=>?_)
 rotate_left
 · simp only[go_sem,h1,h2,h3,h7,h8]
   refine aX hH ⟨rfl,rfl⟩ (by simp only[go_sem]) (by simp only[List.length_map,List.length_cons,List.length_nil];omega) (fun j' hj'=>?_);simp only[go_sem];refine hK _ _ ⟨by simp only[go_sem,h1],by simp only[go_sem,h2],by simp only[go_sem,h3],by simp only[go_sem,h7],dN hi hji hj',j',by simp only[go_sem],(aN hi hj').symm,?_⟩;rw[iH (show(!inR t.profile 0 7|| !inR t.fixed 0 100000|| !inR t.perMile 0 100|| !inR t.perTick 0 100)=true from hb)];exact gR (l':=[2]) rfl
 · simp only[go_sem]
   refine hK _ _ ⟨by simp only[go_sem,h1],by simp only[go_sem,h2],by simp only[go_sem,h3],by simp only[go_sem,h7],hi,j,by simp only[go_sem,h8],hji,?_⟩;rw[iG (show(!inR t.profile 0 7|| !inR t.fixed 0 100000|| !inR t.perMile 0 100|| !inR t.perTick 0 100)=false from hb),List.append_nil,hH]
 clear hH h1 h2 h3 h7 h8;rintro ρ H ⟨h1,h2,h3,h7,hi,j,h8,hji,hH⟩;generalize hes9:es8++opt (!inR t.profile 0 7|| !inR t.fixed 0 100000|| !inR t.perMile 0 100|| !inR t.perTick 0 100) (2:Int)=es9 at hH;have hln9:es9.length≤es8.length+1:=by rw[←hes9,List.length_append];have:=cD (!inR t.profile 0 7|| !inR t.fixed 0 100000|| !inR t.perMile 0 100|| !inR t.perTick 0 100) (2:Int);omega
 simp only[go_sem,h1,h2,h3,h7,h8,hi];have hall:lE n l k t=es9:=by unfold lE;rw[hes0,hes1,hes2,hes3,hes4,hes5,hes6,hes7,hes8,hes9]
 rw[hall];exact .row _ _ _ hH (ConvE.refl _)
def gX(n:Network)(l:List VType)(k:Nat):List Fault:=(lE n l k (L7 l k)).map fun e=>⟨e,jN k⟩
def pZ(n:Network)(l:List VType):List Fault:=opt (!inR l.length 1 6) ⟨4,ByteArray.empty⟩++(List.range l.length).flatMap (gX n l)
theorem uJ(n:Network)(l:List VType)(k:Nat)(t:VType):(lE n l k t).length≤9:=by
 unfold lE;simp only[List.length_append,List.length_nil];have h:=fun(b:Bool) (x:Int)=>cD b x
 have h1:=h (!kV t.name) 5;have h2:=h (rX l k t.name) 6;have h3:=h (!inR t.count 0 10) 22;have h4:=h (!inR t.src 0 (n.places.length-1)|| !inR t.dst 0 (n.places.length-1)) 11;have h5:=h (!wE t.cap (lY l)) 17;have h6:=h (!inR t.skills 0 1073741823) 18;have h7:=h (!inR t.start 0 t.close||decide (t.close>4096)) 15;have h8:=h (!inR t.drive 1 4096|| !inR t.rest 0 4096) 16;have h9:=h (!inR t.profile 0 7|| !inR t.fixed 0 100000|| !inR t.perMile 0 100|| !inR t.perTick 0 100) 2;omega
theorem At{α β:Type}{f:α→β}{l:List α}{k:Nat}{x:α}(h:l[k]?=some x):(l.take (k+1)).map f=(l.take k).map f++[f x]:=by rw[cM h,List.map_append];rfl
theorem VZ(n : Network)(l : List VType)(hl : l.length ≤ 1048576)(hs : ∀ t ∈ l, t.name.size ≤ 1048576 ∧ t.cap.length ≤ 1048576)(hp : n.places.length ≤ 1048576):
   NC Tryz.prog 31 [.agg (aT n),.sl (l.map bC)] (bF (pZ n l)) .os:=by
 refine NC.body (c:=Tryz.f31.body.getD .skip) (fun t=>t == 5) mixed Tryz.func31 rfl (by kernel_rfl) ?_;unfold Tryz.f31;simp only[Option.getD_some];simp only[go_sem];refine aL fun j hj=>?_
 simp only[go_sem];refine PC.use (nO _ _ _) ?_;simp only[go_sem];refine oE (fun ρ' H'=>ρ' 1=.sl (l.map bC)∧ρ' 2=.rp (aT n) 0∧∃j',ρ' 5=.os j'∧H' j'=some (bF [])) ⟨by simp only[go_sem],by simp only[go_sem],_,by simp only[go_sem],aA _ _ _⟩ ?_;rintro ρ H ⟨h1,h2,j,h5,hH⟩;generalize hes0:([]:List Fault)=es0 at hH;have hln0:es0.length≤0:=by rw[←hes0];exact Nat.le_refl _
 refine aU (fun ρ' H'=>ρ' 1=.sl (l.map bC)∧ρ' 2=.rp (aT n) 0∧∃j',ρ' 5=.os j'∧H' j'=some (bF (es0++opt (!inR l.length 1 6) ⟨4,ByteArray.empty⟩))) ?_ fun K hK=>aB (fun hb=>?_) (fun hb=>?_)
 rotate_left
 · simp only[go_sem,h1,h2,h5]
   refine aX hH ⟨rfl,rfl⟩ (by simp only[go_sem]) (by simp only[List.length_map,List.length_cons,List.length_nil];omega) (fun j' hj'=>?_);simp only[go_sem];refine hK _ _ ⟨by simp only[go_sem,h1],by simp only[go_sem,h2],j',by simp only[go_sem],?_⟩;rw[iH (show(!inR l.length 1 6)=true from hb)];exact eS (l':=[⟨4,ByteArray.empty⟩]) rfl
 · simp only[go_sem]
   refine hK _ _ ⟨by simp only[go_sem,h1],by simp only[go_sem,h2],j,by simp only[go_sem,h5],?_⟩;rw[iG (show(!inR l.length 1 6)=false from hb),List.append_nil,hH]
 clear hH h1 h2 h5;rintro ρ H ⟨h1,h2,j,h5,hH⟩;generalize hes1:es0++opt (!inR l.length 1 6) (⟨4,ByteArray.empty⟩:Fault)=es1 at hH;have hln1:es1.length≤es0.length+1:=by rw[←hes1,List.length_append];have:=cD (!inR l.length 1 6) (⟨4,ByteArray.empty⟩:Fault);omega
 simp only[go_sem,h1,h2];refine⟨fun ρ H=>∃k:Nat,k≤l.length∧ρ 1=.sl (l.map bC)∧ρ 2=.rp (aT n) 0∧ρ 6=int k∧∃j,ρ 5=.os j∧H j=some (bF (es1++(List.range k).flatMap (gX n l))),fun ρ _=>l.length-bE (ρ 6),⟨0,Nat.zero_le _,by simp only[go_sem,h1],by simp only[go_sem,h2],by simp only[go_sem];rfl,j,by simp only[go_sem,h5],by simpa using hH⟩,?_⟩;clear hH h1 h2 h5 hj;rintro ρ H ⟨k,hk,h1,h2,h6,j,h5,hH⟩;generalize hes:es1++(List.range k).flatMap (gX n l)=es at hH;have hlen:es.length≤9*k+1:=by
   have:=eT (f:=gX n l) (c:=9) (fun x=>by unfold gX;rw[List.length_map];exact uJ _ _ _ _) (List.range k);rw[←hes,List.length_append];rw[List.length_range]at this;omega
 simp only[go_sem,h1,h2,h6,h5];refine aB (fun hlt=>?_) (fun hge=>?_)
 · have hlt:=cF hlt
   have hkk:k≤4611686018427387904:=by omega
   have hfl:es1++(List.range (k+1)).flatMap (gX n l)=es++gX n l k:=by rw[gY,←List.append_assoc,hes]
   simp only[go_sem,h1,h2,h6];refine PC.use (SM n l k hlt hl hs hp) ?_;simp only[go_sem];have hel:=uJ n l k (L7 l k);have htf:gX n l k=(lE n l k (L7 l k)).map fun e=>⟨e,jN k⟩:=rfl
   generalize lE n l k (L7 l k)=er at hel htf;refine⟨fun ρ H=>∃m:Nat,m≤er.length∧ρ 1=.sl (l.map bC)∧ρ 2=.rp (aT n) 0∧ρ 6=int k∧ρ 7=.sl (er.map aO)∧ρ 8=int m∧∃j,ρ 5=.os j∧H j=some (bF (es++(er.take m).map fun e=>⟨e,jN k⟩)),fun ρ _=>er.length-bE (ρ 8),⟨0,Nat.zero_le _,by simp only[go_sem,h1],by simp only[go_sem,h2],by simp only[go_sem,h6],by simp only[go_sem],by simp only[go_sem];rfl,j,by simp only[go_sem,h5],by simpa using hH⟩,?_⟩;clear hH h1 h2 h5 h6;rintro ρ H ⟨m,hm,h1,h2,h6,h7,h8,j,h5,hH⟩;simp only[go_sem,h1,h2,h6,h5,h7,h8];refine aB (fun hlt2=>?_) (fun hge2=>?_)
   · have hlt2:=cF hlt2
     obtain⟨e,he⟩:=aW hlt2;have b2:=inB hlt2;simp only[go_sem];refine HR (by kernel_rfl) ?_;simp only[go_sem,h1,h2,h6,h5,h7,h8,b2,aF he];refine⟨_,(pU _ (by omega)).q rfl,?_⟩;simp only[go_sem];refine aX hH ⟨rfl,rfl⟩ (by simp only[go_sem]) (by simp only[List.length_map,List.length_append,List.length_take,List.length_cons,List.length_nil];omega) (fun j' hj'=>?_);simp only[go_sem,h1,h2,h6,h7,h8,bA (show m≤4611686018427387904 by omega)];refine⟨⟨m+1,hlt2,rfl,j',rfl,?_⟩,by simp only[aH];omega⟩;rw[At he,←List.append_assoc];exact eS (l':=[⟨e,jN k⟩]) rfl
   · have hge2:=cH hm hge2
     subst hge2;simp only[go_sem,h1,h2,h6,h5,bA hkk];refine⟨⟨k+1,hlt,rfl,j,rfl,?_⟩,by simp only[aH];omega⟩;rw[hfl,hH,htf,List.take_length]
 · have hge:=cH hk hge
   subst hge;simp only[go_sem,h5];exact⟨_,rfl,by rw[hH,←hes,←hes1,←hes0];rfl⟩
end Go.Proofs.YtdlijlecpopadaaGreatDoor
