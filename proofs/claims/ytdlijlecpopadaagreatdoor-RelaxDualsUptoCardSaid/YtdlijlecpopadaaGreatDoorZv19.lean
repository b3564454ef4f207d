/- Texts joined by a program: RefA. -/
import Derived.Test.YtdlijlecpopadaaGreatDoorZv11
set_option linter.unusedSimpArgs false
set_option linter.unusedVariables false
set_option maxRecDepth 100000
namespace Go.Proofs.YtdlijlecpopadaaGreatDoor
open Go.Aw Go.Aw.D Go.Proofs Ty
def inR(n lo hi:Int):Bool:=decide (n≥lo)&&decide (n≤hi)
theorem mJ(n lo hi:Int):PC Tryz.prog 70 [int n,int lo,int hi] (boo (inR n lo hi)):=by
 refine PC.body (c:=Tryz.f70.body.getD .skip) (fun _=>false) mixed Tryz.func70 rfl (by kernel_rfl) ?_;unfold Tryz.f70;simp only[Option.getD_some];simp only[go_sem];exact .refl _
theorem BP(n lo hi:Int):PC Tryz.prog 136 [int n,int lo,int hi] (boo (inR n lo hi)):=by
 refine PC.body (c:=Tryz.f136.body.getD .skip) (fun _=>false) mixed Tryz.func136 rfl (by kernel_rfl) ?_;unfold Tryz.f136;simp only[Option.getD_some];simp only[go_sem];exact .refl _
theorem PD(n:Int):PC Tryz.prog 132 [int n] (boo (inR n 0 4096)):=by
 refine PC.body (c:=Tryz.f132.body.getD .skip) (fun _=>false) mixed Tryz.func132 rfl (by kernel_rfl) ?_;unfold Tryz.f132;simp only[Option.getD_some];simp only[go_sem];exact .refl _
def Ad(c:Int):Bool:=decide (c≥48)&&decide (c≤57)
theorem Bk(c:Int):PC Tryz.prog 179 [.v (.int .u8 c)] (boo (Ad c)):=by
 refine PC.body (c:=Tryz.f179.body.getD .skip) (fun _=>false) mixed Tryz.func179 rfl (by kernel_rfl) ?_;unfold Tryz.f179;simp only[Option.getD_some];simp only[go_sem];exact .refl _
def yG(c:Int):Bool:=decide (c≥97)&&decide (c≤122)||decide (c≥65)&&decide (c≤90)||c == 95
theorem yN(c:Int):PC Tryz.prog 180 [.v (.int .u8 c)] (boo (yG c)):=by
 refine PC.body (c:=Tryz.f180.body.getD .skip) (fun _=>false) mixed Tryz.func180 rfl (by kernel_rfl) ?_;unfold Tryz.f180;simp only[Option.getD_some];simp only[go_sem];exact .refl _
def jM(s:Stop):Bool:=s.place == -1&&s.start == 0&&s.close == 0&&s.service == 0
def F1(s:Stop):Bool:=decide (s.place<0)||decide (s.start<0)||decide (s.start>s.close)||decide (s.close>4096)||decide (s.service<0)||decide (s.service>4096)
def dW(s:Stop):Int:=if jM s then 0 else if F1 s then 2 else 0
theorem J7(s:Stop):PC Tryz.prog 137 [.agg (iA s)] (int (dW s)):=by
 refine PC.body (c:=Tryz.f137.body.getD .skip) (fun _=>false) mixed Tryz.func137 rfl (by kernel_rfl) ?_;unfold Tryz.f137;simp only[Option.getD_some];simp only[go_sem];refine aA (fun h=>?_) (fun h=>?_)
 · simp only[go_sem]
   have:dW s=0:=if_pos h;rw[this];exact .refl _
 · simp only[go_sem]
   refine aA (fun h2=>?_) (fun h2=>?_)
   · simp only[go_sem]
     have:dW s=2:=by unfold dW;rw[if_neg (by simp[jM,h])];exact if_pos h2
     rw[this];exact .refl _
   · simp only[go_sem]
     have:dW s=0:=by unfold dW;rw[if_neg (by simp[jM,h]),if_neg (by simp only[F1,h2];simp)]
     rw[this];exact .refl _
def BF(n:Int):ByteArray:=strOfNums [IntKind.u8.wrap (IntKind.i64.wrap (48+n))]
def iR(n:Nat):ByteArray:=if n<10 then BF n else iR (n/10)++BF (n%10:Nat)
theorem Aj(x:Int):(strOfNums [x]).size=1:=by simp[strOfNums];rfl
theorem AR(n:Int):(BF n).size=1:=Aj _
theorem vJ{n:Nat}(h:10≤n):iR n=iR (n/10)++BF (n%10:Nat):=by rw[iR,if_neg (by omega)]
theorem rI{n:Nat}(h:n<10):iR n=BF n:=by rw[iR,if_pos h]
theorem lR(n:Nat):(iR n).size≤n+1:=by
 induction n using Nat.strongRecOn with
 | ind n ih=>
   rcases Nat.lt_or_ge n 10 with h|h
   · rw[rI h,AR];omega
   · rw[vJ h,ByteArray.size_append,AR]
     have:=ih (n/10) (by omega);omega
theorem KP(m:Nat):(m:Int).tmod 10=((m%10:Nat):Int):=by rw[Int.tmod_eq_emod_of_nonneg (by omega)];rfl
theorem Kh(m:Nat):(m:Int).tdiv 10=((m/10:Nat):Int):=by rw[Int.tdiv_eq_ediv_of_nonneg (by omega)];rfl
theorem Hg{k:Nat}(h:k≤4611686018427387904):IntKind.i64.wrap (k:Int)=(k:Int):=aT (by omega)
theorem sP:IntKind.i64.max=9223372036854775807:=by decide
theorem Ub(n:Nat)(hn:n≤4611686018427387904):PC Tryz.prog 138 [int n] (str (iR n)):=by
 refine PC.body (c:=Tryz.f138.body.getD .skip) (fun _=>false) mixed Tryz.func138 rfl (by kernel_rfl) ?_;unfold Tryz.f138;simp only[Option.getD_some];simp only[go_sem];refine⟨fun ρ _=>∃(m:Nat) (s:ByteArray),ρ 0=int m∧ρ 3=str s∧iR n=iR m++s∧s.size+m≤n,
   fun ρ _=>bQ (ρ 0),⟨n,ByteArray.empty,rfl,rfl,by simp,by simp⟩,?_⟩
 rintro ρ H ⟨k,s,h0,h3,he,hs⟩;simp only[go_sem,h0,h3];refine aA (fun hlt=>?_) (fun hge=>?_)
 · have hlt : 10 ≤ k := by
     have:(10:Int)≤k:=by simpa using hlt
     omega
   simp only[go_sem,h0,h3,Kh,KP,Hg (show k/10≤4611686018427387904 by omega),aI];refine⟨by omega,?_,by omega,⟨k/10,_,rfl,rfl,?_,?_⟩,by omega⟩
   · rw[Aj,sP];omega
   · rw[he,vJ hlt,ByteArray.append_assoc];rfl
   · rw[ByteArray.size_append,Aj];omega
 · have hge : k < 10 := by
     have:¬(10:Int)≤k:=by simpa using hge
     omega
   simp only[go_sem,h0,h3];refine⟨by rw[Aj,sP];omega,?_⟩;rw[he,rI hge];exact .refl _
def RT:AV→Nat
 | .v (.bool true)=>1
 | _=>0
theorem oX(n:Nat)(hn:n≤4611686018427387904):PC Tryz.prog 72 [int n] (str (iR n)):=by
 refine PC.body (c:=Tryz.f72.body.getD .skip) (fun _=>false) mixed Tryz.func72 rfl (by kernel_rfl) ?_;unfold Tryz.f72;simp only[Option.getD_some];simp only[go_sem];refine⟨fun ρ _=>∃(b:Bool) (m:Nat) (s:ByteArray),ρ 0=int n∧ρ 5=boo b∧ρ 4=int m∧ρ 3=str s∧(b=true→iR n=iR m++s∧s.size+m≤n)∧(b=false→iR n=s),
   fun ρ _=>bQ (ρ 4)+RT (ρ 5),⟨true,n,ByteArray.empty,rfl,rfl,rfl,rfl,fun _=>by simp,by simp⟩,?_⟩
 rintro ρ H ⟨b,k,s,h0,h5,h4,h3,ht,hf⟩;simp only[go_sem,h0,h3,h4,h5];refine aA (fun hb=>?_) (fun hb=>?_)
 · subst hb
   obtain⟨he,hs⟩:=ht rfl;simp only[go_sem,h0,h3,h4,h5,Kh,KP];refine⟨by omega,?_⟩;refine aA (fun hb=>?_) (fun hb=>?_)
   · exfalso;simp at hb;omega
   · simp only[go_sem,h0,h3,h4,h5,Kh,KP,Hg (show k/10≤4611686018427387904 by omega),aI]
     refine⟨by rw[Aj,sP];omega,by omega,⟨_,k/10,_,rfl,rfl,rfl,?_,?_⟩,?_⟩
     · intro hb
       have:10≤k:=by simp at hb;omega
       refine⟨?_,?_⟩
       · rw[he,vJ this,ByteArray.append_assoc];rfl
       · rw[ByteArray.size_append,Aj];omega
     · intro hb
       have h10:k<10:=by simp at hb;omega
       rw[he,rI h10,Nat.mod_eq_of_lt h10];rfl
     · rcases Nat.lt_or_ge k 10 with h|h
       · have:k/10=0:=by omega
         simp[this,RT]
       · simp only[RT];split <;> omega
 · simp only[go_sem,h0,h3,h4,h5]
   refine aA (fun hb=>?_) (fun hb=>?_)
   · exfalso;simp at hb;omega
   · simp only[go_sem,h0,h3,h4,h5]
     rw[hf (by assumption)];exact .refl _
def dL(l:List Int)(d:Int):Bool:=if(l.length:Int)=d then l.all fun n=> !(decide (n<0)||decide (n>1000))else false
theorem BR{α:Type}{p:α→Bool}{l:List α}(h:∀x∈l,p x=true):l.all p=true:=List.all_eq_true.2 h
theorem Cj{α:Type}{p:α→Bool}{l:List α}{x:α}(h:x∈l)(hp:p x=false):l.all p=false:=by
 cases hb:l.all p with
 | false=>rfl
 | true=>rw[List.all_eq_true.1 hb x h]at hp;cases hp
theorem iO{α:Type}{l:List α}{k:Nat}{x:α}(h:l[k]?=some x):x∈l:=List.mem_of_getElem? h
theorem uD{α:Type}{q:α→Prop}{l:List α}{k:Nat}{x:α}(hr:l[k]?=some x)(h:∀y∈l.take k,q y)(hx:q x):∀y∈l.take (k+1),q y:=by
 rw[cN hr];intro y hy;rcases List.mem_append.1 hy with hy|hy
 · exact h y hy
 · simp at hy;subst hy;exact hx
theorem cA{k n:Nat}(h:decide ((k:Int)<(n:Int))=true):k<n:=by simpa using h
theorem cF{k n:Nat}(hk:k≤n)(h:decide ((k:Int)<(n:Int))=false):k=n:=by
 have:¬k<n:=by simpa using h
 omega
theorem Gl(l:List Int)(d:Int)(hl:l.length≤1048576):PC Tryz.prog 135 [.sl (l.map aM),int d] (boo (dL l d)):=by
 refine PC.body (c:=Tryz.f135.body.getD .skip) (fun _=>false) mixed Tryz.func135 rfl (by kernel_rfl) ?_;unfold Tryz.f135;simp only[Option.getD_some];simp only[go_sem];refine aA (fun hd=>?_) (fun hd=>?_)
 · simp only[go_sem]
   have:dL l d=false:=by unfold dL;rw[if_neg (by simpa using hd)]
   rw[this];exact .refl _
 · have hd:(l.length:Int)=d:=by simpa using hd
   simp only[go_sem];refine⟨fun ρ _=>∃k:Nat,k≤l.length∧ρ 0=.sl (l.map aM)∧ρ 5=int k∧∀n∈l.take k,(decide (n<0)||decide (n>1000))=false,fun ρ _=>l.length-bQ (ρ 5),⟨0,Nat.zero_le _,rfl,rfl,by simp⟩,?_⟩;rintro ρ H ⟨k,hk,h0,h5,hn⟩;simp only[go_sem,h0,h5];refine aA (fun hlt=>?_) (fun hge=>?_)
   · have hlt:=cA hlt
     obtain⟨r,hr⟩:=bC hlt;have b1:=inB hlt;simp only[go_sem,h0,h5,b1,aH hr];refine aA (fun hb=>?_) (fun hb=>?_)
     · simp only[go_sem]
       have:dL l d=false:=by unfold dL;rw[if_pos hd];exact Cj (iO hr) (by simp only[hb];rfl)
       rw[this];exact .refl _
     · simp only[go_sem,h0,h5,bG (show k≤4611686018427387904 by omega)]
       exact⟨⟨k+1,hlt,rfl,uD hr hn hb⟩,by simp only[aI];omega⟩
   · have hge:=cF hk hge
     subst hge;simp only[go_sem];have:dL l d=true:=by unfold dL;rw[if_pos hd];exact BR fun n h=>by rw[hn n (by simpa using h)];rfl
     rw[this];exact .refl _
def uG(l:List Int)(d:Int):Bool:=if(!inR l.length 1 3||(l.length:Int) != d)=true then false else l.all fun n=>inR n 0 1000
theorem afB(l:List Int)(d:Int)(hl:l.length≤1048576):PC Tryz.prog 134 [.sl (l.map aM),int d] (boo (uG l d)):=by
 refine PC.body (c:=Tryz.f134.body.getD .skip) (fun _=>false) mixed Tryz.func134 rfl (by kernel_rfl) ?_;unfold Tryz.f134;simp only[Option.getD_some];simp only[go_sem];refine PC.use (mJ _ _ _) ?_;simp only[go_sem];refine aA (fun hd=>?_) (fun hd=>?_)
 · simp only[go_sem]
   have:uG l d=false:=by unfold uG;rw[if_pos hd]
   rw[this];exact .refl _
 · simp only[go_sem]
   refine⟨fun ρ _=>∃k:Nat,k≤l.length∧ρ 0=.sl (l.map aM)∧ρ 5=int k∧∀n∈l.take k,inR n 0 1000=true,fun ρ _=>l.length-bQ (ρ 5),⟨0,Nat.zero_le _,rfl,rfl,by simp⟩,?_⟩;rintro ρ H ⟨k,hk,h0,h5,hn⟩;simp only[go_sem,h0,h5];refine aA (fun hlt=>?_) (fun hge=>?_)
   · have hlt:=cA hlt
     obtain⟨r,hr⟩:=bC hlt;have b1:=inB hlt;simp only[go_sem,h0,h5,b1,aH hr];refine PC.use (mJ _ _ _) ?_;simp only[go_sem];refine aA (fun hb=>?_) (fun hb=>?_)
     · simp only[go_sem]
       have:uG l d=false:=by unfold uG;rw[if_neg (by rw[hd];simp)];exact Cj (iO hr) (by simpa using hb)
       rw[this];exact .refl _
     · simp only[go_sem,h0,h5,bG (show k≤4611686018427387904 by omega)]
       exact⟨⟨k+1,hlt,rfl,uD hr hn (by simpa using hb)⟩,by simp only[aI];omega⟩
   · have hge:=cF hk hge
     subst hge;simp only[go_sem];have:uG l d=true:=by unfold uG;rw[if_neg (by rw[hd];simp)];exact BR fun n h=>hn n (by simpa using h)
     rw[this];exact .refl _
def qM(s:ByteArray)(i:Nat):Int:=((s.data.getD i 0).toNat:Int)
def jS(s:ByteArray):Bool:=if(decide ((s.size:Int)<1)||decide ((s.size:Int)>16)||Ad (qM s 0))=true then false else(List.range s.size).all fun i=>yG (qM s i)||Ad (qM s i)
theorem rN{n k:Nat}(h:k<n):(List.range n)[k]?=some k:=by simp[h]
theorem KS(s:ByteArray)(hl:s.size≤1048576):PC Tryz.prog 130 [str s] (boo (jS s)):=by
 refine PC.body (c:=Tryz.f130.body.getD .skip) (fun _=>false) mixed Tryz.func130 rfl (by kernel_rfl) ?_;unfold Tryz.f130;simp only[Option.getD_some];simp only[go_sem];refine⟨fun h=>⟨by omega,by simp at h;omega⟩,_,fun _=>(Bk _).q rfl,?_⟩;simp only[go_sem];refine aA (fun hd=>?_) (fun hd=>?_)
 · simp only[go_sem]
   have:jS s=false:=by unfold jS;rw[if_pos (by exact hd)]
   rw[this];exact .refl _
 · simp only[go_sem]
   refine⟨fun ρ _=>∃k:Nat,k≤s.size∧ρ 0=str s∧ρ 3=int k∧∀i∈(List.range s.size).take k,(yG (qM s i)||Ad (qM s i))=true,fun ρ _=>s.size-bQ (ρ 3),⟨0,Nat.zero_le _,rfl,rfl,by simp⟩,?_⟩;rintro ρ H ⟨k,hk,h0,h3,hn⟩;simp only[go_sem,h0,h3];refine aA (fun hlt=>?_) (fun hge=>?_)
   · have hlt:=cA hlt
     have b1:=inB hlt;simp only[go_sem,h0,h3,b1];refine PC.use (yN _) ?_;simp only[go_sem,h0,h3,b1];refine⟨_,fun _=>(Bk _).q rfl,?_⟩;simp only[go_sem];refine aA (fun hb=>?_) (fun hb=>?_)
     · simp only[go_sem]
       have:jS s=false:=by unfold jS;rw[if_neg (by intro h;exact absurd (h.symm.trans hd) (by simp))];exact Cj (iO (rN hlt)) (by simpa[qM]using hb)
       rw[this];exact .refl _
     · simp only[go_sem,h0,h3,bG (show k≤4611686018427387904 by omega)]
       exact⟨⟨k+1,hlt,rfl,uD (rN hlt) hn (by
         have:(!yG (qM s k)&& !Ad (qM s k))=false:=hb
         revert this;cases yG (qM s k) <;> cases Ad (qM s k) <;> simp)⟩,by simp only[aI];omega⟩
   · have hge:=cF hk hge
     subst hge;simp only[go_sem];have:jS s=true:=by unfold jS;rw[if_neg (by intro h;exact absurd (h.symm.trans hd) (by simp))];exact BR fun n h=>hn n (by rw[List.take_of_length_le (by simp)];exact h)
     rw[this];exact .refl _
def kW(l:List VType):Int:=match l with|[]=>0|t::_=>t.cap.length
theorem Th(l:List VType):PC Tryz.prog 33 [.sl (l.map bE)] (int (kW l)):=by
 refine PC.body (c:=Tryz.f33.body.getD .skip) (fun _=>false) mixed Tryz.func33 rfl (by kernel_rfl) ?_;unfold Tryz.f33;simp only[Option.getD_some];simp only[go_sem];cases l with
 | nil=>
   simp only[go_sem];refine aA (fun hb=>?_) (fun hb=>?_)
   · simp only[go_sem];exact .refl _
   · simp at hb
 | cons t l=>
   refine aA (fun hb=>?_) (fun hb=>?_)
   · simp at hb;omega
   · simp only[go_sem]
     exact⟨⟨by omega,by omega⟩,.refl _⟩
def qT(l:List VType)(k:Nat)(s:ByteArray):Bool:=(l.take k).any fun t=>t.name.toList == s.toList
theorem VF(l:List VType)(m:Nat)(s:ByteArray)(hm:m≤l.length)(hl:l.length≤1048576):PC Tryz.prog 133 [.sl (l.map bE),int m,str s] (boo (qT l m s)):=by
 refine PC.body (c:=Tryz.f133.body.getD .skip) (fun _=>false) mixed Tryz.func133 rfl (by kernel_rfl) ?_;unfold Tryz.f133;simp only[Option.getD_some];simp only[go_sem];refine⟨fun ρ _=>∃k:Nat,k≤m∧ρ 0=.sl (l.map bE)∧ρ 1=int m∧ρ 2=str s∧ρ 7=int k∧∀t∈l.take k,(t.name.toList == s.toList)=false,fun ρ _=>m-bQ (ρ 7),⟨0,Nat.zero_le _,rfl,rfl,rfl,rfl,by simp⟩,?_⟩;rintro ρ H ⟨k,hk,h0,h1,h2,h7,hn⟩;simp only[go_sem,h0,h1,h2,h7];refine aA (fun hlt=>?_) (fun hge=>?_)
 · have hlt:=cA hlt
   obtain⟨r,hr⟩:=bC (show k<l.length by omega);have b1:=inB (show k<l.length by omega);simp only[go_sem,h0,h1,h2,h7,b1,aH hr];refine aA (fun hb=>?_) (fun hb=>?_)
   · simp only[go_sem]
     have:qT l m s=true:=by
       refine List.any_eq_true.2 ⟨r,?_,hb⟩;exact List.mem_of_getElem? (i:=k) (by rw[List.getElem?_take];simp[hlt,hr])
     rw[this];exact .refl _
   · simp only[go_sem,h0,h1,h2,h7,bG (show k≤4611686018427387904 by omega)]
     exact⟨⟨k+1,hlt,rfl,uD hr hn hb⟩,by simp only[aI];omega⟩
 · have hge:=cF hk hge
   subst hge;simp only[go_sem];have:qT l k s=false:=List.any_eq_false.2 fun t ht=>by simp[hn t ht]
   rw[this];exact .refl _
def nN(p:Point):Bool:=decide (p.t<0)||decide (p.t>4096)||decide (p.a<p.t)||decide (p.a>IntKind.i64.wrap (p.t+4096))
def Fs(p q:Point):Bool:=decide (p.t≤q.t)||decide (p.a<q.a)
def dC(l:List Point)(i:Nat):Point:=l.getD i ⟨0,0⟩
def BW(n lo hi:Int):Bool:=decide (n<lo)||decide (n>hi)
def fV(l:List Point)(i:Nat):List Fault:=
 opt (nN (dC l i)) ⟨2,iR i⟩++opt (decide ((i:Int)>0)&&Fs (dC l i) (dC l (i-1))) ⟨13,iR i⟩
def hY(l:List Point):List Fault:=opt (BW l.length 1 16) ⟨4,ByteArray.empty⟩++(List.range l.length).flatMap (fV l)
theorem Tn(l:List Point)(i:Nat):(fV l i).length≤2:=by
 unfold fV;rw[List.length_append];have:=bW (nN (dC l i)) (⟨2,iR i⟩:Fault);have:=bW (decide ((i:Int)>0)&&Fs (dC l i) (dC l (i-1))) (⟨13,iR i⟩:Fault);omega
theorem dV{α β:Type}{f:α→List β}{c:Nat}(h:∀x,(f x).length≤c):∀l:List α,(l.flatMap f).length≤c*l.length
 | []=>by simp
 | x::r=>by
   have h1:=h x;have h2:=dV h r;simp only[List.flatMap_cons,List.length_append,List.length_cons,Nat.mul_add,Nat.mul_one];omega
theorem gG{β:Type}(f:Nat→List β)(k:Nat):(List.range (k+1)).flatMap f=(List.range k).flatMap f++f k:=by rw[List.range_succ,List.flatMap_append];simp
theorem dD{l:List Point}{k:Nat}{p:Point}(h:l[k]?=some p):dC l k=p:=by simp[dC,List.getD,h]
theorem Ro(l:List Point)(hl:l.length≤1048576):NC Tryz.prog 131 [.sl (l.map bR)] (aY (hY l)) .os:=by
 refine NC.body (c:=Tryz.f131.body.getD .skip) (fun t=>t == 3) mixed Tryz.func131 rfl (by kernel_rfl) ?_;unfold Tryz.f131;simp only[Option.getD_some];simp only[go_sem];refine aN fun j hj=>?_
 simp only[go_sem];refine bD (fun ρ H=>∃j,ρ 0=.sl (l.map bR)∧ρ 3=.os j∧H j=some (aY (opt (BW l.length 1 16) ⟨4,ByteArray.empty⟩))) ?_ fun K hK=>aA (fun hb=>?_) (fun hb=>?_)
 · rintro ρ H ⟨j,h0,h3,hH⟩
   simp only[go_sem,h0,h3];generalize hpre:opt (BW l.length 1 16) (⟨4,ByteArray.empty⟩:Fault)=pre at hH;have hpl:pre.length≤1:=by rw[←hpre];exact bW _ _
   refine⟨fun ρ H=>∃k:Nat,k≤l.length∧ρ 0=.sl (l.map bR)∧ρ 4=int k∧∃j,ρ 3=.os j∧H j=some (aY (pre++(List.range k).flatMap (fV l))),fun ρ _=>l.length-bQ (ρ 4),⟨0,Nat.zero_le _,by simp only[go_sem,h0],by simp only[go_sem];rfl,j,by simp only[go_sem,h3],by simpa using hH⟩,?_⟩;rintro ρ H ⟨k,hk,h0,h4,j,h3,hH⟩;generalize hes:pre++(List.range k).flatMap (fV l)=es at hH;have hlen:es.length≤2*k+1:=by
     have:=dV (Tn l) (List.range k);rw[←hes,List.length_append];rw[List.length_range]at this;omega
   simp only[go_sem,h0,h3,h4];refine aA (fun hlt=>?_) (fun hge=>?_)
   · have hlt:=cA hlt
     obtain⟨p,hp⟩:=bC hlt;have b1:=inB hlt;simp only[go_sem,h0,h3,h4,b1,aH hp];refine aN fun i hi=>?_
     simp only[go_sem];refine aU (r:=⟨136,2,[[int 0,int 0]]⟩) (by rw[aB]) (by simp[fQ]) ?_;simp only[go_sem];have hji:j≠i:=aO hH hi;have hH':aJ (aJ H i (some ⟨136,2,[[int 0,int 0]]⟩)) i (some ⟨136,2,[bR p]⟩) j=some (aY es):=by rw[aD _ _ _ _ hji,aD _ _ _ _ hji,hH]
     refine bD (fun ρ' H'=>∃j',ρ' 0=.sl (l.map bR)∧ρ' 4=int k∧ρ' 3=.os j'∧ρ' 5=.op i 0 0∧H' i=some ⟨136,2,[bR p]⟩∧j'≠i ∧
       H' j'=some (aY (es++opt (nN p) ⟨2,iR k⟩))) ?_ fun K hK=>aA (fun hb=>?_) (fun hb=>?_)
     · rintro ρ H ⟨j,h0,h4,h3,h5,hi,hji,hH⟩
       generalize hfs:es++opt (nN p) ⟨2,iR k⟩=fs at hH;have hfl:fs.length≤2*k+2:=by
         have:=bW (nN p) (⟨2,iR k⟩:Fault);rw[←hfs,List.length_append];omega
       simp only[go_sem];refine gL (by rfl) (by kernel_rfl) ?_;simp only[go_sem,h0,h3,h4,h5,hi];obtain⟨q,hq⟩:=bC (show k-1<l.length by omega);simp only[go_sem,h0,h3,h4,h5,hi,Tg (show k≤4611686018427387904 by omega),aH hq];have hkk:k≤4611686018427387904:=by omega
       have hg:decide ((k:Int)>0)=true→0≤IntKind.i64.wrap ((k:Int)-1)∧IntKind.i64.wrap ((k:Int)-1)<(l.length:Int):=fun h=>by
         have:(k:Int)>0:=by simpa using h
         rw[mH hkk];omega
       have hpf:pre++(List.range (k+1)).flatMap (fV l)=fs++opt (decide ((k:Int)>0)&&Fs p q) ⟨13,iR k⟩:=by
         rw[gG,←List.append_assoc,hes,←hfs,fV,dD hp,dD hq,List.append_assoc]
       refine⟨hg,fun h=>hg h.1,fU (fun ρ' H'=>ρ' 0=.sl (l.map bR)∧ρ' 4=int k∧∃j,ρ' 3=.os j∧H' j=some (aY (pre++(List.range (k+1)).flatMap (fV l)))) ?_ fun K hK _ _=>aA (fun hb=>?_) (fun hb=>?_)⟩
       · rintro ρ H ⟨h0,h4,j,h3,hH⟩
         simp only[go_sem,h0,h3,h4,bG hkk];exact⟨⟨k+1,hlt,rfl,j,rfl,hH⟩,by simp only[aI];omega⟩
       · simp only[go_sem,h0,h3,h4]
         refine PC.use (oX _ (by omega)) ?_;simp only[go_sem,h0,h3,h4];refine bA hH ⟨rfl,rfl⟩ (by simp only[go_sem]) (by simp only[List.length_map,List.length_cons,List.length_nil];omega) (fun j' hj'=>?_);simp only[go_sem,h0,h3,h4];refine hK _ _ ⟨by simp only[go_sem,h0],by simp only[go_sem,h4],j',by simp only[go_sem],?_⟩;rw[hpf,gP (by exact hb)];exact dT (l':=[⟨13,iR k⟩]) rfl
       · simp only[go_sem]
         refine hK _ _ ⟨by simp only[go_sem,h0],by simp only[go_sem,h4],j,by simp only[go_sem,h3],?_⟩;rw[hpf,gO (by exact hb),List.append_nil,hH]
     · simp only[go_sem,h0,h3,h4]
       refine PC.use (oX _ (by omega)) ?_;simp only[go_sem,h0,h3,h4];refine bA hH' ⟨rfl,rfl⟩ (by simp only[go_sem]) (by simp only[List.length_map,List.length_cons,List.length_nil];omega) (fun j' hj'=>?_);simp only[go_sem,h0,h3,h4];have hi':=aB (aJ H i (some ⟨136,2,[[int 0,int 0]]⟩)) i (some ⟨136,2,[bR p]⟩);refine hK _ _ ⟨j',by simp only[go_sem,h0],by simp only[go_sem,h4],by simp only[go_sem],by simp only[go_sem],dE hi' hji hj',(aO hi' hj').symm,?_⟩;rw[gP (show nN p=true from hb)];exact dT (l':=[⟨2,iR k⟩]) rfl
     · simp only[go_sem]
       refine hK _ _ ⟨j,by simp only[go_sem,h0],by simp only[go_sem,h4],by simp only[go_sem,h3],by simp only[go_sem],by rw[aB],hji,?_⟩;rw[hH',gO (show nN p=false from hb),List.append_nil]
   · have hge:=cF hk hge
     subst hge;simp only[go_sem,h3];exact⟨_,rfl,by rw[hH,←hes,←hpre];rfl⟩
 · simp only[go_sem]
   refine bA (r:=aY []) (by simp only[go_sem];rfl) ⟨rfl,rfl⟩ (by simp only[go_sem]) (by simp) (fun j' hj'=>?_);simp only[go_sem];refine hK _ _ ⟨j',rfl,rfl,?_⟩;rw[gP (by exact hb)];exact dT (l:=[]) (l':=[⟨4,ByteArray.empty⟩]) rfl
 · simp only[go_sem]
   refine hK _ _ ⟨j,rfl,rfl,?_⟩;rw[gO (by exact hb),aB];rfl
def El(l:List ByteArray)(i:Nat):ByteArray:=l.getD i ByteArray.empty
theorem Ak{l:List ByteArray}{k:Nat}{p:ByteArray}(h:l[k]?=some p):El l k=p:=by simp[El,List.getD,h]
def pS(i:Nat):ByteArray:=⟨#[112,108,97,99,101,32]⟩++iR i
def pH(l:List ByteArray)(i:Nat):Bool:=(l.take i).any fun s=>s.toList == (El l i).toList
def fE(l:List ByteArray)(i:Nat):List Fault:=match jS (El l i)with
 | false=>[⟨5,pS i⟩]
 | true=>opt (pH l i) ⟨6,pS i⟩
theorem Mf(l:List ByteArray)(i:Nat):(fE l i).length≤1:=by
 unfold fE;split
 · simp
 · exact bW _ _
def sD(l:List ByteArray):List Fault:=opt (decide ((l.length:Int)>24)) ⟨4,⟨#[112,108,97,99,101,115]⟩⟩++(List.range l.length).flatMap (fE l)
theorem BY{α:Type}{p:α→Bool}{l:List α}{k:Nat}{x:α}(h:l[k]?=some x):(l.take (k+1)).any p=((l.take k).any p||p x):=by rw[cN h,List.any_append];simp
theorem Kc(i:Nat):(pS i).size≤i+7:=by
 have:=lR i;unfold pS;rw[ByteArray.size_append];have:(⟨#[112,108,97,99,101,32]⟩:ByteArray).size=6:=rfl;omega
theorem yC(n:Network)(hl:n.places.length≤1048576)(hs:∀s∈n.places,s.size≤1048576):NC Tryz.prog 68 [.agg (aP n)] (aY (sD n.places)) .os:=by
 refine NC.body (c:=Tryz.f68.body.getD .skip) (fun t=>t == 3) mixed Tryz.func68 rfl (by kernel_rfl) ?_;unfold Tryz.f68;simp only[Option.getD_some];simp only[go_sem];refine aN fun j hj=>?_
 simp only[go_sem];refine bD (fun ρ H=>∃j,ρ 1=.rp (aP n) 0∧ρ 3=.os j∧H j=some (aY (opt (decide ((n.places.length:Int)>24)) ⟨4,⟨#[112,108,97,99,101,115]⟩⟩))) ?_ fun K hK=>aA (fun hb=>?_) (fun hb=>?_)
 · rintro ρ H ⟨j,h1,h3,hH⟩
   simp only[go_sem,h1,h3];generalize hpre:opt (decide ((n.places.length:Int)>24)) (⟨4,⟨#[112,108,97,99,101,115]⟩⟩:Fault)=pre at hH;have hpl:pre.length≤1:=by rw[←hpre];exact bW _ _
   refine⟨fun ρ H=>∃k:Nat,k≤n.places.length∧ρ 1=.rp (aP n) 0∧ρ 4=int k∧∃j,ρ 3=.os j∧H j=some (aY (pre++(List.range k).flatMap (fE n.places))),fun ρ _=>n.places.length-bQ (ρ 4),⟨0,Nat.zero_le _,by simp only[go_sem,h1],by simp only[go_sem];rfl,j,by simp only[go_sem,h3],by simpa using hH⟩,?_⟩;rintro ρ H ⟨k,hk,h1,h4,j,h3,hH⟩;generalize hes:pre++(List.range k).flatMap (fE n.places)=es at hH;have hlen:es.length≤k+1:=by
     have:=dV (Mf n.places) (List.range k);rw[←hes,List.length_append];rw[List.length_range]at this;omega
   simp only[go_sem,h1,h3,h4];refine aA (fun hlt=>?_) (fun hge=>?_)
   · have hlt:=cA hlt
     obtain⟨p,hp⟩:=bC hlt;have b1:=inB hlt;have hkk:k≤4611686018427387904:=by omega
     have hds:=lR k;have hfl:pre++(List.range (k+1)).flatMap (fE n.places)=es++fE n.places k:=by rw[gG,←List.append_assoc,hes]
     simp only[go_sem,h1,h3,h4];refine PC.use (oX _ (by omega)) ?_;simp only[go_sem,h1,h3,h4,b1,aH hp];refine⟨by rw[sP];show((6+(iR k).size:Nat):Int)≤_;omega,?_⟩;refine PC.use (KS p (hs p (iO hp))) ?_;simp only[go_sem,h1,h3,h4];refine aA (fun hb=>?_) (fun hb=>?_)
     · simp only[go_sem,h1,h3,h4]
       refine bA hH ⟨rfl,rfl⟩ (by simp only[go_sem]) (by simp only[List.length_map,List.length_cons,List.length_nil];omega) (fun j' hj'=>?_);simp only[go_sem,h1,h3,h4,bG hkk];refine⟨⟨k+1,hlt,rfl,j',rfl,?_⟩,by simp only[aI];omega⟩;have hn:jS (El n.places k)=false:=by rw[Ak hp];simpa using hb
       rw[hfl,fE,hn];exact dT (l':=[⟨5,pS k⟩]) rfl
     · simp only[go_sem,h1,h3,h4]
       have hn:jS (El n.places k)=true:=by rw[Ak hp];simpa using hb
       refine⟨fun ρ H'=>∃m:Nat,m≤k∧ρ 1=.rp (aP n) 0∧ρ 3=.os j∧ρ 4=int k∧ρ 5=str (pS k)∧ρ 6=boo ((n.places.take m).any fun s=>s.toList == p.toList)∧ρ 7=int m∧H'=H,fun ρ _=>k-bQ (ρ 7),⟨0,Nat.zero_le _,by simp only[go_sem,h1],by simp only[go_sem,h3],by simp only[go_sem,h4],by simp only[go_sem];rfl,by simp only[go_sem];rfl,by simp only[go_sem];rfl,rfl⟩,?_⟩;rintro ρ H' ⟨m,hm,h1,h3,h4,h5,h6,h7,rfl⟩;simp only[go_sem,h1,h3,h4,h5,h6,h7];refine aA (fun hlt2=>?_) (fun hge2=>?_)
       · have hlt2:=cA hlt2
         obtain⟨q,hq⟩:=bC (show m<n.places.length by omega);have b2:=inB (show m<n.places.length by omega);simp only[go_sem];refine gL (by rfl) (by kernel_rfl) ?_;simp only[go_sem,h1,h3,h4,h5,h6,h7,b1,b2,aH hp,aH hq,bG (show m≤4611686018427387904 by omega)];refine⟨⟨m+1,hlt2,?_,rfl⟩,by simp only[aI];omega⟩;rw[BY hq]
       · have hge2:=cF hm hge2
         subst hge2;simp only[go_sem,h6];have hsb:pH n.places m=(n.places.take m).any fun s=>s.toList == p.toList:=by unfold pH;rw[Ak hp]
         refine fU (fun ρ' H'=>ρ' 1=.rp (aP n) 0∧ρ' 4=int m∧∃j,ρ' 3=.os j∧H' j=some (aY (pre++(List.range (m+1)).flatMap (fE n.places)))) ?_ fun K hK _ _=>aA (fun hb=>?_) (fun hb=>?_)
         · rintro ρ H ⟨h1,h4,j,h3,hH⟩
           simp only[go_sem,h1,h3,h4,bG hkk];exact⟨⟨m+1,hlt,rfl,j,rfl,hH⟩,by simp only[aI];omega⟩
         · simp only[go_sem,h1,h3,h4,h5]
           refine bA hH ⟨rfl,rfl⟩ (by simp only[go_sem]) (by simp only[List.length_map,List.length_cons,List.length_nil];omega) (fun j' hj'=>?_);simp only[go_sem];refine hK _ _ ⟨by simp only[go_sem,h1],by simp only[go_sem,h4],j',by simp only[go_sem],?_⟩;rw[hfl,fE,hn];show _=some (aY (es++opt (pH n.places m) ⟨6,pS m⟩));rw[gP (hsb.trans hb)];exact dT (l':=[⟨6,pS m⟩]) rfl
         · simp only[go_sem]
           refine hK _ _ ⟨by simp only[go_sem,h1],by simp only[go_sem,h4],j,by simp only[go_sem,h3],?_⟩;rw[hfl,fE,hn];show _=some (aY (es++opt (pH n.places m) ⟨6,pS m⟩));rw[gO (hsb.trans hb),List.append_nil,hH]
   · have hge:=cF hk hge
     subst hge;simp only[go_sem,h3];exact⟨_,rfl,by rw[hH,←hes,←hpre];rfl⟩
 · simp only[go_sem]
   refine bA (r:=aY []) (by simp only[go_sem];rfl) ⟨rfl,rfl⟩ (by simp only[go_sem]) (by simp) (fun j' hj'=>?_);simp only[go_sem];refine hK _ _ ⟨j',rfl,rfl,?_⟩;rw[gP (by exact hb)];exact dT (l:=[]) (l':=[⟨4,⟨#[112,108,97,99,101,115]⟩⟩]) rfl
 · simp only[go_sem]
   refine hK _ _ ⟨j,rfl,rfl,?_⟩;rw[gO (by exact hb),aB];rfl
def Km(l:List VType)(i:Nat):VType:=l.getD i ⟨ByteArray.empty,0,0,0,[],0,0,0,0,0,0,0,0,0⟩
theorem BJ{l:List VType}{k:Nat}{p:VType}(h:l[k]?=some p):Km l k=p:=by simp[Km,List.getD,h]
def kB(n:Network)(l:List VType)(k:Nat)(t:VType):List Int:=
 []++opt (!jS t.name) 5++opt (qT l k t.name) 6++opt (!inR t.count 0 10) 22++opt (!inR t.src 0 (n.places.length-1)|| !inR t.dst 0 (n.places.length-1)) 11
   ++ opt (!uG t.cap (kW l)) 17++opt (!inR t.skills 0 1073741823) 18++opt (!inR t.start 0 t.close||decide (t.close>4096)) 15
   ++ opt (!inR t.drive 1 4096|| !inR t.rest 0 4096) 16++opt (!inR t.profile 0 7|| !inR t.fixed 0 100000|| !inR t.perMile 0 100|| !inR t.perTick 0 100) 2
theorem Qc(n:Network)(l:List VType)(k:Nat)(hk:k<l.length)(hl:l.length≤1048576)(hs:∀t∈l,t.name.size≤1048576∧t.cap.length≤1048576)(hp:n.places.length≤1048576):
   PC Tryz.prog 71 [.agg (aP n),.sl (l.map bE),int k] (.sl ((kB n l k (Km l k)).map aM)):=by
 refine PC.body (c:=Tryz.f71.body.getD .skip) (fun t=>t == 8) mixed Tryz.func71 rfl (by kernel_rfl) ?_;unfold Tryz.f71;simp only[Option.getD_some];simp only[go_sem];obtain⟨t,ht⟩:=bC hk;have b1:=inB hk;have hst:=hs t (iO ht);rw[BJ ht];simp only[go_sem,b1,aH ht];refine aN fun i hi=>?_
 simp only[go_sem];refine aU (aB _ _ _) (by simp[xR]) ?_;simp only[go_sem];refine aN fun j hj=>?_
 have hi':=jJ (r':=(⟨35,1,[]⟩:Row)) (aB _ _ _) hj;simp only[go_sem,hi'];refine PC.use (KS _ hst.1) ?_;simp only[go_sem];refine mZ (fun ρ' H'=>ρ' 1=.sl (l.map bE)∧ρ' 2=int k∧ρ' 3=.rp (aP n) 0∧ρ' 7=.op i 0 0∧H' i=some (nG t)∧∃j',ρ' 8=.os j'∧j'≠i∧H' j'=some (jF [])) ⟨by simp only[go_sem],by simp only[go_sem],by simp only[go_sem],by simp only[go_sem],jJ (aB _ _ _) hj,_,by simp only[go_sem],(aO (aB _ _ _) hj).symm,aB _ _ _⟩ ?_;rintro ρ H ⟨h1,h2,h3,h7,hi,j,h8,hji,hH⟩;generalize hes0:([]:List Int)=es0 at hH;have hln0:es0.length≤0:=by rw[←hes0];exact Nat.le_refl _
 refine bD (fun ρ' H'=>ρ' 1=.sl (l.map bE)∧ρ' 2=int k∧ρ' 3=.rp (aP n) 0∧ρ' 7=.op i 0 0∧H' i=some (nG t)∧∃j',ρ' 8=.os j'∧j'≠i∧H' j'=some (jF (es0++opt (!jS t.name) 5))) ?_ fun K hK=>aA (fun hb=>?_) (fun hb=>?_)
 rotate_left
 · simp only[go_sem,h1,h2,h3,h7,h8]
   refine bA hH ⟨rfl,rfl⟩ (by simp only[go_sem]) (by simp only[List.length_map,List.length_cons,List.length_nil];omega) (fun j' hj'=>?_);simp only[go_sem];refine hK _ _ ⟨by simp only[go_sem,h1],by simp only[go_sem,h2],by simp only[go_sem,h3],by simp only[go_sem,h7],dE hi hji hj',j',by simp only[go_sem],(aO hi hj').symm,?_⟩;rw[gP (show(!jS t.name)=true from hb)];exact fR (l':=[5]) rfl
 · simp only[go_sem]
   refine hK _ _ ⟨by simp only[go_sem,h1],by simp only[go_sem,h2],by simp only[go_sem,h3],by simp only[go_sem,h7],hi,j,by simp only[go_sem,h8],hji,?_⟩;rw[gO (show(!jS t.name)=false from hb),List.append_nil,hH]
 clear hH h1 h2 h3 h7 h8;rintro ρ H ⟨h1,h2,h3,h7,hi,j,h8,hji,hH⟩;generalize hes1:es0++opt (!jS t.name) (5:Int)=es1 at hH;have hln1:es1.length≤es0.length+1:=by rw[←hes1,List.length_append];have:=bW (!jS t.name) (5:Int);omega
 simp only[go_sem,h1,h2,h3,h7,h8,hi];refine PC.use (VF l k t.name (by omega) hl) ?_;simp only[go_sem];refine bD (fun ρ' H'=>ρ' 1=.sl (l.map bE)∧ρ' 2=int k∧ρ' 3=.rp (aP n) 0∧ρ' 7=.op i 0 0∧H' i=some (nG t)∧∃j',ρ' 8=.os j'∧j'≠i∧H' j'=some (jF (es1++opt (qT l k t.name) 6))) ?_ fun K hK=>aA (fun hb=>?_) (fun hb=>?_)
 rotate_left
 · simp only[go_sem,h1,h2,h3,h7,h8]
   refine bA hH ⟨rfl,rfl⟩ (by simp only[go_sem]) (by simp only[List.length_map,List.length_cons,List.length_nil];omega) (fun j' hj'=>?_);simp only[go_sem];refine hK _ _ ⟨by simp only[go_sem,h1],by simp only[go_sem,h2],by simp only[go_sem,h3],by simp only[go_sem,h7],dE hi hji hj',j',by simp only[go_sem],(aO hi hj').symm,?_⟩;rw[gP (show(qT l k t.name)=true from hb)];exact fR (l':=[6]) rfl
 · simp only[go_sem]
   refine hK _ _ ⟨by simp only[go_sem,h1],by simp only[go_sem,h2],by simp only[go_sem,h3],by simp only[go_sem,h7],hi,j,by simp only[go_sem,h8],hji,?_⟩;rw[gO (show(qT l k t.name)=false from hb),List.append_nil,hH]
 clear hH h1 h2 h3 h7 h8;rintro ρ H ⟨h1,h2,h3,h7,hi,j,h8,hji,hH⟩;generalize hes2:es1++opt (qT l k t.name) (6:Int)=es2 at hH;have hln2:es2.length≤es1.length+1:=by rw[←hes2,List.length_append];have:=bW (qT l k t.name) (6:Int);omega
 simp only[go_sem,h1,h2,h3,h7,h8,hi];refine PC.use (mJ _ _ _) ?_;simp only[go_sem];refine bD (fun ρ' H'=>ρ' 1=.sl (l.map bE)∧ρ' 2=int k∧ρ' 3=.rp (aP n) 0∧ρ' 7=.op i 0 0∧H' i=some (nG t)∧∃j',ρ' 8=.os j'∧j'≠i∧H' j'=some (jF (es2++opt (!inR t.count 0 10) 22))) ?_ fun K hK=>aA (fun hb=>?_) (fun hb=>?_)
 rotate_left
 · simp only[go_sem,h1,h2,h3,h7,h8]
   refine bA hH ⟨rfl,rfl⟩ (by simp only[go_sem]) (by simp only[List.length_map,List.length_cons,List.length_nil];omega) (fun j' hj'=>?_);simp only[go_sem];refine hK _ _ ⟨by simp only[go_sem,h1],by simp only[go_sem,h2],by simp only[go_sem,h3],by simp only[go_sem,h7],dE hi hji hj',j',by simp only[go_sem],(aO hi hj').symm,?_⟩;rw[gP (show(!inR t.count 0 10)=true from hb)];exact fR (l':=[22]) rfl
 · simp only[go_sem]
   refine hK _ _ ⟨by simp only[go_sem,h1],by simp only[go_sem,h2],by simp only[go_sem,h3],by simp only[go_sem,h7],hi,j,by simp only[go_sem,h8],hji,?_⟩;rw[gO (show(!inR t.count 0 10)=false from hb),List.append_nil,hH]
 clear hH h1 h2 h3 h7 h8;rintro ρ H ⟨h1,h2,h3,h7,hi,j,h8,hji,hH⟩;generalize hes3:es2++opt (!inR t.count 0 10) (22:Int)=es3 at hH;have hln3:es3.length≤es2.length+1:=by rw[←hes3,List.length_append];have:=bW (!inR t.count 0 10) (22:Int);omega
 simp only[go_sem,h1,h2,h3,h7,h8,hi,mH (show n.places.length≤4611686018427387904 by omega)];refine PC.use (mJ _ _ _) ?_;simp only[go_sem,h1,h2,h3,h7,h8,hi,mH (show n.places.length≤4611686018427387904 by omega)];refine⟨_,fun _=>(mJ _ _ _).q rfl,?_⟩;simp only[go_sem,h1,h2,h3,h7,h8,hi];refine bD (fun ρ' H'=>ρ' 1=.sl (l.map bE)∧ρ' 2=int k∧ρ' 3=.rp (aP n) 0∧ρ' 7=.op i 0 0∧H' i=some (nG t)∧∃j',ρ' 8=.os j'∧j'≠i∧H' j'=some (jF (es3++opt (!inR t.src 0 (n.places.length-1)|| !inR t.dst 0 (n.places.length-1)) 11))) ?_ fun K hK=>aA (fun hb=>?_) (fun hb=>?_)
 rotate_left
 · simp only[go_sem,h1,h2,h3,h7,h8]
   refine bA hH ⟨rfl,rfl⟩ (by simp only[go_sem]) (by simp only[List.length_map,List.length_cons,List.length_nil];omega) (fun j' hj'=>?_);simp only[go_sem];refine hK _ _ ⟨by simp only[go_sem,h1],by simp only[go_sem,h2],by simp only[go_sem,h3],by simp only[go_sem,h7],dE hi hji hj',j',by simp only[go_sem],(aO hi hj').symm,?_⟩;rw[gP (show(!inR t.src 0 (n.places.length-1)|| !inR t.dst 0 (n.places.length-1))=true from hb)];exact fR (l':=[11]) rfl
 · simp only[go_sem]
   refine hK _ _ ⟨by simp only[go_sem,h1],by simp only[go_sem,h2],by simp only[go_sem,h3],by simp only[go_sem,h7],hi,j,by simp only[go_sem,h8],hji,?_⟩;rw[gO (show(!inR t.src 0 (n.places.length-1)|| !inR t.dst 0 (n.places.length-1))=false from hb),List.append_nil,hH]
 clear hH h1 h2 h3 h7 h8;rintro ρ H ⟨h1,h2,h3,h7,hi,j,h8,hji,hH⟩;generalize hes4:es3++opt (!inR t.src 0 (n.places.length-1)|| !inR t.dst 0 (n.places.length-1)) (11:Int)=es4 at hH;have hln4:es4.length≤es3.length+1:=by rw[←hes4,List.length_append];have:=bW (!inR t.src 0 (n.places.length-1)|| !inR t.dst 0 (n.places.length-1)) (11:Int);omega
 simp only[go_sem,h1,h2,h3,h7,h8,hi];refine gL (by rfl) (by kernel_rfl) ?_;simp only[go_sem,h1,h2,h3,h7,h8,hi];refine⟨_,(Th l).q rfl,?_⟩;simp only[go_sem,h1,h2,h3,h7,h8,hi];refine⟨_,(afB t.cap (kW l) hst.2).q rfl,?_⟩;simp only[go_sem,h1,h2,h3,h7,h8,hi];refine bD (fun ρ' H'=>ρ' 1=.sl (l.map bE)∧ρ' 2=int k∧ρ' 3=.rp (aP n) 0∧ρ' 7=.op i 0 0∧H' i=some (nG t)∧∃j',ρ' 8=.os j'∧j'≠i∧H' j'=some (jF (es4++opt (!uG t.cap (kW l)) 17))) ?_ fun K hK=>aA (fun hb=>?_) (fun hb=>?_)
 rotate_left
 · simp only[go_sem,h1,h2,h3,h7,h8]
   refine bA hH ⟨rfl,rfl⟩ (by simp only[go_sem]) (by simp only[List.length_map,List.length_cons,List.length_nil];omega) (fun j' hj'=>?_);simp only[go_sem];refine hK _ _ ⟨by simp only[go_sem,h1],by simp only[go_sem,h2],by simp only[go_sem,h3],by simp only[go_sem,h7],dE hi hji hj',j',by simp only[go_sem],(aO hi hj').symm,?_⟩;rw[gP (show(!uG t.cap (kW l))=true from hb)];exact fR (l':=[17]) rfl
 · simp only[go_sem]
   refine hK _ _ ⟨by simp only[go_sem,h1],by simp only[go_sem,h2],by simp only[go_sem,h3],by simp only[go_sem,h7],hi,j,by simp only[go_sem,h8],hji,?_⟩;rw[gO (show(!uG t.cap (kW l))=false from hb),List.append_nil,hH]
 clear hH h1 h2 h3 h7 h8;rintro ρ H ⟨h1,h2,h3,h7,hi,j,h8,hji,hH⟩;generalize hes5:es4++opt (!uG t.cap (kW l)) (17:Int)=es5 at hH;have hln5:es5.length≤es4.length+1:=by rw[←hes5,List.length_append];have:=bW (!uG t.cap (kW l)) (17:Int);omega
 simp only[go_sem,h1,h2,h3,h7,h8,hi];refine PC.use (mJ _ _ _) ?_;simp only[go_sem,h1,h2,h3,h7,h8,hi];refine bD (fun ρ' H'=>ρ' 1=.sl (l.map bE)∧ρ' 2=int k∧ρ' 3=.rp (aP n) 0∧ρ' 7=.op i 0 0∧H' i=some (nG t)∧∃j',ρ' 8=.os j'∧j'≠i∧H' j'=some (jF (es5++opt (!inR t.skills 0 1073741823) 18))) ?_ fun K hK=>aA (fun hb=>?_) (fun hb=>?_)
 rotate_left
 · simp only[go_sem,h1,h2,h3,h7,h8]
   refine bA hH ⟨rfl,rfl⟩ (by simp only[go_sem]) (by simp only[List.length_map,List.length_cons,List.length_nil];omega) (fun j' hj'=>?_);simp only[go_sem];refine hK _ _ ⟨by simp only[go_sem,h1],by simp only[go_sem,h2],by simp only[go_sem,h3],by simp only[go_sem,h7],dE hi hji hj',j',by simp only[go_sem],(aO hi hj').symm,?_⟩;rw[gP (show(!inR t.skills 0 1073741823)=true from hb)];exact fR (l':=[18]) rfl
 · simp only[go_sem]
   refine hK _ _ ⟨by simp only[go_sem,h1],by simp only[go_sem,h2],by simp only[go_sem,h3],by simp only[go_sem,h7],hi,j,by simp only[go_sem,h8],hji,?_⟩;rw[gO (show(!inR t.skills 0 1073741823)=false from hb),List.append_nil,hH]
 clear hH h1 h2 h3 h7 h8;rintro ρ H ⟨h1,h2,h3,h7,hi,j,h8,hji,hH⟩;generalize hes6:es5++opt (!inR t.skills 0 1073741823) (18:Int)=es6 at hH;have hln6:es6.length≤es5.length+1:=by rw[←hes6,List.length_append];have:=bW (!inR t.skills 0 1073741823) (18:Int);omega
 simp only[go_sem,h1,h2,h3,h7,h8,hi];refine PC.use (mJ _ _ _) ?_;simp only[go_sem,h1,h2,h3,h7,h8,hi];refine bD (fun ρ' H'=>ρ' 1=.sl (l.map bE)∧ρ' 2=int k∧ρ' 3=.rp (aP n) 0∧ρ' 7=.op i 0 0∧H' i=some (nG t)∧∃j',ρ' 8=.os j'∧j'≠i∧H' j'=some (jF (es6++opt (!inR t.start 0 t.close||decide (t.close>4096)) 15))) ?_ fun K hK=>aA (fun hb=>?_) (fun hb=>?_)
 rotate_left
 · simp only[go_sem,h1,h2,h3,h7,h8]
   refine bA hH ⟨rfl,rfl⟩ (by simp only[go_sem]) (by simp only[List.length_map,List.length_cons,List.length_nil];omega) (fun j' hj'=>?_);simp only[go_sem];refine hK _ _ ⟨by simp only[go_sem,h1],by simp only[go_sem,h2],by simp only[go_sem,h3],by simp only[go_sem,h7],dE hi hji hj',j',by simp only[go_sem],(aO hi hj').symm,?_⟩;rw[gP (show(!inR t.start 0 t.close||decide (t.close>4096))=true from hb)];exact fR (l':=[15]) rfl
 · simp only[go_sem]
   refine hK _ _ ⟨by simp only[go_sem,h1],by simp only[go_sem,h2],by simp only[go_sem,h3],by simp only[go_sem,h7],hi,j,by simp only[go_sem,h8],hji,?_⟩;rw[gO (show(!inR t.start 0 t.close||decide (t.close>4096))=false from hb),List.append_nil,hH]
 clear hH h1 h2 h3 h7 h8;rintro ρ H ⟨h1,h2,h3,h7,hi,j,h8,hji,hH⟩;generalize hes7:es6++opt (!inR t.start 0 t.close||decide (t.close>4096)) (15:Int)=es7 at hH;have hln7:es7.length≤es6.length+1:=by rw[←hes7,List.length_append];have:=bW (!inR t.start 0 t.close||decide (t.close>4096)) (15:Int);omega
 simp only[go_sem,h1,h2,h3,h7,h8,hi];refine PC.use (mJ _ _ _) ?_;simp only[go_sem,h1,h2,h3,h7,h8,hi];refine⟨_,fun _=>(mJ _ _ _).q rfl,?_⟩;simp only[go_sem,h1,h2,h3,h7,h8,hi];refine bD (fun ρ' H'=>ρ' 1=.sl (l.map bE)∧ρ' 2=int k∧ρ' 3=.rp (aP n) 0∧ρ' 7=.op i 0 0∧H' i=some (nG t)∧∃j',ρ' 8=.os j'∧j'≠i∧H' j'=some (jF (es7++opt (!inR t.drive 1 4096|| !inR t.rest 0 4096) 16))) ?_ fun K hK=>aA (fun hb=>?_) (fun hb=>?_)
 rotate_left
 · simp only[go_sem,h1,h2,h3,h7,h8]
   refine bA hH ⟨rfl,rfl⟩ (by simp only[go_sem]) (by simp only[List.length_map,List.length_cons,List.length_nil];omega) (fun j' hj'=>?_);simp only[go_sem];refine hK _ _ ⟨by simp only[go_sem,h1],by simp only[go_sem,h2],by simp only[go_sem,h3],by simp only[go_sem,h7],dE hi hji hj',j',by simp only[go_sem],(aO hi hj').symm,?_⟩;rw[gP (show(!inR t.drive 1 4096|| !inR t.rest 0 4096)=true from hb)];exact fR (l':=[16]) rfl
 · simp only[go_sem]
   refine hK _ _ ⟨by simp only[go_sem,h1],by simp only[go_sem,h2],by simp only[go_sem,h3],by simp only[go_sem,h7],hi,j,by simp only[go_sem,h8],hji,?_⟩;rw[gO (show(!inR t.drive 1 4096|| !inR t.rest 0 4096)=false from hb),List.append_nil,hH]
 clear hH h1 h2 h3 h7 h8;rintro ρ H ⟨h1,h2,h3,h7,hi,j,h8,hji,hH⟩;generalize hes8:es7++opt (!inR t.drive 1 4096|| !inR t.rest 0 4096) (16:Int)=es8 at hH;have hln8:es8.length≤es7.length+1:=by rw[←hes8,List.length_append];have:=bW (!inR t.drive 1 4096|| !inR t.rest 0 4096) (16:Int);omega
 simp only[go_sem,h1,h2,h3,h7,h8,hi];refine PC.use (mJ _ _ _) ?_;simp only[go_sem,h1,h2,h3,h7,h8,hi];refine⟨_,fun _=>(mJ _ _ _).q rfl,?_⟩;simp only[go_sem,h1,h2,h3,h7,h8,hi];refine⟨_,fun _=>(mJ _ _ _).q rfl,?_⟩;simp only[go_sem,h1,h2,h3,h7,h8,hi];refine⟨_,fun _=>(mJ _ _ _).q rfl,?_⟩;simp only[go_sem,h1,h2,h3,h7,h8,hi];refine bD (fun ρ' H'=>ρ' 1=.sl (l.map bE)∧ρ' 2=int k∧ρ' 3=.rp (aP n) 0∧ρ' 7=.op i 0 0∧H' i=some (nG t)∧∃j',ρ' 8=.os j'∧j'≠i∧H' j'=some (jF (es8++opt (!inR t.profile 0 7|| !inR t.fixed 0 100000|| !inR t.perMile 0 100|| !inR t.perTick 0 100) 2))) ?_ fun K hK=>aA (fun hb=>?_) (fun hb=>?_)
 rotate_left
 · simp only[go_sem,h1,h2,h3,h7,h8]
   refine bA hH ⟨rfl,rfl⟩ (by simp only[go_sem]) (by simp only[List.length_map,List.length_cons,List.length_nil];omega) (fun j' hj'=>?_);simp only[go_sem];refine hK _ _ ⟨by simp only[go_sem,h1],by simp only[go_sem,h2],by simp only[go_sem,h3],by simp only[go_sem,h7],dE hi hji hj',j',by simp only[go_sem],(aO hi hj').symm,?_⟩;rw[gP (show(!inR t.profile 0 7|| !inR t.fixed 0 100000|| !inR t.perMile 0 100|| !inR t.perTick 0 100)=true from hb)];exact fR (l':=[2]) rfl
 · simp only[go_sem]
   refine hK _ _ ⟨by simp only[go_sem,h1],by simp only[go_sem,h2],by simp only[go_sem,h3],by simp only[go_sem,h7],hi,j,by simp only[go_sem,h8],hji,?_⟩;rw[gO (show(!inR t.profile 0 7|| !inR t.fixed 0 100000|| !inR t.perMile 0 100|| !inR t.perTick 0 100)=false from hb),List.append_nil,hH]
 clear hH h1 h2 h3 h7 h8;rintro ρ H ⟨h1,h2,h3,h7,hi,j,h8,hji,hH⟩;generalize hes9:es8++opt (!inR t.profile 0 7|| !inR t.fixed 0 100000|| !inR t.perMile 0 100|| !inR t.perTick 0 100) (2:Int)=es9 at hH;have hln9:es9.length≤es8.length+1:=by rw[←hes9,List.length_append];have:=bW (!inR t.profile 0 7|| !inR t.fixed 0 100000|| !inR t.perMile 0 100|| !inR t.perTick 0 100) (2:Int);omega
 simp only[go_sem,h1,h2,h3,h7,h8,hi];have hall:kB n l k t=es9:=by unfold kB;rw[hes0,hes1,hes2,hes3,hes4,hes5,hes6,hes7,hes8,hes9]
 rw[hall];exact .row _ _ _ hH (ConvE.refl _)
def gH(n:Network)(l:List VType)(k:Nat):List Fault:=(kB n l k (Km l k)).map fun e=>⟨e,iR k⟩
def pI(n:Network)(l:List VType):List Fault:=opt (!inR l.length 1 6) ⟨4,ByteArray.empty⟩++(List.range l.length).flatMap (gH n l)
theorem sR(n:Network)(l:List VType)(k:Nat)(t:VType):(kB n l k t).length≤9:=by
 unfold kB;simp only[List.length_append,List.length_nil];have h:=fun(b:Bool) (x:Int)=>bW b x
 have h1:=h (!jS t.name) 5;have h2:=h (qT l k t.name) 6;have h3:=h (!inR t.count 0 10) 22;have h4:=h (!inR t.src 0 (n.places.length-1)|| !inR t.dst 0 (n.places.length-1)) 11;have h5:=h (!uG t.cap (kW l)) 17;have h6:=h (!inR t.skills 0 1073741823) 18;have h7:=h (!inR t.start 0 t.close||decide (t.close>4096)) 15;have h8:=h (!inR t.drive 1 4096|| !inR t.rest 0 4096) 16;have h9:=h (!inR t.profile 0 7|| !inR t.fixed 0 100000|| !inR t.perMile 0 100|| !inR t.perTick 0 100) 2;omega
theorem yA{α β:Type}{f:α→β}{l:List α}{k:Nat}{x:α}(h:l[k]?=some x):(l.take (k+1)).map f=(l.take k).map f++[f x]:=by rw[cN h,List.map_append];rfl
theorem TA(n:Network)(l:List VType)(hl:l.length≤1048576)(hs:∀t∈l,t.name.size≤1048576∧t.cap.length≤1048576)(hp:n.places.length≤1048576):
   NC Tryz.prog 31 [.agg (aP n),.sl (l.map bE)] (aY (pI n l)) .os:=by
 refine NC.body (c:=Tryz.f31.body.getD .skip) (fun t=>t == 5) mixed Tryz.func31 rfl (by kernel_rfl) ?_;unfold Tryz.f31;simp only[Option.getD_some];simp only[go_sem];refine aN fun j hj=>?_
 simp only[go_sem];refine PC.use (mJ _ _ _) ?_;simp only[go_sem];refine mZ (fun ρ' H'=>ρ' 1=.sl (l.map bE)∧ρ' 2=.rp (aP n) 0∧∃j',ρ' 5=.os j'∧H' j'=some (aY [])) ⟨by simp only[go_sem],by simp only[go_sem],_,by simp only[go_sem],aB _ _ _⟩ ?_;rintro ρ H ⟨h1,h2,j,h5,hH⟩;generalize hes0:([]:List Fault)=es0 at hH;have hln0:es0.length≤0:=by rw[←hes0];exact Nat.le_refl _
 refine bD (fun ρ' H'=>ρ' 1=.sl (l.map bE)∧ρ' 2=.rp (aP n) 0∧∃j',ρ' 5=.os j'∧H' j'=some (aY (es0++opt (!inR l.length 1 6) ⟨4,ByteArray.empty⟩))) ?_ fun K hK=>aA (fun hb=>?_) (fun hb=>?_)
 rotate_left
 · simp only[go_sem,h1,h2,h5]
   refine bA hH ⟨rfl,rfl⟩ (by simp only[go_sem]) (by simp only[List.length_map,List.length_cons,List.length_nil];omega) (fun j' hj'=>?_);simp only[go_sem];refine hK _ _ ⟨by simp only[go_sem,h1],by simp only[go_sem,h2],j',by simp only[go_sem],?_⟩;rw[gP (show(!inR l.length 1 6)=true from hb)];exact dT (l':=[⟨4,ByteArray.empty⟩]) rfl
 · simp only[go_sem]
   refine hK _ _ ⟨by simp only[go_sem,h1],by simp only[go_sem,h2],j,by simp only[go_sem,h5],?_⟩;rw[gO (show(!inR l.length 1 6)=false from hb),List.append_nil,hH]
 clear hH h1 h2 h5;rintro ρ H ⟨h1,h2,j,h5,hH⟩;generalize hes1:es0++opt (!inR l.length 1 6) (⟨4,ByteArray.empty⟩:Fault)=es1 at hH;have hln1:es1.length≤es0.length+1:=by rw[←hes1,List.length_append];have:=bW (!inR l.length 1 6) (⟨4,ByteArray.empty⟩:Fault);omega
 simp only[go_sem,h1,h2];refine⟨fun ρ H=>∃k:Nat,k≤l.length∧ρ 1=.sl (l.map bE)∧ρ 2=.rp (aP n) 0∧ρ 6=int k∧∃j,ρ 5=.os j∧H j=some (aY (es1++(List.range k).flatMap (gH n l))),fun ρ _=>l.length-bQ (ρ 6),⟨0,Nat.zero_le _,by simp only[go_sem,h1],by simp only[go_sem,h2],by simp only[go_sem];rfl,j,by simp only[go_sem,h5],by simpa using hH⟩,?_⟩;clear hH h1 h2 h5 hj;rintro ρ H ⟨k,hk,h1,h2,h6,j,h5,hH⟩;generalize hes:es1++(List.range k).flatMap (gH n l)=es at hH;have hlen:es.length≤9*k+1:=by
   have:=dV (f:=gH n l) (c:=9) (fun x=>by unfold gH;rw[List.length_map];exact sR _ _ _ _) (List.range k);rw[←hes,List.length_append];rw[List.length_range]at this;omega
 simp only[go_sem,h1,h2,h6,h5];refine aA (fun hlt=>?_) (fun hge=>?_)
 · have hlt:=cA hlt
   have hkk:k≤4611686018427387904:=by omega
   have hfl:es1++(List.range (k+1)).flatMap (gH n l)=es++gH n l k:=by rw[gG,←List.append_assoc,hes]
   simp only[go_sem,h1,h2,h6];refine PC.use (Qc n l k hlt hl hs hp) ?_;simp only[go_sem];have hel:=sR n l k (Km l k);have htf:gH n l k=(kB n l k (Km l k)).map fun e=>⟨e,iR k⟩:=rfl
   generalize kB n l k (Km l k)=er at hel htf;refine⟨fun ρ H=>∃m:Nat,m≤er.length∧ρ 1=.sl (l.map bE)∧ρ 2=.rp (aP n) 0∧ρ 6=int k∧ρ 7=.sl (er.map aM)∧ρ 8=int m∧∃j,ρ 5=.os j∧H j=some (aY (es++(er.take m).map fun e=>⟨e,iR k⟩)),fun ρ _=>er.length-bQ (ρ 8),⟨0,Nat.zero_le _,by simp only[go_sem,h1],by simp only[go_sem,h2],by simp only[go_sem,h6],by simp only[go_sem],by simp only[go_sem];rfl,j,by simp only[go_sem,h5],by simpa using hH⟩,?_⟩;clear hH h1 h2 h5 h6;rintro ρ H ⟨m,hm,h1,h2,h6,h7,h8,j,h5,hH⟩;simp only[go_sem,h1,h2,h6,h5,h7,h8];refine aA (fun hlt2=>?_) (fun hge2=>?_)
   · have hlt2:=cA hlt2
     obtain⟨e,he⟩:=bC hlt2;have b2:=inB hlt2;simp only[go_sem];refine Ft (by kernel_rfl) ?_;simp only[go_sem,h1,h2,h6,h5,h7,h8,b2,aH he];refine⟨_,(oX _ (by omega)).q rfl,?_⟩;simp only[go_sem];refine bA hH ⟨rfl,rfl⟩ (by simp only[go_sem]) (by simp only[List.length_map,List.length_append,List.length_take,List.length_cons,List.length_nil];omega) (fun j' hj'=>?_);simp only[go_sem,h1,h2,h6,h7,h8,bG (show m≤4611686018427387904 by omega)];refine⟨⟨m+1,hlt2,rfl,j',rfl,?_⟩,by simp only[aI];omega⟩;rw[yA he,←List.append_assoc];exact dT (l':=[⟨e,iR k⟩]) rfl
   · have hge2:=cF hm hge2
     subst hge2;simp only[go_sem,h1,h2,h6,h5,bG hkk];refine⟨⟨k+1,hlt,rfl,j,rfl,?_⟩,by simp only[aI];omega⟩;rw[hfl,hH,htf,List.take_length]
 · have hge:=cF hk hge
   subst hge;simp only[go_sem,h5];exact⟨_,rfl,by rw[hH,←hes,←hes1,←hes0];rfl⟩
end Go.Proofs.YtdlijlecpopadaaGreatDoor
