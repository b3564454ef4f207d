/- Texts joined by a program: RefA. -/
import Derived.Test.YtdlijlecpopadaaGreatDoorZw11
set_option linter.unusedSimpArgs false
set_option linter.unusedVariables false
set_option maxRecDepth 100000
namespace Go.Proofs.YtdlijlecpopadaaGreatDoor
open Go.Aw Go.Aw.D Go.Proofs Ty
def inR(n lo hi:Int):Bool:=decide (n≥lo)&&decide (n≤hi)
theorem lY(n lo hi:Int):PC Tryz.prog 70 [int n,int lo,int hi] (boo (inR n lo hi)):=by
 refine PC.body (c:=Tryz.f70.body.getD .skip) (fun _=>false) mixed Tryz.func70 rfl (by kernel_rfl) ?_;unfold Tryz.f70;simp only[Option.getD_some];simp only[go_sem];exact .refl _
theorem CA(n lo hi:Int):PC Tryz.prog 136 [int n,int lo,int hi] (boo (inR n lo hi)):=by
 refine PC.body (c:=Tryz.f136.body.getD .skip) (fun _=>false) mixed Tryz.func136 rfl (by kernel_rfl) ?_;unfold Tryz.f136;simp only[Option.getD_some];simp only[go_sem];exact .refl _
theorem Ru(n:Int):PC Tryz.prog 132 [int n] (boo (inR n 0 4096)):=by
 refine PC.body (c:=Tryz.f132.body.getD .skip) (fun _=>false) mixed Tryz.func132 rfl (by kernel_rfl) ?_;unfold Tryz.f132;simp only[Option.getD_some];simp only[go_sem];exact .refl _
def Ah(c:Int):Bool:=decide (c≥48)&&decide (c≤57)
theorem Bn(c:Int):PC Tryz.prog 179 [.v (.int .u8 c)] (boo (Ah c)):=by
 refine PC.body (c:=Tryz.f179.body.getD .skip) (fun _=>false) mixed Tryz.func179 rfl (by kernel_rfl) ?_;unfold Tryz.f179;simp only[Option.getD_some];simp only[go_sem];exact .refl _
def yE(c:Int):Bool:=decide (c≥97)&&decide (c≤122)||decide (c≥65)&&decide (c≤90)||c == 95
theorem yS(c:Int):PC Tryz.prog 180 [.v (.int .u8 c)] (boo (yE c)):=by
 refine PC.body (c:=Tryz.f180.body.getD .skip) (fun _=>false) mixed Tryz.func180 rfl (by kernel_rfl) ?_;unfold Tryz.f180;simp only[Option.getD_some];simp only[go_sem];exact .refl _
def jL(s:Stop):Bool:=s.place == -1&&s.start == 0&&s.close == 0&&s.service == 0
def Gi(s:Stop):Bool:=decide (s.place<0)||decide (s.start<0)||decide (s.start>s.close)||decide (s.close>4096)||decide (s.service<0)||decide (s.service>4096)
def dU(s:Stop):Int:=if jL s then 0 else if Gi s then 2 else 0
theorem JY(s:Stop):PC Tryz.prog 137 [.agg (hY s)] (int (dU s)):=by
 refine PC.body (c:=Tryz.f137.body.getD .skip) (fun _=>false) mixed Tryz.func137 rfl (by kernel_rfl) ?_;unfold Tryz.f137;simp only[Option.getD_some];simp only[go_sem];refine aA (fun h=>?_) (fun h=>?_)
 · simp only[go_sem]
   have:dU s=0:=if_pos h;rw[this];exact .refl _
 · simp only[go_sem]
   refine aA (fun h2=>?_) (fun h2=>?_)
   · simp only[go_sem]
     have:dU s=2:=by unfold dU;rw[if_neg (by simp[jL,h])];exact if_pos h2
     rw[this];exact .refl _
   · simp only[go_sem]
     have:dU s=0:=by unfold dU;rw[if_neg (by simp[jL,h]),if_neg (by simp only[Gi,h2];simp)]
     rw[this];exact .refl _
def Co(n:Int):ByteArray:=strOfNums [IntKind.u8.wrap (IntKind.i64.wrap (48+n))]
def iP(n:Nat):ByteArray:=if n<10 then Co n else iP (n/10)++Co (n%10:Nat)
theorem As(x:Int):(strOfNums [x]).size=1:=by simp[strOfNums];rfl
theorem AM(n:Int):(Co n).size=1:=As _
theorem vZ{n:Nat}(h:10≤n):iP n=iP (n/10)++Co (n%10:Nat):=by rw[iP,if_neg (by omega)]
theorem rM{n:Nat}(h:n<10):iP n=Co n:=by rw[iP,if_pos h]
theorem lP(n:Nat):(iP n).size≤n+1:=by
 induction n using Nat.strongRecOn with
 | ind n ih=>
   rcases Nat.lt_or_ge n 10 with h|h
   · rw[rM h,AM];omega
   · rw[vZ h,ByteArray.size_append,AM]
     have:=ih (n/10) (by omega);omega
theorem KV(m:Nat):(m:Int).tmod 10=((m%10:Nat):Int):=by rw[Int.tmod_eq_emod_of_nonneg (by omega)];rfl
theorem LY(m:Nat):(m:Int).tdiv 10=((m/10:Nat):Int):=by rw[Int.tdiv_eq_ediv_of_nonneg (by omega)];rfl
theorem Iz{k:Nat}(h:k≤4611686018427387904):IntKind.i64.wrap (k:Int)=(k:Int):=aU (by omega)
theorem tO:IntKind.i64.max=9223372036854775807:=by decide
theorem Tx(n:Nat)(hn:n≤4611686018427387904):PC Tryz.prog 138 [int n] (str (iP n)):=by
 refine PC.body (c:=Tryz.f138.body.getD .skip) (fun _=>false) mixed Tryz.func138 rfl (by kernel_rfl) ?_;unfold Tryz.f138;simp only[Option.getD_some];simp only[go_sem];refine⟨fun ρ _=>∃(m:Nat) (s:ByteArray),ρ 0=int m∧ρ 3=str s∧iP n=iP m++s∧s.size+m≤n,
   fun ρ _=>bR (ρ 0),⟨n,ByteArray.empty,rfl,rfl,by simp,by simp⟩,?_⟩
 rintro ρ H ⟨k,s,h0,h3,he,hs⟩;simp only[go_sem,h0,h3];refine aA (fun hlt=>?_) (fun hge=>?_)
 · have hlt : 10 ≤ k := by
     have:(10:Int)≤k:=by simpa using hlt
     omega
   simp only[go_sem,h0,h3,LY,KV,Iz (show k/10≤4611686018427387904 by omega),aI];refine⟨by omega,?_,by omega,⟨k/10,_,rfl,rfl,?_,?_⟩,by omega⟩
   · rw[As,tO];omega
   · rw[he,vZ hlt,ByteArray.append_assoc];rfl
   · rw[ByteArray.size_append,As];omega
 · have hge : k < 10 := by
     have:¬(10:Int)≤k:=by simpa using hge
     omega
   simp only[go_sem,h0,h3];refine⟨by rw[As,tO];omega,?_⟩;rw[he,rM hge];exact .refl _
def QL:AV→Nat
 | .v (.bool true)=>1
 | _=>0
theorem oZ(n:Nat)(hn:n≤4611686018427387904):PC Tryz.prog 72 [int n] (str (iP n)):=by
 refine PC.body (c:=Tryz.f72.body.getD .skip) (fun _=>false) mixed Tryz.func72 rfl (by kernel_rfl) ?_;unfold Tryz.f72;simp only[Option.getD_some];simp only[go_sem];refine⟨fun ρ _=>∃(b:Bool) (m:Nat) (s:ByteArray),ρ 0=int n∧ρ 5=boo b∧ρ 4=int m∧ρ 3=str s∧(b=true→iP n=iP m++s∧s.size+m≤n)∧(b=false→iP n=s),
   fun ρ _=>bR (ρ 4)+QL (ρ 5),⟨true,n,ByteArray.empty,rfl,rfl,rfl,rfl,fun _=>by simp,by simp⟩,?_⟩
 rintro ρ H ⟨b,k,s,h0,h5,h4,h3,ht,hf⟩;simp only[go_sem,h0,h3,h4,h5];refine aA (fun hb=>?_) (fun hb=>?_)
 · subst hb
   obtain⟨he,hs⟩:=ht rfl;simp only[go_sem,h0,h3,h4,h5,LY,KV];refine⟨by omega,?_⟩;refine aA (fun hb=>?_) (fun hb=>?_)
   · exfalso;simp at hb;omega
   · simp only[go_sem,h0,h3,h4,h5,LY,KV,Iz (show k/10≤4611686018427387904 by omega),aI]
     refine⟨by rw[As,tO];omega,by omega,⟨_,k/10,_,rfl,rfl,rfl,?_,?_⟩,?_⟩
     · intro hb
       have:10≤k:=by simp at hb;omega
       refine⟨?_,?_⟩
       · rw[he,vZ this,ByteArray.append_assoc];rfl
       · rw[ByteArray.size_append,As];omega
     · intro hb
       have h10:k<10:=by simp at hb;omega
       rw[he,rM h10,Nat.mod_eq_of_lt h10];rfl
     · rcases Nat.lt_or_ge k 10 with h|h
       · have:k/10=0:=by omega
         simp[this,QL]
       · simp only[QL];split <;> omega
 · simp only[go_sem,h0,h3,h4,h5]
   refine aA (fun hb=>?_) (fun hb=>?_)
   · exfalso;simp at hb;omega
   · simp only[go_sem,h0,h3,h4,h5]
     rw[hf (by assumption)];exact .refl _
def dJ(l:List Int)(d:Int):Bool:=if(l.length:Int)=d then l.all fun n=> !(decide (n<0)||decide (n>1000))else false
theorem B9{α:Type}{p:α→Bool}{l:List α}(h:∀x∈l,p x=true):l.all p=true:=List.all_eq_true.2 h
theorem BU{α:Type}{p:α→Bool}{l:List α}{x:α}(h:x∈l)(hp:p x=false):l.all p=false:=by
 cases hb:l.all p with
 | false=>rfl
 | true=>rw[List.all_eq_true.1 hb x h]at hp;cases hp
theorem iQ{α:Type}{l:List α}{k:Nat}{x:α}(h:l[k]?=some x):x∈l:=List.mem_of_getElem? h
theorem uI{α:Type}{q:α→Prop}{l:List α}{k:Nat}{x:α}(hr:l[k]?=some x)(h:∀y∈l.take k,q y)(hx:q x):∀y∈l.take (k+1),q y:=by
 rw[cH hr];intro y hy;rcases List.mem_append.1 hy with hy|hy
 · exact h y hy
 · simp at hy;subst hy;exact hx
theorem cA{k n:Nat}(h:decide ((k:Int)<(n:Int))=true):k<n:=by simpa using h
theorem cE{k n:Nat}(hk:k≤n)(h:decide ((k:Int)<(n:Int))=false):k=n:=by
 have:¬k<n:=by simpa using h
 omega
theorem Gv(l:List Int)(d:Int)(hl:l.length≤1048576):PC Tryz.prog 135 [.sl (l.map aM),int d] (boo (dJ l d)):=by
 refine PC.body (c:=Tryz.f135.body.getD .skip) (fun _=>false) mixed Tryz.func135 rfl (by kernel_rfl) ?_;unfold Tryz.f135;simp only[Option.getD_some];simp only[go_sem];refine aA (fun hd=>?_) (fun hd=>?_)
 · simp only[go_sem]
   have:dJ l d=false:=by unfold dJ;rw[if_neg (by simpa using hd)]
   rw[this];exact .refl _
 · have hd:(l.length:Int)=d:=by simpa using hd
   simp only[go_sem];refine⟨fun ρ _=>∃k:Nat,k≤l.length∧ρ 0=.sl (l.map aM)∧ρ 5=int k∧∀n∈l.take k,(decide (n<0)||decide (n>1000))=false,fun ρ _=>l.length-bR (ρ 5),⟨0,Nat.zero_le _,rfl,rfl,by simp⟩,?_⟩;rintro ρ H ⟨k,hk,h0,h5,hn⟩;simp only[go_sem,h0,h5];refine aA (fun hlt=>?_) (fun hge=>?_)
   · have hlt:=cA hlt
     obtain⟨r,hr⟩:=bA hlt;have b1:=inB hlt;simp only[go_sem,h0,h5,b1,aH hr];refine aA (fun hb=>?_) (fun hb=>?_)
     · simp only[go_sem]
       have:dJ l d=false:=by unfold dJ;rw[if_pos hd];exact BU (iQ hr) (by simp only[hb];rfl)
       rw[this];exact .refl _
     · simp only[go_sem,h0,h5,bG (show k≤4611686018427387904 by omega)]
       exact⟨⟨k+1,hlt,rfl,uI hr hn hb⟩,by simp only[aI];omega⟩
   · have hge:=cE hk hge
     subst hge;simp only[go_sem];have:dJ l d=true:=by unfold dJ;rw[if_pos hd];exact B9 fun n h=>by rw[hn n (by simpa using h)];rfl
     rw[this];exact .refl _
def uD(l:List Int)(d:Int):Bool:=if(!inR l.length 1 3||(l.length:Int) != d)=true then false else l.all fun n=>inR n 0 1000
theorem Zg(l:List Int)(d:Int)(hl:l.length≤1048576):PC Tryz.prog 134 [.sl (l.map aM),int d] (boo (uD l d)):=by
 refine PC.body (c:=Tryz.f134.body.getD .skip) (fun _=>false) mixed Tryz.func134 rfl (by kernel_rfl) ?_;unfold Tryz.f134;simp only[Option.getD_some];simp only[go_sem];refine PC.use (lY _ _ _) ?_;simp only[go_sem];refine aA (fun hd=>?_) (fun hd=>?_)
 · simp only[go_sem]
   have:uD l d=false:=by unfold uD;rw[if_pos hd]
   rw[this];exact .refl _
 · simp only[go_sem]
   refine⟨fun ρ _=>∃k:Nat,k≤l.length∧ρ 0=.sl (l.map aM)∧ρ 5=int k∧∀n∈l.take k,inR n 0 1000=true,fun ρ _=>l.length-bR (ρ 5),⟨0,Nat.zero_le _,rfl,rfl,by simp⟩,?_⟩;rintro ρ H ⟨k,hk,h0,h5,hn⟩;simp only[go_sem,h0,h5];refine aA (fun hlt=>?_) (fun hge=>?_)
   · have hlt:=cA hlt
     obtain⟨r,hr⟩:=bA hlt;have b1:=inB hlt;simp only[go_sem,h0,h5,b1,aH hr];refine PC.use (lY _ _ _) ?_;simp only[go_sem];refine aA (fun hb=>?_) (fun hb=>?_)
     · simp only[go_sem]
       have:uD l d=false:=by unfold uD;rw[if_neg (by rw[hd];simp)];exact BU (iQ hr) (by simpa using hb)
       rw[this];exact .refl _
     · simp only[go_sem,h0,h5,bG (show k≤4611686018427387904 by omega)]
       exact⟨⟨k+1,hlt,rfl,uI hr hn (by simpa using hb)⟩,by simp only[aI];omega⟩
   · have hge:=cE hk hge
     subst hge;simp only[go_sem];have:uD l d=true:=by unfold uD;rw[if_neg (by rw[hd];simp)];exact B9 fun n h=>hn n (by simpa using h)
     rw[this];exact .refl _
def qP(s:ByteArray)(i:Nat):Int:=((s.data.getD i 0).toNat:Int)
def jX(s:ByteArray):Bool:=if(decide ((s.size:Int)<1)||decide ((s.size:Int)>16)||Ah (qP s 0))=true then false else(List.range s.size).all fun i=>yE (qP s i)||Ah (qP s i)
theorem rS{n k:Nat}(h:k<n):(List.range n)[k]?=some k:=by simp[h]
theorem Lr(s:ByteArray)(hl:s.size≤1048576):PC Tryz.prog 130 [str s] (boo (jX s)):=by
 refine PC.body (c:=Tryz.f130.body.getD .skip) (fun _=>false) mixed Tryz.func130 rfl (by kernel_rfl) ?_;unfold Tryz.f130;simp only[Option.getD_some];simp only[go_sem];refine⟨fun h=>⟨by omega,by simp at h;omega⟩,_,fun _=>(Bn _).q rfl,?_⟩;simp only[go_sem];refine aA (fun hd=>?_) (fun hd=>?_)
 · simp only[go_sem]
   have:jX s=false:=by unfold jX;rw[if_pos (by exact hd)]
   rw[this];exact .refl _
 · simp only[go_sem]
   refine⟨fun ρ _=>∃k:Nat,k≤s.size∧ρ 0=str s∧ρ 3=int k∧∀i∈(List.range s.size).take k,(yE (qP s i)||Ah (qP s i))=true,fun ρ _=>s.size-bR (ρ 3),⟨0,Nat.zero_le _,rfl,rfl,by simp⟩,?_⟩;rintro ρ H ⟨k,hk,h0,h3,hn⟩;simp only[go_sem,h0,h3];refine aA (fun hlt=>?_) (fun hge=>?_)
   · have hlt:=cA hlt
     have b1:=inB hlt;simp only[go_sem,h0,h3,b1];refine PC.use (yS _) ?_;simp only[go_sem,h0,h3,b1];refine⟨_,fun _=>(Bn _).q rfl,?_⟩;simp only[go_sem];refine aA (fun hb=>?_) (fun hb=>?_)
     · simp only[go_sem]
       have:jX s=false:=by unfold jX;rw[if_neg (by intro h;exact absurd (h.symm.trans hd) (by simp))];exact BU (iQ (rS hlt)) (by simpa[qP]using hb)
       rw[this];exact .refl _
     · simp only[go_sem,h0,h3,bG (show k≤4611686018427387904 by omega)]
       exact⟨⟨k+1,hlt,rfl,uI (rS hlt) hn (by
         have:(!yE (qP s k)&& !Ah (qP s k))=false:=hb
         revert this;cases yE (qP s k) <;> cases Ah (qP s k) <;> simp)⟩,by simp only[aI];omega⟩
   · have hge:=cE hk hge
     subst hge;simp only[go_sem];have:jX s=true:=by unfold jX;rw[if_neg (by intro h;exact absurd (h.symm.trans hd) (by simp))];exact B9 fun n h=>hn n (by rw[List.take_of_length_le (by simp)];exact h)
     rw[this];exact .refl _
def lD(l:List VType):Int:=match l with|[]=>0|t::_=>t.cap.length
theorem SA(l:List VType):PC Tryz.prog 33 [.sl (l.map bE)] (int (lD l)):=by
 refine PC.body (c:=Tryz.f33.body.getD .skip) (fun _=>false) mixed Tryz.func33 rfl (by kernel_rfl) ?_;unfold Tryz.f33;simp only[Option.getD_some];simp only[go_sem];cases l with
 | nil=>
   simp only[go_sem];refine aA (fun hb=>?_) (fun hb=>?_)
   · simp only[go_sem];exact .refl _
   · simp at hb
 | cons t l=>
   refine aA (fun hb=>?_) (fun hb=>?_)
   · simp at hb;omega
   · simp only[go_sem]
     exact⟨⟨by omega,by omega⟩,.refl _⟩
def qZ(l:List VType)(k:Nat)(s:ByteArray):Bool:=(l.take k).any fun t=>t.name.toList == s.toList
theorem UX(l:List VType)(m:Nat)(s:ByteArray)(hm:m≤l.length)(hl:l.length≤1048576):PC Tryz.prog 133 [.sl (l.map bE),int m,str s] (boo (qZ l m s)):=by
 refine PC.body (c:=Tryz.f133.body.getD .skip) (fun _=>false) mixed Tryz.func133 rfl (by kernel_rfl) ?_;unfold Tryz.f133;simp only[Option.getD_some];simp only[go_sem];refine⟨fun ρ _=>∃k:Nat,k≤m∧ρ 0=.sl (l.map bE)∧ρ 1=int m∧ρ 2=str s∧ρ 7=int k∧∀t∈l.take k,(t.name.toList == s.toList)=false,fun ρ _=>m-bR (ρ 7),⟨0,Nat.zero_le _,rfl,rfl,rfl,rfl,by simp⟩,?_⟩;rintro ρ H ⟨k,hk,h0,h1,h2,h7,hn⟩;simp only[go_sem,h0,h1,h2,h7];refine aA (fun hlt=>?_) (fun hge=>?_)
 · have hlt:=cA hlt
   obtain⟨r,hr⟩:=bA (show k<l.length by omega);have b1:=inB (show k<l.length by omega);simp only[go_sem,h0,h1,h2,h7,b1,aH hr];refine aA (fun hb=>?_) (fun hb=>?_)
   · simp only[go_sem]
     have:qZ l m s=true:=by
       refine List.any_eq_true.2 ⟨r,?_,hb⟩;exact List.mem_of_getElem? (i:=k) (by rw[List.getElem?_take];simp[hlt,hr])
     rw[this];exact .refl _
   · simp only[go_sem,h0,h1,h2,h7,bG (show k≤4611686018427387904 by omega)]
     exact⟨⟨k+1,hlt,rfl,uI hr hn hb⟩,by simp only[aI];omega⟩
 · have hge:=cE hk hge
   subst hge;simp only[go_sem];have:qZ l k s=false:=List.any_eq_false.2 fun t ht=>by simp[hn t ht]
   rw[this];exact .refl _
def nX(p:Point):Bool:=decide (p.t<0)||decide (p.t>4096)||decide (p.a<p.t)||decide (p.a>IntKind.i64.wrap (p.t+4096))
def Gh(p q:Point):Bool:=decide (p.t≤q.t)||decide (p.a<q.a)
def dB(l:List Point)(i:Nat):Point:=l.getD i ⟨0,0⟩
def Cy(n lo hi:Int):Bool:=decide (n<lo)||decide (n>hi)
def fY(l:List Point)(i:Nat):List Fault:=
 opt (nX (dB l i)) ⟨2,iP i⟩++opt (decide ((i:Int)>0)&&Gh (dB l i) (dB l (i-1))) ⟨13,iP i⟩
def gZ(l:List Point):List Fault:=opt (Cy l.length 1 16) ⟨4,ByteArray.empty⟩++(List.range l.length).flatMap (fY l)
theorem Tt(l:List Point)(i:Nat):(fY l i).length≤2:=by
 unfold fY;rw[List.length_append];have:=bW (nX (dB l i)) (⟨2,iP i⟩:Fault);have:=bW (decide ((i:Int)>0)&&Gh (dB l i) (dB l (i-1))) (⟨13,iP i⟩:Fault);omega
theorem dT{α β:Type}{f:α→List β}{c:Nat}(h:∀x,(f x).length≤c):∀l:List α,(l.flatMap f).length≤c*l.length
 | []=>by simp
 | x::r=>by
   have h1:=h x;have h2:=dT h r;simp only[List.flatMap_cons,List.length_append,List.length_cons,Nat.mul_add,Nat.mul_one];omega
theorem gF{β:Type}(f:Nat→List β)(k:Nat):(List.range (k+1)).flatMap f=(List.range k).flatMap f++f k:=by rw[List.range_succ,List.flatMap_append];simp
theorem dC{l:List Point}{k:Nat}{p:Point}(h:l[k]?=some p):dB l k=p:=by simp[dB,List.getD,h]
theorem PB(l:List Point)(hl:l.length≤1048576):NC Tryz.prog 131 [.sl (l.map bS)] (aY (gZ l)) .os:=by
 refine NC.body (c:=Tryz.f131.body.getD .skip) (fun t=>t == 3) mixed Tryz.func131 rfl (by kernel_rfl) ?_;unfold Tryz.f131;simp only[Option.getD_some];simp only[go_sem];refine aN fun j hj=>?_
 simp only[go_sem];refine bD (fun ρ H=>∃j,ρ 0=.sl (l.map bS)∧ρ 3=.os j∧H j=some (aY (opt (Cy l.length 1 16) ⟨4,ByteArray.empty⟩))) ?_ fun K hK=>aA (fun hb=>?_) (fun hb=>?_)
 · rintro ρ H ⟨j,h0,h3,hH⟩
   simp only[go_sem,h0,h3];generalize hpre:opt (Cy l.length 1 16) (⟨4,ByteArray.empty⟩:Fault)=pre at hH;have hpl:pre.length≤1:=by rw[←hpre];exact bW _ _
   refine⟨fun ρ H=>∃k:Nat,k≤l.length∧ρ 0=.sl (l.map bS)∧ρ 4=int k∧∃j,ρ 3=.os j∧H j=some (aY (pre++(List.range k).flatMap (fY l))),fun ρ _=>l.length-bR (ρ 4),⟨0,Nat.zero_le _,by simp only[go_sem,h0],by simp only[go_sem];rfl,j,by simp only[go_sem,h3],by simpa using hH⟩,?_⟩;rintro ρ H ⟨k,hk,h0,h4,j,h3,hH⟩;generalize hes:pre++(List.range k).flatMap (fY l)=es at hH;have hlen:es.length≤2*k+1:=by
     have:=dT (Tt l) (List.range k);rw[←hes,List.length_append];rw[List.length_range]at this;omega
   simp only[go_sem,h0,h3,h4];refine aA (fun hlt=>?_) (fun hge=>?_)
   · have hlt:=cA hlt
     obtain⟨p,hp⟩:=bA hlt;have b1:=inB hlt;simp only[go_sem,h0,h3,h4,b1,aH hp];refine aN fun i hi=>?_
     simp only[go_sem];refine aT (r:=⟨136,2,[[int 0,int 0]]⟩) (by rw[aB]) (by simp[fK]) ?_;simp only[go_sem];have hji:j≠i:=aO hH hi;have hH':aJ (aJ H i (some ⟨136,2,[[int 0,int 0]]⟩)) i (some ⟨136,2,[bS p]⟩) j=some (aY es):=by rw[aD _ _ _ _ hji,aD _ _ _ _ hji,hH]
     refine bD (fun ρ' H'=>∃j',ρ' 0=.sl (l.map bS)∧ρ' 4=int k∧ρ' 3=.os j'∧ρ' 5=.op i 0 0∧H' i=some ⟨136,2,[bS p]⟩∧j'≠i ∧
       H' j'=some (aY (es++opt (nX p) ⟨2,iP k⟩))) ?_ fun K hK=>aA (fun hb=>?_) (fun hb=>?_)
     · rintro ρ H ⟨j,h0,h4,h3,h5,hi,hji,hH⟩
       generalize hfs:es++opt (nX p) ⟨2,iP k⟩=fs at hH;have hfl:fs.length≤2*k+2:=by
         have:=bW (nX p) (⟨2,iP k⟩:Fault);rw[←hfs,List.length_append];omega
       simp only[go_sem];refine gI (by rfl) (by kernel_rfl) ?_;simp only[go_sem,h0,h3,h4,h5,hi];obtain⟨q,hq⟩:=bA (show k-1<l.length by omega);simp only[go_sem,h0,h3,h4,h5,hi,R9 (show k≤4611686018427387904 by omega),aH hq];have hkk:k≤4611686018427387904:=by omega
       have hg:decide ((k:Int)>0)=true→0≤IntKind.i64.wrap ((k:Int)-1)∧IntKind.i64.wrap ((k:Int)-1)<(l.length:Int):=fun h=>by
         have:(k:Int)>0:=by simpa using h
         rw[lX hkk];omega
       have hpf:pre++(List.range (k+1)).flatMap (fY l)=fs++opt (decide ((k:Int)>0)&&Gh p q) ⟨13,iP k⟩:=by
         rw[gF,←List.append_assoc,hes,←hfs,fY,dC hp,dC hq,List.append_assoc]
       refine⟨hg,fun h=>hg h.1,fW (fun ρ' H'=>ρ' 0=.sl (l.map bS)∧ρ' 4=int k∧∃j,ρ' 3=.os j∧H' j=some (aY (pre++(List.range (k+1)).flatMap (fY l)))) ?_ fun K hK _ _=>aA (fun hb=>?_) (fun hb=>?_)⟩
       · rintro ρ H ⟨h0,h4,j,h3,hH⟩
         simp only[go_sem,h0,h3,h4,bG hkk];exact⟨⟨k+1,hlt,rfl,j,rfl,hH⟩,by simp only[aI];omega⟩
       · simp only[go_sem,h0,h3,h4]
         refine PC.use (oZ _ (by omega)) ?_;simp only[go_sem,h0,h3,h4];refine bC hH ⟨rfl,rfl⟩ (by simp only[go_sem]) (by simp only[List.length_map,List.length_cons,List.length_nil];omega) (fun j' hj'=>?_);simp only[go_sem,h0,h3,h4];refine hK _ _ ⟨by simp only[go_sem,h0],by simp only[go_sem,h4],j',by simp only[go_sem],?_⟩;rw[hpf,gN (by exact hb)];exact dV (l':=[⟨13,iP k⟩]) rfl
       · simp only[go_sem]
         refine hK _ _ ⟨by simp only[go_sem,h0],by simp only[go_sem,h4],j,by simp only[go_sem,h3],?_⟩;rw[hpf,gO (by exact hb),List.append_nil,hH]
     · simp only[go_sem,h0,h3,h4]
       refine PC.use (oZ _ (by omega)) ?_;simp only[go_sem,h0,h3,h4];refine bC hH' ⟨rfl,rfl⟩ (by simp only[go_sem]) (by simp only[List.length_map,List.length_cons,List.length_nil];omega) (fun j' hj'=>?_);simp only[go_sem,h0,h3,h4];have hi':=aB (aJ H i (some ⟨136,2,[[int 0,int 0]]⟩)) i (some ⟨136,2,[bS p]⟩);refine hK _ _ ⟨j',by simp only[go_sem,h0],by simp only[go_sem,h4],by simp only[go_sem],by simp only[go_sem],dE hi' hji hj',(aO hi' hj').symm,?_⟩;rw[gN (show nX p=true from hb)];exact dV (l':=[⟨2,iP k⟩]) rfl
     · simp only[go_sem]
       refine hK _ _ ⟨j,by simp only[go_sem,h0],by simp only[go_sem,h4],by simp only[go_sem,h3],by simp only[go_sem],by rw[aB],hji,?_⟩;rw[hH',gO (show nX p=false from hb),List.append_nil]
   · have hge:=cE hk hge
     subst hge;simp only[go_sem,h3];exact⟨_,rfl,by rw[hH,←hes,←hpre];rfl⟩
 · simp only[go_sem]
   refine bC (r:=aY []) (by simp only[go_sem];rfl) ⟨rfl,rfl⟩ (by simp only[go_sem]) (by simp) (fun j' hj'=>?_);simp only[go_sem];refine hK _ _ ⟨j',rfl,rfl,?_⟩;rw[gN (by exact hb)];exact dV (l:=[]) (l':=[⟨4,ByteArray.empty⟩]) rfl
 · simp only[go_sem]
   refine hK _ _ ⟨j,rfl,rfl,?_⟩;rw[gO (by exact hb),aB];rfl
def DS(l:List ByteArray)(i:Nat):ByteArray:=l.getD i ByteArray.empty
theorem Aa{l:List ByteArray}{k:Nat}{p:ByteArray}(h:l[k]?=some p):DS l k=p:=by simp[DS,List.getD,h]
def pW(i:Nat):ByteArray:=⟨#[112,108,97,99,101,32]⟩++iP i
def pT(l:List ByteArray)(i:Nat):Bool:=(l.take i).any fun s=>s.toList == (DS l i).toList
def fC(l:List ByteArray)(i:Nat):List Fault:=match jX (DS l i)with
 | false=>[⟨5,pW i⟩]
 | true=>opt (pT l i) ⟨6,pW i⟩
theorem MB(l:List ByteArray)(i:Nat):(fC l i).length≤1:=by
 unfold fC;split
 · simp
 · exact bW _ _
def sH(l:List ByteArray):List Fault:=opt (decide ((l.length:Int)>24)) ⟨4,⟨#[112,108,97,99,101,115]⟩⟩++(List.range l.length).flatMap (fC l)
theorem BB{α:Type}{p:α→Bool}{l:List α}{k:Nat}{x:α}(h:l[k]?=some x):(l.take (k+1)).any p=((l.take k).any p||p x):=by rw[cH h,List.any_append];simp
theorem Js(i:Nat):(pW i).size≤i+7:=by
 have:=lP i;unfold pW;rw[ByteArray.size_append];have:(⟨#[112,108,97,99,101,32]⟩:ByteArray).size=6:=rfl;omega
theorem xV(n:Network)(hl:n.places.length≤1048576)(hs:∀s∈n.places,s.size≤1048576):NC Tryz.prog 68 [.agg (aP n)] (aY (sH n.places)) .os:=by
 refine NC.body (c:=Tryz.f68.body.getD .skip) (fun t=>t == 3) mixed Tryz.func68 rfl (by kernel_rfl) ?_;unfold Tryz.f68;simp only[Option.getD_some];simp only[go_sem];refine aN fun j hj=>?_
 simp only[go_sem];refine bD (fun ρ H=>∃j,ρ 1=.rp (aP n) 0∧ρ 3=.os j∧H j=some (aY (opt (decide ((n.places.length:Int)>24)) ⟨4,⟨#[112,108,97,99,101,115]⟩⟩))) ?_ fun K hK=>aA (fun hb=>?_) (fun hb=>?_)
 · rintro ρ H ⟨j,h1,h3,hH⟩
   simp only[go_sem,h1,h3];generalize hpre:opt (decide ((n.places.length:Int)>24)) (⟨4,⟨#[112,108,97,99,101,115]⟩⟩:Fault)=pre at hH;have hpl:pre.length≤1:=by rw[←hpre];exact bW _ _
   refine⟨fun ρ H=>∃k:Nat,k≤n.places.length∧ρ 1=.rp (aP n) 0∧ρ 4=int k∧∃j,ρ 3=.os j∧H j=some (aY (pre++(List.range k).flatMap (fC n.places))),fun ρ _=>n.places.length-bR (ρ 4),⟨0,Nat.zero_le _,by simp only[go_sem,h1],by simp only[go_sem];rfl,j,by simp only[go_sem,h3],by simpa using hH⟩,?_⟩;rintro ρ H ⟨k,hk,h1,h4,j,h3,hH⟩;generalize hes:pre++(List.range k).flatMap (fC n.places)=es at hH;have hlen:es.length≤k+1:=by
     have:=dT (MB n.places) (List.range k);rw[←hes,List.length_append];rw[List.length_range]at this;omega
   simp only[go_sem,h1,h3,h4];refine aA (fun hlt=>?_) (fun hge=>?_)
   · have hlt:=cA hlt
     obtain⟨p,hp⟩:=bA hlt;have b1:=inB hlt;have hkk:k≤4611686018427387904:=by omega
     have hds:=lP k;have hfl:pre++(List.range (k+1)).flatMap (fC n.places)=es++fC n.places k:=by rw[gF,←List.append_assoc,hes]
     simp only[go_sem,h1,h3,h4];refine PC.use (oZ _ (by omega)) ?_;simp only[go_sem,h1,h3,h4,b1,aH hp];refine⟨by rw[tO];show((6+(iP k).size:Nat):Int)≤_;omega,?_⟩;refine PC.use (Lr p (hs p (iQ hp))) ?_;simp only[go_sem,h1,h3,h4];refine aA (fun hb=>?_) (fun hb=>?_)
     · simp only[go_sem,h1,h3,h4]
       refine bC hH ⟨rfl,rfl⟩ (by simp only[go_sem]) (by simp only[List.length_map,List.length_cons,List.length_nil];omega) (fun j' hj'=>?_);simp only[go_sem,h1,h3,h4,bG hkk];refine⟨⟨k+1,hlt,rfl,j',rfl,?_⟩,by simp only[aI];omega⟩;have hn:jX (DS n.places k)=false:=by rw[Aa hp];simpa using hb
       rw[hfl,fC,hn];exact dV (l':=[⟨5,pW k⟩]) rfl
     · simp only[go_sem,h1,h3,h4]
       have hn:jX (DS n.places k)=true:=by rw[Aa hp];simpa using hb
       refine⟨fun ρ H'=>∃m:Nat,m≤k∧ρ 1=.rp (aP n) 0∧ρ 3=.os j∧ρ 4=int k∧ρ 5=str (pW k)∧ρ 6=boo ((n.places.take m).any fun s=>s.toList == p.toList)∧ρ 7=int m∧H'=H,fun ρ _=>k-bR (ρ 7),⟨0,Nat.zero_le _,by simp only[go_sem,h1],by simp only[go_sem,h3],by simp only[go_sem,h4],by simp only[go_sem];rfl,by simp only[go_sem];rfl,by simp only[go_sem];rfl,rfl⟩,?_⟩;rintro ρ H' ⟨m,hm,h1,h3,h4,h5,h6,h7,rfl⟩;simp only[go_sem,h1,h3,h4,h5,h6,h7];refine aA (fun hlt2=>?_) (fun hge2=>?_)
       · have hlt2:=cA hlt2
         obtain⟨q,hq⟩:=bA (show m<n.places.length by omega);have b2:=inB (show m<n.places.length by omega);simp only[go_sem];refine gI (by rfl) (by kernel_rfl) ?_;simp only[go_sem,h1,h3,h4,h5,h6,h7,b1,b2,aH hp,aH hq,bG (show m≤4611686018427387904 by omega)];refine⟨⟨m+1,hlt2,?_,rfl⟩,by simp only[aI];omega⟩;rw[BB hq]
       · have hge2:=cE hm hge2
         subst hge2;simp only[go_sem,h6];have hsb:pT n.places m=(n.places.take m).any fun s=>s.toList == p.toList:=by unfold pT;rw[Aa hp]
         refine fW (fun ρ' H'=>ρ' 1=.rp (aP n) 0∧ρ' 4=int m∧∃j,ρ' 3=.os j∧H' j=some (aY (pre++(List.range (m+1)).flatMap (fC n.places)))) ?_ fun K hK _ _=>aA (fun hb=>?_) (fun hb=>?_)
         · rintro ρ H ⟨h1,h4,j,h3,hH⟩
           simp only[go_sem,h1,h3,h4,bG hkk];exact⟨⟨m+1,hlt,rfl,j,rfl,hH⟩,by simp only[aI];omega⟩
         · simp only[go_sem,h1,h3,h4,h5]
           refine bC hH ⟨rfl,rfl⟩ (by simp only[go_sem]) (by simp only[List.length_map,List.length_cons,List.length_nil];omega) (fun j' hj'=>?_);simp only[go_sem];refine hK _ _ ⟨by simp only[go_sem,h1],by simp only[go_sem,h4],j',by simp only[go_sem],?_⟩;rw[hfl,fC,hn];show _=some (aY (es++opt (pT n.places m) ⟨6,pW m⟩));rw[gN (hsb.trans hb)];exact dV (l':=[⟨6,pW m⟩]) rfl
         · simp only[go_sem]
           refine hK _ _ ⟨by simp only[go_sem,h1],by simp only[go_sem,h4],j,by simp only[go_sem,h3],?_⟩;rw[hfl,fC,hn];show _=some (aY (es++opt (pT n.places m) ⟨6,pW m⟩));rw[gO (hsb.trans hb),List.append_nil,hH]
   · have hge:=cE hk hge
     subst hge;simp only[go_sem,h3];exact⟨_,rfl,by rw[hH,←hes,←hpre];rfl⟩
 · simp only[go_sem]
   refine bC (r:=aY []) (by simp only[go_sem];rfl) ⟨rfl,rfl⟩ (by simp only[go_sem]) (by simp) (fun j' hj'=>?_);simp only[go_sem];refine hK _ _ ⟨j',rfl,rfl,?_⟩;rw[gN (by exact hb)];exact dV (l:=[]) (l':=[⟨4,⟨#[112,108,97,99,101,115]⟩⟩]) rfl
 · simp only[go_sem]
   refine hK _ _ ⟨j,rfl,rfl,?_⟩;rw[gO (by exact hb),aB];rfl
def Lk(l:List VType)(i:Nat):VType:=l.getD i ⟨ByteArray.empty,0,0,0,[],0,0,0,0,0,0,0,0,0⟩
theorem CQ{l:List VType}{k:Nat}{p:VType}(h:l[k]?=some p):Lk l k=p:=by simp[Lk,List.getD,h]
def kC(n:Network)(l:List VType)(k:Nat)(t:VType):List Int:=
 []++opt (!jX t.name) 5++opt (qZ l k t.name) 6++opt (!inR t.count 0 10) 22++opt (!inR t.src 0 (n.places.length-1)|| !inR t.dst 0 (n.places.length-1)) 11
   ++ opt (!uD t.cap (lD l)) 17++opt (!inR t.skills 0 1073741823) 18++opt (!inR t.start 0 t.close||decide (t.close>4096)) 15
   ++ opt (!inR t.drive 1 4096|| !inR t.rest 0 4096) 16++opt (!inR t.profile 0 7|| !inR t.fixed 0 100000|| !inR t.perMile 0 100|| !inR t.perTick 0 100) 2
theorem ST(n:Network)(l:List VType)(k:Nat)(hk:k<l.length)(hl:l.length≤1048576)(hs:∀t∈l,t.name.size≤1048576∧t.cap.length≤1048576)(hp:n.places.length≤1048576):
   PC Tryz.prog 71 [.agg (aP n),.sl (l.map bE),int k] (.sl ((kC n l k (Lk l k)).map aM)):=by
 refine PC.body (c:=Tryz.f71.body.getD .skip) (fun t=>t == 8) mixed Tryz.func71 rfl (by kernel_rfl) ?_;unfold Tryz.f71;simp only[Option.getD_some];simp only[go_sem];obtain⟨t,ht⟩:=bA hk;have b1:=inB hk;have hst:=hs t (iQ ht);rw[CQ ht];simp only[go_sem,b1,aH ht];refine aN fun i hi=>?_
 simp only[go_sem];refine aT (aB _ _ _) (by simp[xU]) ?_;simp only[go_sem];refine aN fun j hj=>?_
 have hi':=jN (r':=(⟨35,1,[]⟩:Row)) (aB _ _ _) hj;simp only[go_sem,hi'];refine PC.use (Lr _ hst.1) ?_;simp only[go_sem];refine mX (fun ρ' H'=>ρ' 1=.sl (l.map bE)∧ρ' 2=int k∧ρ' 3=.rp (aP n) 0∧ρ' 7=.op i 0 0∧H' i=some (nK t)∧∃j',ρ' 8=.os j'∧j'≠i∧H' j'=some (jK [])) ⟨by simp only[go_sem],by simp only[go_sem],by simp only[go_sem],by simp only[go_sem],jN (aB _ _ _) hj,_,by simp only[go_sem],(aO (aB _ _ _) hj).symm,aB _ _ _⟩ ?_;rintro ρ H ⟨h1,h2,h3,h7,hi,j,h8,hji,hH⟩;generalize hes0:([]:List Int)=es0 at hH;have hln0:es0.length≤0:=by rw[←hes0];exact Nat.le_refl _
 refine bD (fun ρ' H'=>ρ' 1=.sl (l.map bE)∧ρ' 2=int k∧ρ' 3=.rp (aP n) 0∧ρ' 7=.op i 0 0∧H' i=some (nK t)∧∃j',ρ' 8=.os j'∧j'≠i∧H' j'=some (jK (es0++opt (!jX t.name) 5))) ?_ fun K hK=>aA (fun hb=>?_) (fun hb=>?_)
 rotate_left
 · simp only[go_sem,h1,h2,h3,h7,h8]
   refine bC hH ⟨rfl,rfl⟩ (by simp only[go_sem]) (by simp only[List.length_map,List.length_cons,List.length_nil];omega) (fun j' hj'=>?_);simp only[go_sem];refine hK _ _ ⟨by simp only[go_sem,h1],by simp only[go_sem,h2],by simp only[go_sem,h3],by simp only[go_sem,h7],dE hi hji hj',j',by simp only[go_sem],(aO hi hj').symm,?_⟩;rw[gN (show(!jX t.name)=true from hb)];exact fP (l':=[5]) rfl
 · simp only[go_sem]
   refine hK _ _ ⟨by simp only[go_sem,h1],by simp only[go_sem,h2],by simp only[go_sem,h3],by simp only[go_sem,h7],hi,j,by simp only[go_sem,h8],hji,?_⟩;rw[gO (show(!jX t.name)=false from hb),List.append_nil,hH]
 clear hH h1 h2 h3 h7 h8;rintro ρ H ⟨h1,h2,h3,h7,hi,j,h8,hji,hH⟩;generalize hes1:es0++opt (!jX t.name) (5:Int)=es1 at hH;have hln1:es1.length≤es0.length+1:=by rw[←hes1,List.length_append];have:=bW (!jX t.name) (5:Int);omega
 simp only[go_sem,h1,h2,h3,h7,h8,hi];refine PC.use (UX l k t.name (by omega) hl) ?_;simp only[go_sem];refine bD (fun ρ' H'=>ρ' 1=.sl (l.map bE)∧ρ' 2=int k∧ρ' 3=.rp (aP n) 0∧ρ' 7=.op i 0 0∧H' i=some (nK t)∧∃j',ρ' 8=.os j'∧j'≠i∧H' j'=some (jK (es1++opt (qZ l k t.name) 6))) ?_ fun K hK=>aA (fun hb=>?_) (fun hb=>?_)
 rotate_left
 · simp only[go_sem,h1,h2,h3,h7,h8]
   refine bC hH ⟨rfl,rfl⟩ (by simp only[go_sem]) (by simp only[List.length_map,List.length_cons,List.length_nil];omega) (fun j' hj'=>?_);simp only[go_sem];refine hK _ _ ⟨by simp only[go_sem,h1],by simp only[go_sem,h2],by simp only[go_sem,h3],by simp only[go_sem,h7],dE hi hji hj',j',by simp only[go_sem],(aO hi hj').symm,?_⟩;rw[gN (show(qZ l k t.name)=true from hb)];exact fP (l':=[6]) rfl
 · simp only[go_sem]
   refine hK _ _ ⟨by simp only[go_sem,h1],by simp only[go_sem,h2],by simp only[go_sem,h3],by simp only[go_sem,h7],hi,j,by simp only[go_sem,h8],hji,?_⟩;rw[gO (show(qZ l k t.name)=false from hb),List.append_nil,hH]
 clear hH h1 h2 h3 h7 h8;rintro ρ H ⟨h1,h2,h3,h7,hi,j,h8,hji,hH⟩;generalize hes2:es1++opt (qZ l k t.name) (6:Int)=es2 at hH;have hln2:es2.length≤es1.length+1:=by rw[←hes2,List.length_append];have:=bW (qZ l k t.name) (6:Int);omega
 simp only[go_sem,h1,h2,h3,h7,h8,hi];refine PC.use (lY _ _ _) ?_;simp only[go_sem];refine bD (fun ρ' H'=>ρ' 1=.sl (l.map bE)∧ρ' 2=int k∧ρ' 3=.rp (aP n) 0∧ρ' 7=.op i 0 0∧H' i=some (nK t)∧∃j',ρ' 8=.os j'∧j'≠i∧H' j'=some (jK (es2++opt (!inR t.count 0 10) 22))) ?_ fun K hK=>aA (fun hb=>?_) (fun hb=>?_)
 rotate_left
 · simp only[go_sem,h1,h2,h3,h7,h8]
   refine bC hH ⟨rfl,rfl⟩ (by simp only[go_sem]) (by simp only[List.length_map,List.length_cons,List.length_nil];omega) (fun j' hj'=>?_);simp only[go_sem];refine hK _ _ ⟨by simp only[go_sem,h1],by simp only[go_sem,h2],by simp only[go_sem,h3],by simp only[go_sem,h7],dE hi hji hj',j',by simp only[go_sem],(aO hi hj').symm,?_⟩;rw[gN (show(!inR t.count 0 10)=true from hb)];exact fP (l':=[22]) rfl
 · simp only[go_sem]
   refine hK _ _ ⟨by simp only[go_sem,h1],by simp only[go_sem,h2],by simp only[go_sem,h3],by simp only[go_sem,h7],hi,j,by simp only[go_sem,h8],hji,?_⟩;rw[gO (show(!inR t.count 0 10)=false from hb),List.append_nil,hH]
 clear hH h1 h2 h3 h7 h8;rintro ρ H ⟨h1,h2,h3,h7,hi,j,h8,hji,hH⟩;generalize hes3:es2++opt (!inR t.count 0 10) (22:Int)=es3 at hH;have hln3:es3.length≤es2.length+1:=by rw[←hes3,List.length_append];have:=bW (!inR t.count 0 10) (22:Int);omega
 simp only[go_sem,h1,h2,h3,h7,h8,hi,lX (show n.places.length≤4611686018427387904 by omega)];refine PC.use (lY _ _ _) ?_;simp only[go_sem,h1,h2,h3,h7,h8,hi,lX (show n.places.length≤4611686018427387904 by omega)];refine⟨_,fun _=>(lY _ _ _).q rfl,?_⟩;simp only[go_sem,h1,h2,h3,h7,h8,hi];refine bD (fun ρ' H'=>ρ' 1=.sl (l.map bE)∧ρ' 2=int k∧ρ' 3=.rp (aP n) 0∧ρ' 7=.op i 0 0∧H' i=some (nK t)∧∃j',ρ' 8=.os j'∧j'≠i∧H' j'=some (jK (es3++opt (!inR t.src 0 (n.places.length-1)|| !inR t.dst 0 (n.places.length-1)) 11))) ?_ fun K hK=>aA (fun hb=>?_) (fun hb=>?_)
 rotate_left
 · simp only[go_sem,h1,h2,h3,h7,h8]
   refine bC hH ⟨rfl,rfl⟩ (by simp only[go_sem]) (by simp only[List.length_map,List.length_cons,List.length_nil];omega) (fun j' hj'=>?_);simp only[go_sem];refine hK _ _ ⟨by simp only[go_sem,h1],by simp only[go_sem,h2],by simp only[go_sem,h3],by simp only[go_sem,h7],dE hi hji hj',j',by simp only[go_sem],(aO hi hj').symm,?_⟩;rw[gN (show(!inR t.src 0 (n.places.length-1)|| !inR t.dst 0 (n.places.length-1))=true from hb)];exact fP (l':=[11]) rfl
 · simp only[go_sem]
   refine hK _ _ ⟨by simp only[go_sem,h1],by simp only[go_sem,h2],by simp only[go_sem,h3],by simp only[go_sem,h7],hi,j,by simp only[go_sem,h8],hji,?_⟩;rw[gO (show(!inR t.src 0 (n.places.length-1)|| !inR t.dst 0 (n.places.length-1))=false from hb),List.append_nil,hH]
 clear hH h1 h2 h3 h7 h8;rintro ρ H ⟨h1,h2,h3,h7,hi,j,h8,hji,hH⟩;generalize hes4:es3++opt (!inR t.src 0 (n.places.length-1)|| !inR t.dst 0 (n.places.length-1)) (11:Int)=es4 at hH;have hln4:es4.length≤es3.length+1:=by rw[←hes4,List.length_append];have:=bW (!inR t.src 0 (n.places.length-1)|| !inR t.dst 0 (n.places.length-1)) (11:Int);omega
 simp only[go_sem,h1,h2,h3,h7,h8,hi];refine gI (by rfl) (by kernel_rfl) ?_;simp only[go_sem,h1,h2,h3,h7,h8,hi];refine⟨_,(SA l).q rfl,?_⟩;simp only[go_sem,h1,h2,h3,h7,h8,hi];refine⟨_,(Zg t.cap (lD l) hst.2).q rfl,?_⟩;simp only[go_sem,h1,h2,h3,h7,h8,hi];refine bD (fun ρ' H'=>ρ' 1=.sl (l.map bE)∧ρ' 2=int k∧ρ' 3=.rp (aP n) 0∧ρ' 7=.op i 0 0∧H' i=some (nK t)∧∃j',ρ' 8=.os j'∧j'≠i∧H' j'=some (jK (es4++opt (!uD t.cap (lD l)) 17))) ?_ fun K hK=>aA (fun hb=>?_) (fun hb=>?_)
 rotate_left
 · simp only[go_sem,h1,h2,h3,h7,h8]
   refine bC hH ⟨rfl,rfl⟩ (by simp only[go_sem]) (by simp only[List.length_map,List.length_cons,List.length_nil];omega) (fun j' hj'=>?_);simp only[go_sem];refine hK _ _ ⟨by simp only[go_sem,h1],by simp only[go_sem,h2],by simp only[go_sem,h3],by simp only[go_sem,h7],dE hi hji hj',j',by simp only[go_sem],(aO hi hj').symm,?_⟩;rw[gN (show(!uD t.cap (lD l))=true from hb)];exact fP (l':=[17]) rfl
 · simp only[go_sem]
   refine hK _ _ ⟨by simp only[go_sem,h1],by simp only[go_sem,h2],by simp only[go_sem,h3],by simp only[go_sem,h7],hi,j,by simp only[go_sem,h8],hji,?_⟩;rw[gO (show(!uD t.cap (lD l))=false from hb),List.append_nil,hH]
 clear hH h1 h2 h3 h7 h8;rintro ρ H ⟨h1,h2,h3,h7,hi,j,h8,hji,hH⟩;generalize hes5:es4++opt (!uD t.cap (lD l)) (17:Int)=es5 at hH;have hln5:es5.length≤es4.length+1:=by rw[←hes5,List.length_append];have:=bW (!uD t.cap (lD l)) (17:Int);omega
 simp only[go_sem,h1,h2,h3,h7,h8,hi];refine PC.use (lY _ _ _) ?_;simp only[go_sem,h1,h2,h3,h7,h8,hi];refine bD (fun ρ' H'=>ρ' 1=.sl (l.map bE)∧ρ' 2=int k∧ρ' 3=.rp (aP n) 0∧ρ' 7=.op i 0 0∧H' i=some (nK t)∧∃j',ρ' 8=.os j'∧j'≠i∧H' j'=some (jK (es5++opt (!inR t.skills 0 1073741823) 18))) ?_ fun K hK=>aA (fun hb=>?_) (fun hb=>?_)
 rotate_left
 · simp only[go_sem,h1,h2,h3,h7,h8]
   refine bC hH ⟨rfl,rfl⟩ (by simp only[go_sem]) (by simp only[List.length_map,List.length_cons,List.length_nil];omega) (fun j' hj'=>?_);simp only[go_sem];refine hK _ _ ⟨by simp only[go_sem,h1],by simp only[go_sem,h2],by simp only[go_sem,h3],by simp only[go_sem,h7],dE hi hji hj',j',by simp only[go_sem],(aO hi hj').symm,?_⟩;rw[gN (show(!inR t.skills 0 1073741823)=true from hb)];exact fP (l':=[18]) rfl
 · simp only[go_sem]
   refine hK _ _ ⟨by simp only[go_sem,h1],by simp only[go_sem,h2],by simp only[go_sem,h3],by simp only[go_sem,h7],hi,j,by simp only[go_sem,h8],hji,?_⟩;rw[gO (show(!inR t.skills 0 1073741823)=false from hb),List.append_nil,hH]
 clear hH h1 h2 h3 h7 h8;rintro ρ H ⟨h1,h2,h3,h7,hi,j,h8,hji,hH⟩;generalize hes6:es5++opt (!inR t.skills 0 1073741823) (18:Int)=es6 at hH;have hln6:es6.length≤es5.length+1:=by rw[←hes6,List.length_append];have:=bW (!inR t.skills 0 1073741823) (18:Int);omega
 simp only[go_sem,h1,h2,h3,h7,h8,hi];refine PC.use (lY _ _ _) ?_;simp only[go_sem,h1,h2,h3,h7,h8,hi];refine bD (fun ρ' H'=>ρ' 1=.sl (l.map bE)∧ρ' 2=int k∧ρ' 3=.rp (aP n) 0∧ρ' 7=.op i 0 0∧H' i=some (nK t)∧∃j',ρ' 8=.os j'∧j'≠i∧H' j'=some (jK (es6++opt (!inR t.start 0 t.close||decide (t.close>4096)) 15))) ?_ fun K hK=>aA (fun hb=>?_) (fun hb=>?_)
 rotate_left
 · simp only[go_sem,h1,h2,h3,h7,h8]
   refine bC hH ⟨rfl,rfl⟩ (by simp only[go_sem]) (by simp only[List.length_map,List.length_cons,List.length_nil];omega) (fun j' hj'=>?_);simp only[go_sem];refine hK _ _ ⟨by simp only[go_sem,h1],by simp only[go_sem,h2],by simp only[go_sem,h3],by simp only[go_sem,h7],dE hi hji hj',j',by simp only[go_sem],(aO hi hj').symm,?_⟩;rw[gN (show(!inR t.start 0 t.close||decide (t.close>4096))=true from hb)];exact fP (l':=[15]) rfl
 · simp only[go_sem]
   refine hK _ _ ⟨by simp only[go_sem,h1],by simp only[go_sem,h2],by simp only[go_sem,h3],by simp only[go_sem,h7],hi,j,by simp only[go_sem,h8],hji,?_⟩;rw[gO (show(!inR t.start 0 t.close||decide (t.close>4096))=false from hb),List.append_nil,hH]
 clear hH h1 h2 h3 h7 h8;rintro ρ H ⟨h1,h2,h3,h7,hi,j,h8,hji,hH⟩;generalize hes7:es6++opt (!inR t.start 0 t.close||decide (t.close>4096)) (15:Int)=es7 at hH;have hln7:es7.length≤es6.length+1:=by rw[←hes7,List.length_append];have:=bW (!inR t.start 0 t.close||decide (t.close>4096)) (15:Int);omega
 simp only[go_sem,h1,h2,h3,h7,h8,hi];refine PC.use (lY _ _ _) ?_;simp only[go_sem,h1,h2,h3,h7,h8,hi];refine⟨_,fun _=>(lY _ _ _).q rfl,?_⟩;simp only[go_sem,h1,h2,h3,h7,h8,hi];refine bD (fun ρ' H'=>ρ' 1=.sl (l.map bE)∧ρ' 2=int k∧ρ' 3=.rp (aP n) 0∧ρ' 7=.op i 0 0∧H' i=some (nK t)∧∃j',ρ' 8=.os j'∧j'≠i∧H' j'=some (jK (es7++opt (!inR t.drive 1 4096|| !inR t.rest 0 4096) 16))) ?_ fun K hK=>aA (fun hb=>?_) (fun hb=>?_)
 rotate_left
 · simp only[go_sem,h1,h2,h3,h7,h8]
   refine bC hH ⟨rfl,rfl⟩ (by simp only[go_sem]) (by simp only[List.length_map,List.length_cons,List.length_nil];omega) (fun j' hj'=>?_);simp only[go_sem];refine hK _ _ ⟨by simp only[go_sem,h1],by simp only[go_sem,h2],by simp only[go_sem,h3],by simp only[go_sem,h7],dE hi hji hj',j',by simp only[go_sem],(aO hi hj').symm,?_⟩;rw[gN (show(!inR t.drive 1 4096|| !inR t.rest 0 4096)=true from hb)];exact fP (l':=[16]) rfl
 · simp only[go_sem]
   refine hK _ _ ⟨by simp only[go_sem,h1],by simp only[go_sem,h2],by simp only[go_sem,h3],by simp only[go_sem,h7],hi,j,by simp only[go_sem,h8],hji,?_⟩;rw[gO (show(!inR t.drive 1 4096|| !inR t.rest 0 4096)=false from hb),List.append_nil,hH]
 clear hH h1 h2 h3 h7 h8;rintro ρ H ⟨h1,h2,h3,h7,hi,j,h8,hji,hH⟩;generalize hes8:es7++opt (!inR t.drive 1 4096|| !inR t.rest 0 4096) (16:Int)=es8 at hH;have hln8:es8.length≤es7.length+1:=by rw[←hes8,List.length_append];have:=bW (!inR t.drive 1 4096|| !inR t.rest 0 4096) (16:Int);omega
 simp only[go_sem,h1,h2,h3,h7,h8,hi];refine PC.use (lY _ _ _) ?_;simp only[go_sem,h1,h2,h3,h7,h8,hi];refine⟨_,fun _=>(lY _ _ _).q rfl,?_⟩;simp only[go_sem,h1,h2,h3,h7,h8,hi];refine⟨_,fun _=>(lY _ _ _).q rfl,?_⟩;simp only[go_sem,h1,h2,h3,h7,h8,hi];refine⟨_,fun _=>(lY _ _ _).q rfl,?_⟩;simp only[go_sem,h1,h2,h3,h7,h8,hi];refine bD (fun ρ' H'=>ρ' 1=.sl (l.map bE)∧ρ' 2=int k∧ρ' 3=.rp (aP n) 0∧ρ' 7=.op i 0 0∧H' i=some (nK t)∧∃j',ρ' 8=.os j'∧j'≠i∧H' j'=some (jK (es8++opt (!inR t.profile 0 7|| !inR t.fixed 0 100000|| !inR t.perMile 0 100|| !inR t.perTick 0 100) 2))) ?_ fun K hK=>aA (fun hb=>?_) (fun hb=>?_)
 rotate_left
 · simp only[go_sem,h1,h2,h3,h7,h8]
   refine bC hH ⟨rfl,rfl⟩ (by simp only[go_sem]) (by simp only[List.length_map,List.length_cons,List.length_nil];omega) (fun j' hj'=>?_);simp only[go_sem];refine hK _ _ ⟨by simp only[go_sem,h1],by simp only[go_sem,h2],by simp only[go_sem,h3],by simp only[go_sem,h7],dE hi hji hj',j',by simp only[go_sem],(aO hi hj').symm,?_⟩;rw[gN (show(!inR t.profile 0 7|| !inR t.fixed 0 100000|| !inR t.perMile 0 100|| !inR t.perTick 0 100)=true from hb)];exact fP (l':=[2]) rfl
 · simp only[go_sem]
   refine hK _ _ ⟨by simp only[go_sem,h1],by simp only[go_sem,h2],by simp only[go_sem,h3],by simp only[go_sem,h7],hi,j,by simp only[go_sem,h8],hji,?_⟩;rw[gO (show(!inR t.profile 0 7|| !inR t.fixed 0 100000|| !inR t.perMile 0 100|| !inR t.perTick 0 100)=false from hb),List.append_nil,hH]
 clear hH h1 h2 h3 h7 h8;rintro ρ H ⟨h1,h2,h3,h7,hi,j,h8,hji,hH⟩;generalize hes9:es8++opt (!inR t.profile 0 7|| !inR t.fixed 0 100000|| !inR t.perMile 0 100|| !inR t.perTick 0 100) (2:Int)=es9 at hH;have hln9:es9.length≤es8.length+1:=by rw[←hes9,List.length_append];have:=bW (!inR t.profile 0 7|| !inR t.fixed 0 100000|| !inR t.perMile 0 100|| !inR t.perTick 0 100) (2:Int);omega
 simp only[go_sem,h1,h2,h3,h7,h8,hi];have hall:kC n l k t=es9:=by unfold kC;rw[hes0,hes1,hes2,hes3,hes4,hes5,hes6,hes7,hes8,hes9]
 rw[hall];exact .row _ _ _ hH (ConvE.refl _)
def gH(n:Network)(l:List VType)(k:Nat):List Fault:=(kC n l k (Lk l k)).map fun e=>⟨e,iP k⟩
def pG(n:Network)(l:List VType):List Fault:=opt (!inR l.length 1 6) ⟨4,ByteArray.empty⟩++(List.range l.length).flatMap (gH n l)
theorem sC(n:Network)(l:List VType)(k:Nat)(t:VType):(kC n l k t).length≤9:=by
 unfold kC;simp only[List.length_append,List.length_nil];have h:=fun(b:Bool) (x:Int)=>bW b x
 have h1:=h (!jX t.name) 5;have h2:=h (qZ l k t.name) 6;have h3:=h (!inR t.count 0 10) 22;have h4:=h (!inR t.src 0 (n.places.length-1)|| !inR t.dst 0 (n.places.length-1)) 11;have h5:=h (!uD t.cap (lD l)) 17;have h6:=h (!inR t.skills 0 1073741823) 18;have h7:=h (!inR t.start 0 t.close||decide (t.close>4096)) 15;have h8:=h (!inR t.drive 1 4096|| !inR t.rest 0 4096) 16;have h9:=h (!inR t.profile 0 7|| !inR t.fixed 0 100000|| !inR t.perMile 0 100|| !inR t.perTick 0 100) 2;omega
theorem xH{α β:Type}{f:α→β}{l:List α}{k:Nat}{x:α}(h:l[k]?=some x):(l.take (k+1)).map f=(l.take k).map f++[f x]:=by rw[cH h,List.map_append];rfl
theorem UO(n:Network)(l:List VType)(hl:l.length≤1048576)(hs:∀t∈l,t.name.size≤1048576∧t.cap.length≤1048576)(hp:n.places.length≤1048576):
   NC Tryz.prog 31 [.agg (aP n),.sl (l.map bE)] (aY (pG n l)) .os:=by
 refine NC.body (c:=Tryz.f31.body.getD .skip) (fun t=>t == 5) mixed Tryz.func31 rfl (by kernel_rfl) ?_;unfold Tryz.f31;simp only[Option.getD_some];simp only[go_sem];refine aN fun j hj=>?_
 simp only[go_sem];refine PC.use (lY _ _ _) ?_;simp only[go_sem];refine mX (fun ρ' H'=>ρ' 1=.sl (l.map bE)∧ρ' 2=.rp (aP n) 0∧∃j',ρ' 5=.os j'∧H' j'=some (aY [])) ⟨by simp only[go_sem],by simp only[go_sem],_,by simp only[go_sem],aB _ _ _⟩ ?_;rintro ρ H ⟨h1,h2,j,h5,hH⟩;generalize hes0:([]:List Fault)=es0 at hH;have hln0:es0.length≤0:=by rw[←hes0];exact Nat.le_refl _
 refine bD (fun ρ' H'=>ρ' 1=.sl (l.map bE)∧ρ' 2=.rp (aP n) 0∧∃j',ρ' 5=.os j'∧H' j'=some (aY (es0++opt (!inR l.length 1 6) ⟨4,ByteArray.empty⟩))) ?_ fun K hK=>aA (fun hb=>?_) (fun hb=>?_)
 rotate_left
 · simp only[go_sem,h1,h2,h5]
   refine bC hH ⟨rfl,rfl⟩ (by simp only[go_sem]) (by simp only[List.length_map,List.length_cons,List.length_nil];omega) (fun j' hj'=>?_);simp only[go_sem];refine hK _ _ ⟨by simp only[go_sem,h1],by simp only[go_sem,h2],j',by simp only[go_sem],?_⟩;rw[gN (show(!inR l.length 1 6)=true from hb)];exact dV (l':=[⟨4,ByteArray.empty⟩]) rfl
 · simp only[go_sem]
   refine hK _ _ ⟨by simp only[go_sem,h1],by simp only[go_sem,h2],j,by simp only[go_sem,h5],?_⟩;rw[gO (show(!inR l.length 1 6)=false from hb),List.append_nil,hH]
 clear hH h1 h2 h5;rintro ρ H ⟨h1,h2,j,h5,hH⟩;generalize hes1:es0++opt (!inR l.length 1 6) (⟨4,ByteArray.empty⟩:Fault)=es1 at hH;have hln1:es1.length≤es0.length+1:=by rw[←hes1,List.length_append];have:=bW (!inR l.length 1 6) (⟨4,ByteArray.empty⟩:Fault);omega
 simp only[go_sem,h1,h2];refine⟨fun ρ H=>∃k:Nat,k≤l.length∧ρ 1=.sl (l.map bE)∧ρ 2=.rp (aP n) 0∧ρ 6=int k∧∃j,ρ 5=.os j∧H j=some (aY (es1++(List.range k).flatMap (gH n l))),fun ρ _=>l.length-bR (ρ 6),⟨0,Nat.zero_le _,by simp only[go_sem,h1],by simp only[go_sem,h2],by simp only[go_sem];rfl,j,by simp only[go_sem,h5],by simpa using hH⟩,?_⟩;clear hH h1 h2 h5 hj;rintro ρ H ⟨k,hk,h1,h2,h6,j,h5,hH⟩;generalize hes:es1++(List.range k).flatMap (gH n l)=es at hH;have hlen:es.length≤9*k+1:=by
   have:=dT (f:=gH n l) (c:=9) (fun x=>by unfold gH;rw[List.length_map];exact sC _ _ _ _) (List.range k);rw[←hes,List.length_append];rw[List.length_range]at this;omega
 simp only[go_sem,h1,h2,h6,h5];refine aA (fun hlt=>?_) (fun hge=>?_)
 · have hlt:=cA hlt
   have hkk:k≤4611686018427387904:=by omega
   have hfl:es1++(List.range (k+1)).flatMap (gH n l)=es++gH n l k:=by rw[gF,←List.append_assoc,hes]
   simp only[go_sem,h1,h2,h6];refine PC.use (ST n l k hlt hl hs hp) ?_;simp only[go_sem];have hel:=sC n l k (Lk l k);have htf:gH n l k=(kC n l k (Lk l k)).map fun e=>⟨e,iP k⟩:=rfl
   generalize kC n l k (Lk l k)=er at hel htf;refine⟨fun ρ H=>∃m:Nat,m≤er.length∧ρ 1=.sl (l.map bE)∧ρ 2=.rp (aP n) 0∧ρ 6=int k∧ρ 7=.sl (er.map aM)∧ρ 8=int m∧∃j,ρ 5=.os j∧H j=some (aY (es++(er.take m).map fun e=>⟨e,iP k⟩)),fun ρ _=>er.length-bR (ρ 8),⟨0,Nat.zero_le _,by simp only[go_sem,h1],by simp only[go_sem,h2],by simp only[go_sem,h6],by simp only[go_sem],by simp only[go_sem];rfl,j,by simp only[go_sem,h5],by simpa using hH⟩,?_⟩;clear hH h1 h2 h5 h6;rintro ρ H ⟨m,hm,h1,h2,h6,h7,h8,j,h5,hH⟩;simp only[go_sem,h1,h2,h6,h5,h7,h8];refine aA (fun hlt2=>?_) (fun hge2=>?_)
   · have hlt2:=cA hlt2
     obtain⟨e,he⟩:=bA hlt2;have b2:=inB hlt2;simp only[go_sem];refine GY (by kernel_rfl) ?_;simp only[go_sem,h1,h2,h6,h5,h7,h8,b2,aH he];refine⟨_,(oZ _ (by omega)).q rfl,?_⟩;simp only[go_sem];refine bC hH ⟨rfl,rfl⟩ (by simp only[go_sem]) (by simp only[List.length_map,List.length_append,List.length_take,List.length_cons,List.length_nil];omega) (fun j' hj'=>?_);simp only[go_sem,h1,h2,h6,h7,h8,bG (show m≤4611686018427387904 by omega)];refine⟨⟨m+1,hlt2,rfl,j',rfl,?_⟩,by simp only[aI];omega⟩;rw[xH he,←List.append_assoc];exact dV (l':=[⟨e,iP k⟩]) rfl
   · have hge2:=cE hm hge2
     subst hge2;simp only[go_sem,h1,h2,h6,h5,bG hkk];refine⟨⟨k+1,hlt,rfl,j,rfl,?_⟩,by simp only[aI];omega⟩;rw[hfl,hH,htf,List.take_length]
 · have hge:=cE hk hge
   subst hge;simp only[go_sem,h5];exact⟨_,rfl,by rw[hH,←hes,←hes1,←hes0];rfl⟩
end Go.Proofs.YtdlijlecpopadaaGreatDoor
