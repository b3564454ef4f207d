import Derived.Lib.ItoaMem
import Derived.Lib.Replace
import Derived.Lib.SplitLaws
import Derived.Lib.IndexBytes
import Derived.Lib.AtoiAllCases
import Derived.WalkKit
import Derived.BigCall
import Derived.Lib.Builder
import Derived.Lib.UnsafeStr
import Derived.Lib.SmallJoins
import Derived.Laws.Externs
import Derived.Lib.CutLaws
import Derived.Test.YthbiheckeoknlaaGreatDoorPp05
import Derived.Test.YthbiheckeoknlaaGreatDoorPp06
import Derived.Test.YthbiheckeoknlaaGreatDoorPp07
set_option linter.unusedSimpArgs false
set_option linter.unusedVariables false
set_option linter.defProp false
set_option maxRecDepth 100000
namespace Go.Proofs.YthbiheckeoknlaaGreatDoor
namespace Nw
open Go.Proofs.Tryz
open Go.Aw Go.Aw.D Go.Proofs Ty
open Go.Proofs.YthbiheckeoknlaaGreatDoor (inR fG jX dM cP eK qI dR gM cO lD gT Bl yS qT dX jH fN)
open Go.RowKit (Below)
theorem oG(c:Int):PC prog 81 [.v (.int .u8 c)] (boo (fG c)):=by refine pcd func81 rfl rfl ?_;simp only[go_sem];exact .refl _
theorem AZ(c:Int):PC prog 179 [.v (.int .u8 c)] (boo (jX c)):=by refine pcd func179 rfl rfl ?_;simp only[go_sem];exact .refl _
theorem cI{H:aC}{k:IntKind}{a b:Int}(h:a=b):Conv H (.v (.int k a)) (.v (.int k b)):=h▸.refl _
theorem cB{H:aC}{a b:Bool}(h:a=b):Conv H (.v (.bool a)) (.v (.bool b)):=h▸.refl _
theorem ltB{k n:Nat}(h:decide ((k:Int)<(n:Int))=true):k<n:=bD h
theorem geB{k n:Nat}(hk:k≤n)(h:decide ((k:Int)<(n:Int))=false):k=n:=bK hk h
theorem mZ{α:Type}{l:List α}{k:Nat}{a:α}{p:α→Prop}(h:l[k]?=some a)(ha:p a)(hz:∀x∈l.take k,p x):∀x∈l.take (k+1),p x:=by
 intro x hx;rw[List.take_add_one,h,Option.toList_some]at hx;rcases Xap.1 hx with hx|hx
 ·exact hz x hx
 ·simp at hx;subst hx;exact ha
theorem eT(s:ByteArray):(s.toList == (⟨#[]⟩:ByteArray).toList)=decide ((s.size:Int)<1):=by
 by_cases h:s.size=0
 ·have : s = ⟨#[]⟩ := by apply ByteArray.ext;exact Array.eq_empty_of_size_eq_zero h
  subst this;decide +kernel
 ·rw[decide_eq_false (by omega)];have:s≠⟨#[]⟩:=fun e=>h (by rw[e];rfl)
  exact Bool.eq_false_iff.2 fun h=>this (tV (by simpa using h))
theorem oU(s:ByteArray)(hl:s.size≤1048576):PC prog 127 [str s] (boo (dM s)):=by
 refine pcd func127 rfl rfl ?_;simp only[go_sem];rw[eT];refine⟨fun h=>⟨by omega,by simp at h;omega⟩,_,fun _=>(oG _).q rfl,?_⟩;simp only[go_sem];refine aA (fun hd=>?_) (fun hd=>?_)
 ·simp only[go_sem];have:dM s=false:=by unfold dM;rw[if_pos (by exact hd)]
  rw[this];exact .refl _
 ·simp only[go_sem];refine⟨fun ρ _=>∃k:Nat,k≤s.size∧ρ 0=str s∧ρ 17=int s.size∧ρ 18=int k∧∀i∈(List.range s.size).take k,(jX (cP s i)||fG (cP s i))=true,fun ρ _=>s.size-bO (ρ 18),⟨0,Xad _,rfl,rfl,rfl,by simp⟩,?_⟩;rintro ρ H ⟨k,hk,h0,h17,h18,hn⟩;simp only[go_sem,h0,h17,h18];refine aA (fun hlt=>?_) (fun hge=>?_)
  ·have hlt:=bD hlt;have b1:=inB hlt;simp only[go_sem,h0,h17,h18,b1];refine bB (AZ _) ?_;simp only[go_sem,h0,h17,h18,b1];refine⟨_,fun _=>(oG _).q rfl,?_⟩;simp only[go_sem];refine aA (fun hb=>?_) (fun hb=>?_)
   ·simp only[go_sem];have:dM s=false:=by unfold dM;rw[if_neg (by intro h;exact absurd (h.symm.trans hd) (by simp))];exact sT (aQ (nF hlt)) (by simpa[cP]using hb)
    rw[this];exact .refl _
   ·simp only[go_sem,h0,h17,h18,cH k];exact⟨⟨k+1,hlt,rfl,mE (nF hlt) hn (by
     have:(!jX (cP s k)&& !fG (cP s k))=false:=hb
     revert this;cases jX (cP s k) <;> cases fG (cP s k) <;> simp)⟩,by simp only[aE];omega⟩
  ·have hge:=bK hk hge;subst hge;simp only[go_sem];have:dM s=true:=by unfold dM;rw[if_neg (by intro h;exact absurd (h.symm.trans hd) (by simp))];exact wE fun n h=>hn n (by rw[Xaj (by simp)];exact h)
   rw[this];exact .refl _
theorem rB:∀n:Nat,cO n=⟨(Lib.decDigits n).toArray⟩:=by
 intro n;induction n using Nat.strongRecOn with
 | ind n ih=>
  rw[cO,Lib.decDigits];have e:∀k:Nat,k<10→lD (k:Int)=⟨#[UInt8.ofNat (48+k)]⟩:=fun k hk=>by
   have:k=0∨k=1∨k=2∨k=3∨k=4∨k=5∨k=6∨k=7∨k=8∨k=9:=by omega
   rcases this with rfl|rfl|rfl|rfl|rfl|rfl|rfl|rfl|rfl|rfl <;> rfl
  split
  ·next h=>rw[e n h]
  ·next h=>
   rw[ih (n/10) (by omega),e (n%10) (by omega)];apply ByteArray.ext;simp[ByteArray.data_append]
theorem O1{w:World}(h:∀t∈Ae,t.2 (fB w t.1)):Lib.TabIs prog w "internal/strconv.uint64pow10" .u64 Lib.pow10Tab:=by have h1:fB w 3=some Ku:=h (3,PA Ku) (by simp[Ae]);unfold Lib.TabIs World.var?;rw[show prog.globalNamed "internal/strconv.uint64pow10" = some 3 by kernel_rfl];exact h1
theorem Ba{w:World}(k:Nat)(os:Array Obj):Below w.heap.size w (Go.Sort.grow (w.drewN k) os):=by
 refine⟨rfl,rfl,rfl,?_,fun i hi=>?_⟩
 ·simp[Go.Sort.grow]
 ·simp only[Go.Sort.grow,World.heap_drewN];rw[Array.getElem?_append_left hi]
theorem Pe(n:Nat)(hn:n≤4611686018427387904):PC prog 56 [int n] (str (cO n)):=by
 refine PC.lib (a:=[.int .i64 n]) (v:=.string (cO n)) (fun S w=>rfl) fun w ht=>(Tryz.strconv_Itoa n (by omega) (by omega) w (O1 ht)).mono fun e w' ⟨he,k,os,hw⟩=>?_
 rw[hw];exact⟨by rw[he,rB];rfl,Ba k os⟩
theorem tP(n:Nat)(hn:n≤4611686018427387904):PC prog 21 [int n] (str (cO n)):=by refine pcd func21 rfl rfl ?_;simp only[go_sem];refine bB (Pe n hn) ?_;simp only[go_sem];exact .refl _
theorem K4(n:Int):PC prog 241 [int n] (boo (inR n 0 4096)):=by refine pcd func241 rfl rfl ?_;simp only[go_sem];exact .refl _
theorem Ph(n a b:Int):PC prog 240 [int n,int a,int b] (boo (inR n a b)):=by refine pcd func240 rfl rfl ?_;simp only[go_sem];exact .refl _
theorem fU(n a b:Int):PC prog 130 [int n,int a,int b] (boo (inR n a b)):=by refine pcd func130 rfl rfl ?_;simp only[go_sem];exact .refl _
theorem pO(n a b:Int):PC prog 191 [int n,int a,int b] (boo (inR n a b)):=by refine pcd func191 rfl rfl ?_;simp only[go_sem];exact .refl _
theorem Ey(n:Int):PC prog 246 [int n] (boo (inR n 0 4096)):=by refine pcd func246 rfl rfl ?_;simp only[go_sem];exact .refl _
theorem Gk(n:Network)(i:Int):PC prog 180 [.agg (aN n),int i] (boo (decide (i≥0)&&decide (i<(n.places.length:Int)))):=by refine pcd func180 rfl rfl ?_;simp only[go_sem];exact .refl _
def vN(a:Arc):List AV:=[int a.src,int a.dst,int a.profile]
theorem Lz(a:Arc):PC prog 129 [.agg (eF a)] (.agg (vN a)):=by
 refine pcd func129 rfl rfl ?_;simp only[go_sem];refine cN fun j hj=>?_
 simp only[go_sem];refine fD (aD _ _ _) (by simp) ?_;have R:∀H q,bG H j q j=q:=fun H q=>aD _ _ _
 simp only[go_sem,R];exact .refl _
theorem Ix(s:Stop):PC prog 192 [.agg (dQ s)] (int (dR s)):=by
 refine pcd func192 rfl rfl ?_;simp only[go_sem];refine cN fun j hj=>?_
 simp only[go_sem];refine fD (aD _ _ _) (by simp) ?_;have R:∀H q,bG H j q j=q:=fun H q=>aD _ _ _
 simp only[go_sem,R];refine⟨_,fun _=>(Ey _).q rfl,?_⟩;simp only[go_sem];refine⟨_,fun _=>(Ey _).q rfl,?_⟩;simp only[go_sem];refine⟨_,fun _=>(Ey _).q rfl,?_⟩;simp only[go_sem];refine aA (fun hb=>?_) (fun hb=>?_)
 ·simp only[go_sem];refine cI ?_;simp only[inR,Xba,Xag,decide_eq_true_eq,Xan]at hb;have:eK s=true∨qI s=false:=by unfold eK qI;simp only[Xag,Xan,Xaq,decide_eq_false_iff_not];omega
  unfold dR;rcases this with h|h
  ·rw[if_pos h]
  ·rw[h];split <;> rfl
 ·simp only[go_sem];refine cI ?_;simp only[inR,Bool.and_true,Xaq,Xbd,decide_eq_false_iff_not,beq_eq_false_iff_ne]at hb;have h1:eK s=false:=by unfold eK;simp only[Xbd,beq_eq_false_iff_ne];omega
  have h2:qI s=true:=by unfold qI;simp only[Xba,decide_eq_true_eq];omega
  unfold dR;rw[h1,h2];rfl
theorem N3(l:List Int)(d:Int)(hl:l.length≤1048576):PC prog 190 [.sl (l.map aY),int d] (boo (gM l d)):=by
 refine pcd func190 rfl rfl ?_;simp only[go_sem];refine⟨fun ρ H=>∃(k:Nat),k≤l.length∧ρ 0=.sl (l.map aY)∧ρ 1=int d∧ρ 7=.sl (l.map aY)∧ρ 8=int (l.length:Nat)∧ρ 9=int k∧(∀n∈l.take k,(decide (n<0)||decide (n>1000))=false),fun ρ _=>l.length-bO (ρ 9),⟨0,Xad _,by simp only[go_sem],by simp only[go_sem],by simp only[go_sem],by simp only[go_sem,Xab],(by simp only[go_sem];rfl),by simp⟩,?_⟩;rintro ρ H ⟨k,hk,e0,e1,e7,e8,e9,hz⟩;simp only[go_sem,e0,e1,e7,e8,e9];refine aA (fun hlt=>?_) (fun hge=>?_)
 ·have hlt:=ltB (by simpa using hlt);obtain⟨a,ha⟩:=cG hlt;have b1:=inB hlt;simp only[go_sem,e0,e1,e7,e8,e9,aM ha,b1];refine aA (fun hb=>?_) (fun hb=>?_)
  ·simp only[go_sem];refine cB ?_;unfold gM;split
   ·exact(List.all_eq_false.2 ⟨a,aQ ha,by rw[hb];simp⟩).symm
   ·rfl
  ·simp only[go_sem,e0,e1,e7,e8,e9,cH k];exact⟨⟨k+1,hlt,rfl,mZ (p:=fun n=>(decide (n<0)||decide (n>1000))=false) ha hb hz⟩,by simp only[aE];omega⟩
 ·have hge:=geB hk hge;subst hge;simp only[go_sem,e0,e1,e7,e8,e9];refine cB ?_;unfold gM;rw[Xaj (Xae _)]at hz;split
  ·next h=>
   rw[Xax.2 fun n hn=>by rw[hz n hn];rfl];simpa using h
  ·next h=>simpa using h
def PB(o:Order)(T:Int):Bool:=inR o.penalty (-1) 1000000&&inR o.split 1 4&&(o.split == 1||o.pick.place == -1||o.drop.place == -1)&&decide (o.last≥ -1)&&decide (o.last<T)&&decide (o.now≥ -1)&&decide (o.now<T)
theorem Po(o:Order)(T:Int):(!PB o T)=(!inR o.penalty (-1) 1000000|| !inR o.split 1 4||decide (o.split>1)&&(o.pick.place != -1&&o.drop.place != -1)||decide (o.last< -1)||decide (o.last≥T)||decide (o.now< -1)||decide (o.now≥T)):=by rw[Xaw];unfold PB inR;simp only[Xay,Xba,Xag,Xbd,Xaq,decide_eq_true_eq,decide_eq_false_iff_not,beq_eq_false_iff_ne,bne_iff_ne,ne_eq];omega
theorem Kh(o:Order)(T:Int):PC prog 193 [.agg (aB o),int T] (boo (PB o T)):=by refine pcd func193 rfl rfl ?_;simp only[go_sem];refine bB (pO _ _ _) ?_;simp only[go_sem];refine⟨_,fun _=>(pO _ _ _).q rfl,?_⟩;simp only[go_sem];exact cB rfl
end Nw
namespace Sc
open Go.Proofs.Tryz
open Go.Aw Go.Aw.D Go.Proofs Ty
open Go.Proofs.YthbiheckeoknlaaGreatDoor.Nw
open Go.Proofs.YthbiheckeoknlaaGreatDoor
def aH(n:Int):ByteArray:=if n<0 then⟨#[45]⟩++cO n.natAbs else cO n.toNat
def bH(n:Int):Prop:= -9223372036854775808≤n∧n≤9223372036854775807
theorem uB(n:Int):aH n=⟨(Lib.itoa n).toArray⟩:=by
 unfold aH Lib.itoa;split
 ·rw[rB];apply ByteArray.ext;simp[ByteArray.data_append]
 ·rw[rB]
theorem jB:∀(k n:Nat),n<10^(k+1)→(cO n).size≤k+1:=by
 intro k;induction k with
 | zero=>intro n h;rw[lF (by omega),lY];omega
 | succ k ih=>
  intro n h;rcases Xbc n 10 with h1|h1
  ·rw[lF h1,lY];omega
  ·rw[nD h1,ByteArray.size_append,lY];have:=ih (n/10) (by rw[Nat.pow_succ]at h;omega);omega
theorem bT{n:Int}(h:bH n):(aH n).size≤21:=by
 unfold aH;split
 ·have:=jB 19 n.natAbs (by have:=h.1;omega);rw[ByteArray.size_append];have:(⟨#[45]⟩:ByteArray).size=1:=rfl;omega
 ·have:=jB 19 n.toNat (by have:=h.2;omega);omega
theorem Q6(n:Int)(h:bH n):PC prog 56 [int n] (str (aH n)):=by
 refine PC.lib (a:=[.int .i64 n]) (v:=.string (aH n)) (fun S w=>rfl) fun w ht=>(Tryz.strconv_Itoa n h.1 h.2 w (O1 ht)).mono fun e w' ⟨he,k,os,hw⟩=>?_
 rw[hw];exact⟨by rw[he,uB],Ba k os⟩
theorem iZ(n:Int)(h:bH n):PC prog 21 [int n] (str (aH n)):=by refine pcd func21 rfl rfl ?_;simp only[go_sem];refine bB (Q6 n h) ?_;simp only[go_sem];exact .refl _
theorem Oz(n:Int)(h:bH n):PC prog 22 [int n] (str (aH n)):=by refine pcd func22 rfl rfl ?_;simp only[go_sem];refine bB (iZ n h) ?_;simp only[go_sem];exact .refl _
end Sc
namespace Sc
open Go.Aw Go.Aw.D Go.Proofs Ty
open Go.Proofs.YthbiheckeoknlaaGreatDoor.Nw
open Go.Proofs.YthbiheckeoknlaaGreatDoor
def gL:List ByteArray→ByteArray
 | []=>⟨#[]⟩
 | a::r=>a++gL r
def cS(s:ByteArray)(l:List ByteArray):ByteArray:=gL (l.map (s++·))
def aG(s:ByteArray):List ByteArray→ByteArray
 | []=>⟨#[]⟩
 | a::r=>a++cS s r
theorem xD(a:ByteArray):(⟨#[]⟩:ByteArray)++a=a:=ByteArray.empty_append
theorem dP(a:ByteArray):a++(⟨#[]⟩:ByteArray)=a:=ByteArray.append_empty
theorem bQ(a b c:ByteArray):a++b++c=a++(b++c):=ByteArray.append_assoc
theorem oZ:∀(l m:List ByteArray),gL (l++m)=gL l++gL m
 | [],m=>(xD _).symm
 | a::r,m=>by rw[Xav,gL,gL,oZ r m,bQ]
theorem vX(a:ByteArray):gL [a]=a:=dP a
theorem lC{α:Type}{f:α→ByteArray}{l:List α}{k:Nat}{x:α}(h:l[k]?=some x):gL ((l.take (k+1)).map f)=gL ((l.take k).map f)++f x:=by rw[List.take_add_one,h,Option.toList_some,Xal,oZ,Xak,Xao,vX]
theorem cY(s:ByteArray):cS s []=⟨#[]⟩:=rfl
theorem bS(s a:ByteArray)(r:List ByteArray):cS s (a::r)=s++(a++cS s r):=by show s++a++cS s r=_;rw[bQ]
theorem yE(s:ByteArray)(l m:List ByteArray):cS s (l++m)=cS s l++cS s m:=by unfold cS;rw[Xal,oZ]
theorem aZ(s a:ByteArray)(r:List ByteArray):aG s (a::r)=a++cS s r:=rfl
theorem uT{α:Type}{s:ByteArray}{f:α→ByteArray}{l:List α}{k:Nat}{x:α}(h:l[k]?=some x):cS s ((l.take (k+1)).map f)=cS s ((l.take k).map f)++(s++f x):=by rw[List.take_add_one,h,Option.toList_some,Xal,yE,Xak,Xao,bS,cY,dP]
theorem tN{B:Nat}:∀l:List ByteArray,(∀a∈l,a.size≤B)→(gL l).size≤l.length*B
 | [],_=>Xad _
 | a::r,h=>by
  have:=tN r fun x hx=>h x (by simp[hx])
  have:=h a (by simp);rw[gL,ByteArray.size_append,Xaa,Nat.add_mul];omega
theorem Ax{s:ByteArray}{B:Nat}(l:List ByteArray)(h:∀a∈l,a.size≤B):(cS s l).size≤l.length*(s.size+B):=by
 have:=tN (B:=s.size+B) (l.map (s++·)) fun a ha=>by obtain⟨x,hx,rfl⟩:=Xat.1 ha;rw[ByteArray.size_append];have:=h x hx;omega
 rwa [Xab]at this
theorem kY{s:ByteArray}{B:Nat}(l:List ByteArray)(h:∀a∈l,a.size≤B):(aG s l).size≤l.length*(s.size+B):=by
 cases l with
 | nil=>exact Xad _
 | cons a r=>
  have:=Ax (s:=s) r fun x hx=>h x (by simp[hx])
  have:=h a (by simp);rw[aZ,ByteArray.size_append,Xaa,Nat.add_mul];omega
theorem Fb(s:ByteArray)(l:List ByteArray):(⟨(Lib.join (l.map (·.data.toList)) s.data.toList).toArray⟩:ByteArray)=aG s l:=by
 have cat:∀r:List ByteArray,(⟨(Lib.joinTail s.data.toList (r.map (·.data.toList))).toArray⟩:ByteArray)=cS s r:=by
  intro r;induction r with
  | nil=>rfl
  | cons a r ih=>rw[bS,←ih];apply ByteArray.ext;simp[Lib.joinTail,ByteArray.data_append]
 cases l with
 | nil=>rfl
 | cons a r=>rw[Xak,Lib.join_cons,aZ,←cat r];apply ByteArray.ext;simp[ByteArray.data_append]
theorem FZ{a c:UInt8}(new:List UInt8)(h:c≠a)(k:Nat)(l:List UInt8):Lib.replaceK [a] new k (c::l)=c::Lib.replaceK [a] new k l:=by
 cases k with
 | zero=>rfl
 | succ k=>
  have hi:Lib.index (c::l) [a]=if Lib.index l [a] == -1 then -1 else Lib.index l [a]+1:=by rw[Lib.index,if_neg (by simp[List.isPrefixOf];exact fun e=>h e.symm)]
  rw[Lib.replaceK,Lib.replaceK,hi];have hge:=Lib.index_ge l [a];by_cases h1:(Lib.index l [a] == -1)=true
  ·rw[if_pos h1,if_pos h1,if_pos (by decide)]
  ·have h2:Lib.index l [a]≠ -1:=by simpa using h1
   rw[if_neg h1,if_neg h1,if_neg (by simp;omega)];obtain⟨i,hi⟩:∃i:Nat,Lib.index l [a]=i:=⟨(Lib.index l [a]).toNat,by omega⟩;rw[hi,show((i:Int)+1).toNat=i+1 by omega,show((i:Int)).toNat=i by omega];simp[show i+1+1=(i+1)+1 from rfl]
theorem IG{a:UInt8}(new:List UInt8)(k:Nat)(l:List UInt8):Lib.replaceK [a] new (k+1) (a::l)=new++Lib.replaceK [a] new k l:=by
 have hi:Lib.index (a::l) [a]=0:=by rw[Lib.index,if_pos (by simp[List.isPrefixOf])]
 rw[Lib.replaceK,hi];simp
theorem BY{a b:UInt8}(hab:a≠b)(s:List UInt8):Lib.replaceAll s [a] [b]=s.map fun c=>if c=a then b else c:=by
 unfold Lib.replaceAll Lib.replace;rw[if_neg (by simpa using hab)];have:Lib.replaceNum s [a] (-1)=Lib.count s [a]:=by unfold Lib.replaceNum;rw[if_pos (.inl (by decide))]
 rw[this];induction s with
 | nil=>cases h:Lib.count [] [a] <;> simp[Lib.replaceK,Lib.index]
 | cons c l ih=>
  by_cases h:c=a
  ·subst h;rw[Lib.count_cons_eq,Nat.add_comm,IG,ih (by unfold Lib.replaceNum;rw[if_pos (.inl (by decide))])];simp
  ·rw[Lib.count_cons_ne c a l h,FZ _ h,ih (by unfold Lib.replaceNum;rw[if_pos (.inl (by decide))])];simp[h]
def sB(a b:UInt8)(s:ByteArray):ByteArray:=⟨(s.data.toList.map fun c=>if c=a then b else c).toArray⟩
theorem yU(a b:UInt8)(s t:ByteArray):sB a b (s++t)=sB a b s++sB a b t:=by unfold sB;apply ByteArray.ext;simp[ByteArray.data_append]
theorem D6{a b:UInt8}{s:ByteArray}(h:∀c∈s.data.toList,c≠a):sB a b s=s:=by
 unfold sB;apply ByteArray.ext;have:(s.data.toList.map fun c=>if c=a then b else c)=s.data.toList:=by rw[List.map_congr_left (g:=id) fun c hc=>by rw[if_neg (h c hc)];rfl,List.map_id]
 rw[this]
theorem zS:∀n:Nat,n<10→∀c∈(lD (n:Int)).data.toList,c≠44:=by decide +kernel
theorem Bf:∀n:Nat,∀c∈(cO n).data.toList,c≠44:=by
 intro n;induction n using Nat.strongRecOn with
 | ind n ih=>
  rcases Xbc n 10 with h1|h1
  ·rw[lF h1];exact zS _ h1
  ·rw[nD h1];intro c hc;rw[ByteArray.data_append,Array.toList_append,Xap]at hc;rcases hc with hc|hc
   ·exact ih (n/10) (by omega) c hc
   ·exact zS (n%10) (by omega) c hc
theorem AJ(n:Int):∀c∈(aH n).data.toList,c≠44:=by
 intro c hc;unfold aH at hc;split at hc
 ·rw[ByteArray.data_append,Array.toList_append,Xap]at hc;rcases hc with hc|hc
  ·simp at hc;subst hc;decide
  ·exact Bf _ c hc
 ·exact Bf _ c hc
theorem MU(l:List Int):sB 44 58 (cS ⟨#[44]⟩ (l.map aH))=cS ⟨#[58]⟩ (l.map aH):=by
 induction l with
 | nil=>rfl
 | cons a l ih=>rw[Xak,bS,bS,yU,yU,ih,D6 (AJ a)];rfl
theorem Ng(l:List Int):sB 44 58 (aG ⟨#[44]⟩ (l.map aH))=aG ⟨#[58]⟩ (l.map aH):=by
 cases l with
 | nil=>rfl
 | cons a l=>rw[Xak,aZ,aZ,yU,MU,D6 (AJ a)]
def spB:ByteArray:=⟨#[32]⟩
def nlB:ByteArray:=⟨#[10]⟩
def iB(l:List Int):ByteArray:=match l with
 | []=>⟨#[46]⟩
 | l=>aG ⟨#[44]⟩ (l.map aH)
def eQ(s:Stop):ByteArray:=if eK s=true then⟨#[46]⟩else aG ⟨#[58]⟩ ([s.place,s.start,s.close,s.service].map aH)
def fQ(p:Point):ByteArray:=aH p.t++(⟨#[58]⟩++aH p.a)
def eP(l:List Point):ByteArray:=match l with
 | []=>⟨#[46]⟩
 | l=>aG ⟨#[44]⟩ (l.map fQ)
def nI(l:List ByteArray):ByteArray:=aG spB l++nlB
def vB(s:ByteArray):ByteArray:=nI [⟨#[112,108,97,99,101]⟩,s]
def KC(a:Arc):ByteArray:=nI [⟨#[97,114,99]⟩,aH a.src,aH a.dst,aH a.profile,aH a.miles,eP a.travel,eP a.slow]
def uD(t:VType):ByteArray:=nI [⟨#[116,121,112,101]⟩,t.name,aH t.count,aH t.src,aH t.dst,iB t.cap,aH t.skills,aH t.profile,aH t.start,aH t.close,aH t.drive,aH t.rest,aH t.fixed,aH t.perMile,aH t.perTick]
def onS(b:Bool):ByteArray:=bif b then⟨#[111,102,102]⟩else⟨#[111,110]⟩
def qV(o:Order):ByteArray:=nI [⟨#[111,114,100,101,114]⟩,o.name,iB o.load,eQ o.pick,eQ o.drop,aH o.skills,aH o.penalty,aH o.split,aH o.last,aH o.now,onS o.off]
def uR(p:Pair):ByteArray:=nI [⟨#[97,112,97,114,116]⟩,aH p.a,aH p.b]
def qS(p:Pair):ByteArray:=nI [⟨#[98,101,102,111,114,101]⟩,aH p.a,aH p.b]
def SQ:ByteArray:=⟨#[101,110,100,10]⟩
def Dr(x:Instance):ByteArray:=gL (x.net.places.map vB)
def Dg(x:Instance):ByteArray:=Dr x++gL (x.net.arcs.map KC)
def Dw(x:Instance):ByteArray:=Dg x++gL (x.types.map uD)
def D8(x:Instance):ByteArray:=Dw x++gL (x.orders.map qV)
def Dc(x:Instance):ByteArray:=D8 x++gL (x.apart.map uR)
def zY(x:Instance):ByteArray:=Dc x++gL (x.before.map qS)
def mC(x:Instance):ByteArray:=zY x++SQ
end Sc
namespace Sk
open Go.Proofs.YthbiheckeoknlaaGreatDoor.Sc
open Go.Proofs.YthbiheckeoknlaaGreatDoor.Nw
theorem Ds:∀(l r:List UInt8) (acc m:Nat),Lib.parseUint10 acc l=.ok m→Lib.parseUint10 acc (l++r)=Lib.parseUint10 m r
 | [],r,acc,m,h=>by simp only[Lib.parseUint10]at h;injection h with h;rw[h];rfl
 | c::l,r,acc,m,h=>by
  simp only[Lib.parseUint10]at h;simp only[Xav,Lib.parseUint10];split at h
  ·rename_i h1;rw[if_pos h1];split at h
   ·cases h
   rename_i h2;rw[if_neg h2];split at h
   ·cases h
   rename_i h3;rw[if_neg h3];exact Ds l r _ m h
  ·cases h
theorem nZ{k:Nat}(h:k<10):(UInt8.ofNat (48+k)).toNat=48+k:=by rw[UInt8.toNat_ofNat'];omega
theorem Nd:∀u:Nat,u<18446744073709551616→Lib.parseUint10 0 (Lib.decDigits u)=.ok u:=by
 intro u;induction u using Nat.strongRecOn with
 | ind u ih=>
  intro hu;rw[Lib.decDigits];by_cases h:u<10
  ·rw[dif_pos h];have:=nZ h;simp only[Lib.parseUint10,this];rw[if_pos (by omega),if_neg (by omega),if_neg (by omega)]
   congr 1
   omega
  ·rw[dif_neg h,Ds _ _ _ _ (ih (u/10) (by omega) (by omega))];have:=nZ (Nat.mod_lt u (by decide:10>0));simp only[Lib.parseUint10,this];rw[if_pos (by omega),if_neg (by omega),if_neg (by omega)]
   congr 1
   omega
theorem tB(u:Nat):Lib.decDigits u≠[]:=by
 rw[Lib.decDigits];split
 ·simp
 ·simp
theorem gU:∀(u:Nat) (c:UInt8),c∈Lib.decDigits u→48≤c.toNat∧c.toNat≤57:=by
 intro u;induction u using Nat.strongRecOn with
 | ind u ih=>
  intro c hc;rw[Lib.decDigits]at hc;by_cases h:u<10
  ·rw[dif_pos h]at hc;simp only[Xaf,List.not_mem_nil,or_false]at hc;rw[hc,nZ h];omega
  ·rw[dif_neg h,Xap]at hc;rcases hc with hc|hc
   ·exact ih _ (by omega) c hc
   ·simp only[Xaf,List.not_mem_nil,or_false]at hc;rw[hc,nZ (Nat.mod_lt u (by decide:10>0))];omega
theorem HX:∀u:Nat,u≠0→(Lib.decDigits u).head?≠some 48:=by
 intro u;induction u using Nat.strongRecOn with
 | ind u ih=>
  intro hu;rw[Lib.decDigits];by_cases h:u<10
  ·rw[dif_pos h];intro e;simp only[List.head?_cons,Option.some.injEq]at e;have:=congrArg UInt8.toNat e;rw[nZ h]at this;have h48:(48:UInt8).toNat=48:=rfl;omega
  ·rw[dif_neg h];have:=ih (u/10) (by omega) (by omega);cases hd:Lib.decDigits (u/10)with
   | nil=>exact absurd hd (tB _)
   | cons a r=>rw[hd]at this;exact this
theorem Lv(u:Nat)(h:u<18446744073709551616):Lib.parseMag (Lib.decDigits u)=.ok u:=by unfold Lib.parseMag;rw[if_neg (tB u),Nd u h]
theorem M4(n:Int)(h:bH n):Lib.atoiAll (Lib.itoa n)=.ok n:=by
 obtain⟨h0,h1⟩:=h;unfold Lib.itoa;by_cases hn:n<0
 ·rw[if_pos hn];unfold Lib.atoiAll;have e45:(45:UInt8).toNat=45:=rfl;have hu:¬9223372036854775808<n.natAbs:=by omega
  simp only[e45,or_true,if_true,Lv _ (show n.natAbs<18446744073709551616 by omega),not_true_eq_false,false_and,if_false,true_and,hu]
  congr 1
  omega
 ·rw[if_neg hn];cases hd:Lib.decDigits n.toNat with
  | nil=>exact absurd hd (tB _)
  | cons c r=>
   have hc:=gU n.toNat c (by rw[hd];simp);unfold Lib.atoiAll;simp only;rw[if_neg (by omega),←hd,Lv _ (by omega)];simp only;rw[if_neg (by omega),if_neg (by omega),if_neg (by omega)]
   congr 1
   omega
end Sk
namespace Sp
open Go.Proofs.YthbiheckeoknlaaGreatDoor.Sc Go.Proofs.YthbiheckeoknlaaGreatDoor.Sk
open Go.Proofs.YthbiheckeoknlaaGreatDoor.Nw
def qP(c:UInt8):Bool:=decide (48≤c.toNat)&&decide (c.toNat≤57)
def gR(a:Nat)(l:List UInt8):Nat:=l.foldl (fun a c=>a*10+(c.toNat-48)) a
theorem yH(a:Nat)(c:UInt8)(l:List UInt8):gR a (c::l)=gR (a*10+(c.toNat-48)) l:=by unfold gR;rw[List.foldl_cons]
theorem xR(l:List UInt8)(a:Nat)(c:UInt8):gR a (l++[c])=gR a l*10+(c.toNat-48):=by unfold gR;rw[List.foldl_append,List.foldl_cons,List.foldl_nil]
theorem Fp:∀(l:List UInt8) (a:Nat),a≤gR a l
 | [],_=>Xae _
 | x::l,a=>by have:=Fp l (a*10+(x.toNat-48));rw[yH];omega
theorem Oi{c:UInt8}(h:qP c=true):c=UInt8.ofNat (48+(c.toNat-48)):=by simp only[qP,Xag,decide_eq_true_eq]at h;apply UInt8.toNat_inj.1;rw[nZ (by omega)];omega
theorem RG:∀(n:Nat) (l:List UInt8),l.length=n→l≠[]→(∀c∈l,qP c=true)→(l.head?=some 48→l=[48])→Lib.decDigits (gR 0 l)=l:=by
 intro n;induction n with
 | zero=>intro l h hne;exact absurd (Xbh h) hne
 | succ n ih=>
  intro l hl hne hd hh;obtain⟨l',c,rfl⟩:∃l' c,l=l'++[c]:=⟨_,_,(List.dropLast_concat_getLast hne).symm⟩;have hc:=hd c (by simp);have hc2:=hc;simp only[qP,Xag,decide_eq_true_eq]at hc2;rw[xR];by_cases h0:l'=[]
  ·subst h0;rw[show gR 0 []=0 from rfl,Nat.zero_mul,Nat.zero_add,Lib.decDigits,dif_pos (by omega),←Oi hc];rfl
  ·have hd':∀x∈l',qP x=true:=fun x hx=>hd x (by simp[hx])
   have hh':l'.head?=some 48→False:=fun e=>by
    have:=hh (by cases l' with|nil=>exact absurd rfl h0|cons a r=>simpa using e);have:=congrArg List.length this;cases l' with
    | nil=>exact h0 rfl
    | cons a r=>simp at this
   have e:=ih l' (by simpa using hl) h0 hd' fun h=>(hh' h).elim
   have hv:0<gR 0 l':=by
    refine Nat.pos_of_ne_zero fun h=>?_
    rw[h,Lib.decDigits,dif_pos (by decide)]at e;exact hh' (by rw[←e];rfl)
   rw[Lib.decDigits,dif_neg (by omega),show(gR 0 l'*10+(c.toNat-48))/10=gR 0 l' by omega,e,show(gR 0 l'*10+(c.toNat-48))%10=c.toNat-48 by omega,←Oi hc]
theorem Ap:∀u:Nat,gR 0 (Lib.decDigits u)=u:=by
 intro u;induction u using Nat.strongRecOn with
 | ind u ih=>
  rw[Lib.decDigits];by_cases h:u<10
  ·rw[dif_pos h];rw[yH,nZ h];show 0*10+(48+u-48)=u;omega
  ·rw[dif_neg h,xR,ih _ (by omega),nZ (Nat.mod_lt u (by decide:10>0))];omega
def jN:List UInt8→List UInt8
 | []=>[]
 | c::l=>if c=45 then l else c::l
def pA(l:List UInt8):Bool:= !(jN l).isEmpty&& !((jN l).head? == some 48&& !(l == [48]))&&(jN l).all qP
theorem AR(l:List UInt8)(h:pA l=true):∃z:Int,l=Lib.itoa z:=by
 simp only[pA,Xag,Xay,List.isEmpty_eq_false_iff,Xbd,beq_eq_false_iff_ne,bne_iff_ne,Bool.not_eq_false',Xan,Xax]at h;obtain⟨⟨h1,h2⟩,h3⟩:=h;cases l with
 | nil=>exact absurd rfl h1
 | cons c r=>
  by_cases hc:c=45
  ·subst hc;have e:jN (45::r)=r:=by rw[jN,if_pos rfl]
   rw[e]at h1 h2 h3;have hh:r.head?≠some 48:=h2.resolve_right (by simp);have:=RG r.length r rfl h1 h3 fun h=>absurd h hh
   have hp:0<gR 0 r:=by
    refine Nat.pos_of_ne_zero fun h=>?_
    rw[h,Lib.decDigits,dif_pos (by decide)]at this;exact hh (by rw[←this];rfl)
   refine⟨-(gR 0 r:Int),?_⟩;unfold Lib.itoa;rw[if_pos (by omega),show(-(gR 0 r:Int)).natAbs=gR 0 r by omega,this]
  ·have e:jN (c::r)=c::r:=by rw[jN,if_neg hc]
   rw[e]at h1 h2 h3;have:=RG _ (c::r) rfl h1 h3 fun h=>h2.resolve_left (fun h2=>h2 h)
   refine⟨(gR 0 (c::r):Int),?_⟩;unfold Lib.itoa;rw[if_neg (by omega),show((gR 0 (c::r):Int)).toNat=gR 0 (c::r)by omega,this]
theorem tI(z:Int):jN (Lib.itoa z)=Lib.decDigits z.natAbs:=by
 unfold Lib.itoa;by_cases h:z<0
 ·rw[if_pos h,jN,if_pos rfl]
 ·rw[if_neg h,show z.toNat=z.natAbs by omega];cases hd:Lib.decDigits z.natAbs with
  | nil=>rfl
  | cons c r=>have:=gU z.natAbs c (by rw[hd];simp);rw[jN,if_neg];intro e;rw[e]at this;have h45:(45:UInt8).toNat=45:=rfl;omega
theorem qM(z:Int):pA (Lib.itoa z)=true:=by
 simp only[pA,Xag,Xay,List.isEmpty_eq_false_iff,Xbd,beq_eq_false_iff_ne,bne_iff_ne,Bool.not_eq_false',Xan,Xax];rw[tI];refine⟨⟨tB _,?_⟩,fun c hc=>?_⟩
 ·by_cases h:z=0
  ·subst h;exact .inr (by decide +kernel)
  ·exact .inl (HX _ (by omega))
 ·have:=gU _ c hc;simp only[qP,Xag,decide_eq_true_eq];exact this
theorem pP{a b:Int}(h:Lib.itoa a=Lib.itoa b):a=b:=by
 have e:=congrArg jN h;rw[tI,tI]at e;have e:=congrArg (gR 0) e;rw[Ap,Ap]at e;unfold Lib.itoa at h;have neg:∀{x y:Int},x<0→¬y<0→45::Lib.decDigits x.natAbs=Lib.decDigits y.toNat→False:=fun _ _ h=>by have:=gU _ 45 (by rw[←h];simp);have h45:(45:UInt8).toNat=45:=rfl;omega
 by_cases ha:a<0 <;> by_cases hb:b<0
 ·omega
 ·rw[if_pos ha,if_neg hb]at h;exact(neg ha hb h).elim
 ·rw[if_neg ha,if_pos hb]at h;exact(neg hb ha h.symm).elim
 ·omega
end Sp
namespace Sk
open Go.Proofs.Tryz
open Go.Aw Go.Aw.D Go.Proofs Ty
open Go.Proofs.YthbiheckeoknlaaGreatDoor (inR cP)
open Go.Proofs.YthbiheckeoknlaaGreatDoor.Nw
open Go.RowKit (Below)
def okC(c:Int):Bool:= !(decide (c≤32)||decide (c>126)||c == 34)
def aW(s:ByteArray):Bool:=(List.range s.size).all (fun i=>okC (cP s i))&& !decide (s.size=0)
theorem JB(s:ByteArray)(hl:s.size≤1048576):PC prog 144 [str s] (boo (aW s)):=by
 refine pcd func144 rfl rfl ?_;simp only[go_sem];refine⟨fun ρ _=>∃k:Nat,k≤s.size∧ρ 0=str s∧ρ 5=int s.size∧ρ 6=int k∧∀i∈(List.range s.size).take k,okC (cP s i)=true,fun ρ _=>s.size-bO (ρ 6),⟨0,Xad _,rfl,rfl,rfl,by simp⟩,?_⟩;rintro ρ H ⟨k,hk,h0,h5,h6,hn⟩;simp only[go_sem,h0,h5,h6];refine aA (fun hlt=>?_) (fun hge=>?_)
 ·have hlt:=bD hlt;have b1:=inB hlt;simp only[go_sem,h0,h5,h6,b1];refine aA (fun hb=>?_) (fun hb=>?_)
  ·simp only[go_sem];have:aW s=false:=by unfold aW;rw[sT (aQ (nF hlt)) (congrArg (fun b=> !b) hb)];rfl
   rw[this];exact .refl _
  ·simp only[go_sem,h0,h5,h6,cH k];exact⟨⟨k+1,hlt,rfl,mE (nF hlt) hn (congrArg (fun b=> !b) hb)⟩,by simp only[aE];omega⟩
 ·have hge:=bK hk hge;simp only[go_sem,h0,h5,h6];rw[eT];refine cB ?_;unfold aW;have ha:(List.range s.size).all (fun i=>okC (cP s i))=true:=Xax.2 fun i hi=>hn i (by rw[hge,Xaj (by simp)];exact hi)
  rw[ha,Bool.true_and]
  congr 1
  exact decide_eq_decide.2 (by omega)
theorem O2:∀(l:List UInt8) (n:Nat),(∀i,i<n→l[i]?≠some 32)→(l[n]?=some 32→Lib.indexByte l 32=(n:Int))∧(l.length≤n→Lib.indexByte l 32= -1)
 | [],n,_=>⟨fun h=>by simp at h,fun _=>rfl⟩
 | b::l,0,_=>⟨fun h=>by simp at h;subst h;rfl,fun h=>by simp at h⟩
 | b::l,n+1,h=>by
  have hb:b≠32:=fun e=>h 0 (by omega) (by rw[e];rfl)
  obtain⟨i1,i2⟩:=O2 l n fun i hi=>by simpa using h (i+1) (by omega)
  have hb':(b == 32)=false:=by simpa using hb
  refine⟨fun h1=>?_,fun h1=>?_⟩
  ·have:=i1 (by simpa using h1);simp only[Lib.indexByte,hb',this];rw[if_neg (by simp),if_neg (by simp)]
   push_cast
   rfl
  ·have:=i2 (by simpa using h1);simp only[Lib.indexByte,hb',this];rfl
theorem L4(s:ByteArray):PC prog 26 [str s,.v (.int .u8 32)] (int (Lib.indexByte s.data.toList 32)):=by refine PC.lib (a:=[.string s,.int .u8 32]) (v:=.int .i64 (Lib.indexByte s.data.toList 32)) (fun S w=>rfl) fun w ht=>(Tryz.strings_IndexByte s 32 w).mono fun e w' ⟨he,hw⟩=>⟨he,hw▸Below.refl _ _⟩
theorem KH{s:ByteArray}{n:Nat}(hn:n≤s.size)(hw:aW (s.extract 0 n)=true):0<n∧∀i,i<n→okC ((s.data.getD i 0).toNat:Int)=true:=by
 unfold aW at hw;simp only[Xag,Xay,decide_eq_false_iff_not]at hw;have hsz:(s.extract 0 n).size=n:=by simp;omega
 rw[hsz]at hw;refine⟨by omega,fun i hi=>?_⟩;have:=Xax.1 hw.1 i (List.mem_range.2 hi);have e:cP (s.extract 0 n) i=((s.data.getD i 0).toNat:Int):=by
  unfold cP;have hm:i<min n s.size:=by omega
  have hi2:i<s.data.size:=by
   have:i<s.size:=by omega
   exact this
  simp[Array.getD_eq_getD_getElem?,Array.getElem?_extract,hm];rw[Array.getElem?_eq_getElem hi2];rfl
 rw[←e];exact this
theorem NI(s:ByteArray)(n:Nat)(hl:s.size≤1048576)(hn:n≤s.size)(hw:aW (s.extract 0 n)=true)(hs:n=s.size∨s.data[n]?=some 32):PC prog 79 [str s] (int n):=by
 obtain⟨hp,hc⟩:=KH hn hw;have h34:(((s.data.getD 0 0).toNat:Int) == 34)=false:=by have:=hc 0 hp;unfold okC at this;simp only[Xay,Xaq]at this;exact this.2
 have h32:∀i,i<n→s.data.toList[i]?≠some 32:=fun i hi e=>by
  have:=hc i hi;have e':s.data.getD i 0=32:=by rw[Array.getD_eq_getD_getElem?,←Array.getElem?_toList,e];rfl
  rw[e']at this;exact absurd this (by decide)
 obtain⟨x1,x2⟩:=O2 s.data.toList n h32;refine pcd func79 rfl rfl ?_;simp only[go_sem];rw[eT,h34,Bool.and_false];refine⟨fun h=>⟨by omega,by omega⟩,aA (fun hb=>absurd hb (by decide)) (fun _=>?_)⟩;simp only[go_sem];refine bB (L4 s) ?_;simp only[go_sem];rcases hs with hs|hs
 ·subst hs;rw[x2 (by simp)];refine aA (fun _=>?_) (fun hb=>absurd hb (by decide));simp only[go_sem];refine⟨⟨by omega,by omega⟩,PC.use (JB _ (by simp;omega)) ?_⟩;rw[hw];simp only[go_sem];refine aA (fun hb=>absurd hb (by decide)) (fun _=>?_);simp only[go_sem];exact .refl _
 ·rw[x1 (by rw[Array.getElem?_toList];exact hs)];refine aA (fun hb=>absurd (of_decide_eq_true hb) (by omega)) (fun _=>?_);simp only[go_sem];refine⟨⟨by omega,by omega⟩,PC.use (JB _ (by simp;omega)) ?_⟩;rw[hw];simp only[go_sem];refine aA (fun hb=>absurd hb (by decide)) (fun _=>?_);simp only[go_sem];exact .refl _
end Sk
namespace Sc
open Go.Aw Go.Aw.D Go.Proofs Go.RowKit Ty
open Go.Proofs.YthbiheckeoknlaaGreatDoor
end Sc
namespace Sc
open Go.Proofs.Tryz
open Go.Aw Go.Aw.D Go.Proofs Ty
open Go.RowKit (Below)
open Go.Proofs.YthbiheckeoknlaaGreatDoor
open Go.Proofs.YthbiheckeoknlaaGreatDoor.Nw (ltB geB)
theorem Dq{S:Sg}{w:World}{b:Nat}:∀(l:List ByteArray) (o sz:Nat),fV S w b sz o (l.map D.bE)→∀(j:Nat) x,l[j]?=some x→w.cell? ⟨b,o+j,none⟩=some (.string x)
 | [],_,_,_,_,_,h=>by simp at h
 | a::r,o,sz,h,j,x,hx=>by
  simp only[Xak,fV,D.bE,Xaa,List.length_nil]at h;obtain⟨h1,h2,h3⟩:=h;subst h1;cases j with
  | zero=>simp at hx;subst hx;simp only[cR,rep]at h2;obtain⟨⟨u,h4,_,h5⟩,_⟩:=h2;subst h5;exact h4
  | succ j=>
   have:=Dq r (o+(0+1)) (0+1) h3 j x (by simpa using hx)
   rwa [show o+(0+1)+j=o+(j+1)by omega]at this
theorem Pb(l:List ByteArray)(s:ByteArray)(h1:l.length≤4000000)(hm:(aG s l).size≤140737488355328):PC prog 55 [.sl (l.map D.bE),str s] (str (aG s l)):=by
 intro S w vals hS hf ha;simp only[aV]at ha;obtain⟨u,t,rfl,hu,v,t2,rfl,hv,rfl⟩:=ha;simp only[rep]at hu hv;subst hv;obtain⟨ad,n,c,rfl,hn,hnc,hcm,h⟩:=hu;rw[Xab]at hn;have key:Calls prog 55 #[.slice ad n c,.string s] w fun e w'=>e=.returned (.string (aG s l))∧Below w.heap.size w w':=by
  rcases h with h|⟨b,o,sz,rfl,hb,hs,hels⟩
  ·have hl:l=[]:=List.map_eq_nil_iff.1 h;subst hl;subst hn;exact(Tryz.strings_Join_none ad c s w).mono fun e w' ⟨he,hw⟩=>⟨he,hw▸Below.refl _ _⟩
  ·subst hn;have hbk:=hf;refine(Tryz.strings_Join b o c l s w (Dq l o sz hels) (hS.fz_lt b (hS.ro_fz b hb)) (by omega) hnc ?_).mono fun e w' ⟨he,hw⟩=>⟨?_,hw⟩
   ·have h2:=Fb s l;have h3:=congrArg ByteArray.size h2;have h4:(⟨(Lib.join (l.map (·.data.toList)) s.data.toList).toArray⟩:ByteArray).size=(Lib.join (l.map (·.data.toList)) s.data.toList).length:=by simp[ByteArray.size]
    omega
   ·rw[he,Fb]
 refine key.mono fun e w' ⟨he,hb⟩=>?_
 exact⟨_,str (aG s l),bV,S,he,rfl,hS.after hb.size fun k hk=>hb.block k hk,by simp only[rep],hS.grow hb.os hb.tape hb.output hb.size fun k hk=>hb.block k hk,dO.refl _ _⟩
theorem Ak(l:List ByteArray)(h1:l.length≤4000000)(hm:(aG spB l).size≤140737488355328):PC prog 20 [.sl (l.map D.bE)] (str (aG spB l)):=by refine pcd func20 rfl rfl ?_;simp only[go_sem];refine bB (Pb l spB h1 hm) ?_;simp only[go_sem];exact .refl _
inductive Wd where
 | i (n:Int)
 | s (t:ByteArray)
def txW:Wd→ByteArray
 | .i n=>aH n
 | .s t=>t
def okW:Wd→Prop
 | .i n=>bH n
 | .s t=>t.size≤100000000
abbrev cA(l:List ByteArray):Row:=⟨9,1,l.map D.bE⟩
theorem P8{w:Wd}(h:okW w):(txW w).size≤100000000:=by
 cases w with
 | i n=>exact Xam (bT h) (by decide)
 | s t=>exact h
end Sc
namespace Sc
open Go.Proofs.Tryz
open Go.Aw Go.Aw.D Go.Proofs Go.RowKit Ty
open Go.Proofs.YthbiheckeoknlaaGreatDoor
open Go.Proofs.YthbiheckeoknlaaGreatDoor.Nw (ltB geB)
def sgn(b:Bool)(k:Nat):Int:=if b=true then -(k:Int)else k
theorem BU(b:Bool)(k:Nat):(sgn b k).tmod 10=sgn b (k%10):=by
 unfold sgn;cases b
 ·exact AH k
 ·show(-(k:Int)).tmod 10= -((k%10:Nat):Int);rw[Int.neg_tmod,AH]
theorem Gh(b:Bool)(k:Nat):(sgn b k).tdiv 10=sgn b (k/10):=by
 unfold sgn;cases b
 ·exact A5 k
 ·show(-(k:Int)).tdiv 10= -((k/10:Nat):Int);rw[Int.neg_tdiv,A5]
theorem Sx{b:Bool}{k:Nat}(h:k≤9223372036854775808)(h2:b=false→k≤9223372036854775807): -9223372036854775808≤sgn b k∧sgn b k≤9223372036854775807:=by
 unfold sgn;cases b
 ·have:=h2 rfl;simp;omega
 ·simp;omega
theorem Bz{b:Bool}{k:Nat}:(sgn b k != 0)=decide (k≠0):=by unfold sgn;cases b <;> simp <;> by_cases h:k=0 <;> simp[h]
theorem iH(n:Int)(h:bH n):PC prog 53 [int n] (str (aH n)):=by
 obtain⟨b,N,hn,hN,hN2,hbn⟩:∃(b:Bool) (N:Nat),n=sgn b N∧N≤9223372036854775808∧(b=false→N≤9223372036854775807)∧aH n=(if n<0 then⟨#[45]⟩++cO N else cO N):=by
  rcases Int.lt_or_le n 0 with hlt|hge
  ·refine⟨true,n.natAbs,by unfold sgn;simp;omega,by have:=h.1;omega,by simp,by unfold aH;rw[if_pos hlt,if_pos hlt]⟩
  ·refine⟨false,n.toNat,by unfold sgn;simp;omega,by have:=h.2;omega,fun _=>by have:=h.2;omega,by unfold aH;rw[if_neg (by omega),if_neg (by omega)]⟩
 rw[hbn];have hd21:(cO N).size≤21:=by have:=jB 19 N (by omega);omega
 clear hbn;refine pcd func53 rfl rfl ?_;simp only[go_sem];refine⟨fun ρ _=>∃(c:Bool) (k:Nat) (s:ByteArray),ρ 0=int n∧ρ 5=boo c∧ρ 4=int (sgn b k)∧ρ 3=str s∧k≤N∧(c=true→cO N=cO k++s)∧(c=false→cO N=s),
  fun ρ _=>(match ρ 4 with| .v (.int _ x)=>x.natAbs|_=>0)+vT (ρ 5),⟨true,N,ByteArray.empty,rfl,rfl,by rw[hn];rfl,rfl,Xae _,fun _=>by simp,by simp⟩,?_⟩
 rintro ρ H ⟨c,k,s,e0,e5,e4,e3,hk,ht,hf⟩;simp only[go_sem,e0,e3,e4,e5];refine aA (fun hb=>?_) (fun hb=>?_)
 ·subst hb;have he:=ht rfl;have hss:s.size≤21:=by have:=congrArg ByteArray.size he;rw[ByteArray.size_append]at this;omega
  have hq:IntKind.i64.wrap (sgn b (k/10))=sgn b (k/10):=dI (Sx (by omega) fun hb=>by have:=hN2 hb;omega);have fin:(∃(c:Bool) (k':Nat) (s':ByteArray),boo (sgn b (k/10) != 0)=boo c∧int (sgn b (k/10))=int (sgn b k')∧str (lD ((k%10:Nat):Int)++s)=str s'∧k'≤N∧(c=true→cO N=cO k'++s')∧(c=false→cO N=s'))∧(sgn b (k/10)).natAbs+vT (boo (sgn b (k/10) != 0))<(sgn b k).natAbs+vT (boo true):=by
   have hb1:vT (boo true)=1:=rfl;rw[hb1];have hab:∀m:Nat,(sgn b m).natAbs=m:=fun m=>by unfold sgn;cases b <;> simp
   refine⟨⟨_,k/10,_,rfl,rfl,rfl,by omega,fun hc=>?_,fun hc=>?_⟩,?_⟩
   ·rw[Bz]at hc;have:10≤k:=by simp at hc;omega
    rw[he,nD this,ByteArray.append_assoc]
   ·rw[Bz]at hc;have h10:k<10:=by simp at hc;omega
    rw[he,lF h10,Nat.mod_eq_of_lt h10]
   ·rw[hab,hab,Bz];rcases Xbc k 10 with h|h
    ·have:k/10=0:=by omega
     simp[this,vT]
    ·simp only[vT];split <;> omega
  simp only[go_sem,e0,e3,e4,e5,BU];refine⟨by omega,?_⟩;refine aA (fun hb=>?_) (fun hb=>?_)
  ·have hng : IntKind.i64.wrap (0 - sgn b (k % 10)) = ((k % 10 : Nat) : Int) := by
    have hb1:sgn b (k%10)<0:=by simpa using hb
    have hbt:b=true:=by cases b with|true=>rfl|false=>(unfold sgn at hb1;simp at hb1;omega)
    subst hbt;rw[dI (by unfold sgn;simp;omega)];unfold sgn;simp
   simp only[go_sem,e0,e3,e4,e5,BU,Gh,hng,hq];refine⟨?_,by decide,fin⟩;rw[nQ,bA];omega
  ·have hng : sgn b (k % 10) = ((k % 10 : Nat) : Int) := by
    have hb1:¬sgn b (k%10)<0:=by simpa using hb
    unfold sgn at hb1 ⊢;cases b <;> simp at hb1 ⊢;omega
   simp only[go_sem,e0,e3,e4,e5,BU,Gh,hng,hq];refine⟨?_,by decide,fin⟩;rw[nQ,bA];omega
 ·subst hb;have he:=hf rfl;simp only[go_sem,e0,e3,e4,e5];refine aA (fun hb=>?_) (fun hb=>?_)
  ·have hlt:n<0:=by simpa using hb
   simp only[go_sem,e0,e3,e4,e5];rw[if_pos hlt,he];refine⟨?_,.refl _⟩;rw[bA];show((1+s.size:Nat):Int)≤_;rw[←he];omega
  ·have hge:¬n<0:=by simpa using hb
   simp only[go_sem,e0,e3,e4,e5];rw[if_neg hge,he];exact .refl _
theorem nH{α:Type}{s:ByteArray}{f:α→ByteArray}{l:List α}{k:Nat}{x:α}(h:l[k]?=some x):aG s ((l.take (k+1)).map f)=(if 0<k then aG s ((l.take k).map f)++s else aG s ((l.take k).map f))++f x:=by
 cases l with
 | nil=>simp at h
 | cons a r=>
  cases k with
  | zero=>simp at h;subst h;simp only[Nat.lt_irrefl,if_false,Xbe,Xao,aG,List.take_succ_cons,Xak,cY];rw[xD,dP]
  | succ k=>rw[if_pos (Nat.succ_pos k),List.take_succ_cons,List.take_succ_cons,Xak,Xak,aZ,aZ,uT (by simpa using h),bQ,bQ]
theorem Ay{α:Type}{s:ByteArray}{f:α→ByteArray}{B:Nat}(l:List α)(k:Nat)(h:∀a∈l,(f a).size≤B):(cS s ((l.take k).map f)).size≤l.length*(s.size+B):=by
 have:=Ax (s:=s) (B:=B) ((l.take k).map f) fun a ha=>by obtain⟨x,hx,rfl⟩:=Xat.1 ha;exact h x (List.mem_of_mem_take hx)
 refine Xam this (Nat.mul_le_mul_right _ ?_);rw[Xab,Xas];omega
theorem vR{α:Type}{s:ByteArray}{f:α→ByteArray}{B:Nat}(l:List α)(k:Nat)(h:∀a∈l,(f a).size≤B):(aG s ((l.take k).map f)).size≤l.length*(s.size+B):=by
 have:=kY (s:=s) (B:=B) ((l.take k).map f) fun a ha=>by obtain⟨x,hx,rfl⟩:=Xat.1 ha;exact h x (List.mem_of_mem_take hx)
 refine Xam this (Nat.mul_le_mul_right _ ?_);rw[Xab,Xas];omega
theorem Qv(l:List ByteArray):l.map (fun a=>a)=l:=List.map_id l
theorem No(l:List ByteArray)(hl:l.length≤2000000)(hs:∀a∈l,a.size≤200000000):PC prog 96 [.sl (l.map D.bE)] (str (aG spB l)):=by
 refine pcd func96 rfl rfl ?_;simp only[go_sem];refine⟨fun ρ H=>∃(k:Nat),k≤l.length∧ρ 0=.sl (l.map D.bE)∧ρ 4=int k∧ρ 3=str (aG spB ((l.take k).map fun a=>a)),fun ρ _=>l.length-bO (ρ 4),⟨0,Xad _,by simp only[go_sem],(by simp only[go_sem];rfl),by simp only[go_sem];rfl⟩,?_⟩;rintro ρ H ⟨k,hk,e0,e4,e3⟩;simp only[go_sem,e0,e4,e3];refine aA (fun hlt=>?_) (fun hge=>?_)
 ·have hlt:=ltB hlt;obtain⟨a,ha⟩:=cG hlt;have b1:=inB hlt;have h1:spB.size=1:=rfl;have hj:=Xam (vR (s:=spB) (B:=200000000) l k hs) (show l.length*(spB.size+200000000)≤400000002000000 by rw[h1];omega);have hsa:=hs a (aQ ha);have hw:=cH k;simp only[go_sem,e0,e4,e3];refine aA (fun hb=>?_) (fun hb=>?_)
  ·have hk0:0<k:=by simpa using hb
   have hst:=nH (s:=spB) (f:=fun a=>a) ha;rw[if_pos hk0]at hst;simp only[go_sem,e0,e4,e3,aM ha,b1,hw];refine⟨by rw[bA];simp only[ByteArray.size_append,List.size_toArray,Xaa,List.length_nil];omega,by rw[bA];simp only[ByteArray.size_append,List.size_toArray,Xaa,List.length_nil];omega,⟨k+1,hlt,rfl,?_⟩,by simp only[aE];omega⟩;rw[hst];rfl
  ·have hk0:k=0:=by simpa using hb
   have hst:=nH (s:=spB) (f:=fun a=>a) ha;rw[if_neg (by omega)]at hst;simp only[go_sem,e0,e4,e3,aM ha,b1,hw];refine⟨by rw[bA];omega,⟨k+1,hlt,rfl,?_⟩,by simp only[aE];omega⟩;rw[hst]
 ·have hge:=geB hk hge;subst hge;simp only[go_sem,e0,e4,e3];rw[Xaj (Xae _),Qv];exact .refl _
theorem Er(l:List Int)(hl:l.length≤2000000)(hz:∀n∈l,bH n):PC prog 48 [.sl (l.map aY)] (str (cS spB (l.map aH))):=by
 refine pcd func48 rfl rfl ?_;simp only[go_sem];refine⟨fun ρ H=>∃(k:Nat),k≤l.length∧ρ 0=.sl (l.map aY)∧ρ 4=int k∧ρ 3=str (cS spB ((l.take k).map aH)),fun ρ _=>l.length-bO (ρ 4),⟨0,Xad _,by simp only[go_sem],(by simp only[go_sem];rfl),by simp only[go_sem];rfl⟩,?_⟩;rintro ρ H ⟨k,hk,e0,e4,e3⟩;simp only[go_sem,e0,e4,e3];refine aA (fun hlt=>?_) (fun hge=>?_)
 ·have hlt:=ltB hlt;obtain⟨a,ha⟩:=cG hlt;have b1:=inB hlt;have hj:=Xam (Ay (s:=spB) (f:=aH) (B:=21) l k fun n hn=>bT (hz n hn)) (show l.length*((spB:ByteArray).size+21)≤44000000 by show l.length*(1+21)≤_;omega);have h1:spB.size=1:=rfl;have hsa:=bT (hz a (aQ ha));simp only[go_sem,e0,e4,e3,aM ha,b1];refine⟨by rw[bA];simp only[ByteArray.size_append,List.size_toArray,Xaa,List.length_nil];omega,?_⟩;refine bB (iH a (hz a (aQ ha))) ?_;simp only[go_sem,e0,e4,e3,cH k];refine⟨by rw[bA];simp only[ByteArray.size_append,List.size_toArray,Xaa,List.length_nil];omega,⟨k+1,hlt,rfl,?_⟩,by simp only[aE];omega⟩;rw[uT ha,←bQ];rfl
 ·have hge:=geB hk hge;subst hge;simp only[go_sem,e0,e4,e3];rw[Xaj (Xae _)];exact .refl _
theorem xW(l:List Int)(hl:l.length≤2000000)(hz:∀n∈l,bH n):PC prog 99 [.sl (l.map aY)] (str (iB l)):=by
 cases l with
 | nil=>refine pcd func99 rfl rfl ?_;simp only[go_sem];refine aA (fun hb=>?_) (fun hb=>absurd hb (by simp));simp only[go_sem];exact .refl _
 | cons a0 r=>
 have hr:iB (a0::r)=aG ⟨#[44]⟩ ((a0::r).map aH):=rfl;rw[hr];have hsa0:=bT (hz a0 (by simp));generalize hL:a0::r=l at *;have h0:l[0]?=some a0:=by rw[←hL];rfl
 have h0l:0<l.length:=by rw[←hL];simp
 refine pcd func99 rfl rfl ?_;simp only[go_sem];refine aA (fun hb=>by simp at hb;rw[hb]at h0l;simp at h0l) (fun hb=>?_);have b0:0≤(0:Int)∧(0:Int)<(l.length:Nat):=by omega
 simp only[go_sem,aM h0,b0,Xab];refine bB (iH a0 (hz a0 (aQ h0))) ?_;simp only[go_sem];refine⟨fun ρ _=>∃k:Nat,k≤l.length∧0<k∧ρ 0=.sl (l.map aY)∧ρ 4=int k∧ρ 3=str (aG ⟨#[44]⟩ ((l.take k).map aH)),fun ρ _=>l.length-bO (ρ 4),⟨1,h0l,Nat.one_pos,by simp only[go_sem],by simp only[go_sem];rfl,?_⟩,?_⟩
 ·simp only[go_sem];have:=nH (s:=⟨#[44]⟩) (f:=aH) h0;rw[this,if_neg (by omega),Xbe];show str _=str (⟨#[]⟩++_);rw[xD]
 rintro ρ H ⟨k,hk,hk0,e0,e4,e3⟩;simp only[go_sem,e0,e4,e3,Xab];refine aA (fun hlt=>?_) (fun hge=>?_)
 ·have hlt:=ltB hlt;obtain⟨a,ha⟩:=cG hlt;have b1:=inB hlt;have hj:=Xam (vR (s:=⟨#[44]⟩) (f:=aH) (B:=21) l k fun n hn=>bT (hz n hn)) (show l.length*((⟨#[44]⟩:ByteArray).size+21)≤44000000 by show l.length*(1+21)≤_;omega);have hsa:=bT (hz a (aQ ha));simp only[go_sem,e0,e4,e3,aM ha,b1];refine⟨by rw[bA];simp only[ByteArray.size_append,List.size_toArray,Xaa,List.length_nil];omega,?_⟩;refine bB (iH a (hz a (aQ ha))) ?_;simp only[go_sem,e0,e4,e3,cH k];refine⟨by rw[bA];simp only[ByteArray.size_append,List.size_toArray,Xaa,List.length_nil];omega,⟨k+1,hlt,by omega,rfl,?_⟩,by simp only[aE];omega⟩;rw[nH ha,if_pos hk0]
 ·have hge:=geB hk hge;subst hge;simp only[go_sem,e0,e4,e3];rw[Xaj (Xae _)];exact .refl _
end Sc
namespace Sc
open Go.Proofs.Tryz
open Go.Aw Go.Aw.D Go.Proofs Ty
open Go.RowKit (Below)
open Go.Proofs.YthbiheckeoknlaaGreatDoor
open Go.Proofs.YthbiheckeoknlaaGreatDoor.Nw (ltB geB)
theorem fA{l:List Int}(h:l≠[]):iB l=aG ⟨#[44]⟩ (l.map aH):=by
 cases l with
 | nil=>exact absurd rfl h
 | cons a r=>rfl
theorem eX{l:List Point}(h:l≠[]):eP l=aG ⟨#[44]⟩ (l.map fQ):=by
 cases l with
 | nil=>exact absurd rfl h
 | cons a r=>rfl
theorem pQ{α:Type}{f:α→ByteArray}{s:ByteArray}{B:Nat}(l:List α)(h:∀a∈l,(f a).size≤B):(aG s (l.map f)).size≤l.length*(s.size+B):=by
 have:=vR (s:=s) (f:=f) l l.length h
 rwa [Xaj (Xae _)]at this
theorem nW{l:List Int}(hl:l.length≤1048576)(h:∀n∈l,bH n):(iB l).size≤30000000:=by
 by_cases h0:l=[]
 ·subst h0;exact(by decide:(1:Nat)≤30000000)
 ·rw[fA h0];refine Xam (pQ (s:=⟨#[44]⟩) (f:=aH) (B:=21) l fun n hn=>bT (h n hn)) ?_;show l.length*(1+21)≤_;omega
theorem SR(l:List Int)(hl:l.length≤1048576)(hz:∀n∈l,bH n):PC prog 239 [.sl (l.map D.aY)] (str (iB l)):=by
 by_cases h0:l=[]
 ·subst h0;refine pcd func239 rfl rfl ?_;simp only[go_sem];refine aA (fun hb=>?_) (fun hb=>absurd hb (by simp));simp only[go_sem];exact .refl _
 rw[fA h0];refine pcb (fun t=>t == 3) func239 rfl rfl ?_;simp only[go_sem];refine aA (fun hb=>absurd (by simpa using hb) h0) (fun hb=>?_);simp only[go_sem];refine aL fun i HGi hi0 (Ri:HGi i=some (⟨9,1,[]⟩)) N=>?_
 clear N hi0;simp only[go_sem,Ri];refine⟨fun ρ H=>∃(k:Nat) (i:Nat),k≤l.length∧ρ 9=.sl (l.map D.aY)∧ρ 10=int (l.length:Nat)∧ρ 11=int k∧ρ 3=.os i∧H i=some (cA ((l.take k).map aH)),fun ρ _=>l.length-bO (ρ 11),⟨0,i,Xad _,by simp only[go_sem],by simp only[go_sem,Xab],(by simp only[go_sem];rfl),by simp only[go_sem],Ri⟩,?_⟩;rintro ρ H ⟨k,i,hk,e9,e10,e11,e3,Ri⟩;simp only[go_sem,e9,e10,e11,e3];refine aA (fun hlt=>?_) (fun hge=>?_)
 ·have hlt:=ltB hlt;obtain⟨n,hn⟩:=cG hlt;have b1:=inB hlt;have hwr:=cH k;have hst:(l.take (k+1)).map aH=(l.take k).map aH++[aH n]:=by rw[fL hn];simp
  simp only[go_sem,e9,e10,e11,e3,aM hn,b1];refine bB (iZ n (hz n (aQ hn))) ?_;simp only[go_sem,e9,e10,e11,e3];refine aP Ri ⟨rfl,rfl⟩ (by simp only[go_sem]) (by simp only[Xab,Xaa,List.length_nil,Xas];omega) fun j' hj'=>?_
  have g1:bG (bG H i none) j' (some ⟨9,1,((l.take k).map aH).map D.bE++[[str (aH n)]]⟩) j'=some (cA ((l.take (k+1)).map aH)):=by rw[aD,hst];simp only[cA,Xal];rfl
  simp only[go_sem,e9,e10,e11,e3,hwr];exact⟨⟨k+1,j',hlt,rfl,rfl,g1⟩,by simp only[aE];omega⟩
 ·have hge:=geB hk hge;subst hge;rw[Xaj (Xae _)]at Ri;simp only[go_sem,e9,e10,e11,e3];refine pH.use ⟨[.sl ((l.map aH).map D.bE),str ⟨#[44]⟩],.cons _ _ _ _ (.row _ _ _ Ri (ConvE.refl _)) (.cons _ _ _ _ (.refl _) .nil),Pb _ _ (by rw[Xab];omega) ?_,rfl⟩ ?_
  ·refine Xam (pQ (s:=⟨#[44]⟩) (f:=aH) (B:=21) l fun n hn=>bT (hz n hn)) ?_;show l.length*(1+21)≤_;omega
  ·simp only[go_sem];exact .refl _
theorem Jr{w:World}(h:∀t∈Ae,t.2 (fB w t.1)):∃m:Int,w.cell? ⟨0,0,none⟩=some (.int .i64 m):=by
 have h1:Lm (fB w 0):=h (0,Lm) (by simp[Ae]);obtain⟨m,h1⟩:=h1;refine⟨m,?_⟩;unfold fB at h1;split at h1
 ·rename_i cs t fz hw;injection h1 with h1;subst h1;simp[World.cell?,hw]
 ·cases h1
theorem Mj(s:ByteArray)(hs:s.size≤4000000000):PC prog 238 [str s,str ⟨#[44]⟩,str ⟨#[58]⟩] (str (sB 44 58 s)):=by
 refine PC.lib (a:=[.string s,.string ⟨#[44]⟩,.string ⟨#[58]⟩]) (v:=.string (sB 44 58 s)) (fun S w=>rfl) fun w ht=>?_
 obtain⟨m,hm⟩:=Jr ht;have h1:1≤(⟨#[44]⟩:ByteArray).size:=Xae 1;have hmul:=Lib.countB_mul_le (⟨#[44]⟩:ByteArray) h1 s.size s (Xae _);have e1:(⟨#[44]⟩:ByteArray).size=1:=rfl;have e2:(⟨#[58]⟩:ByteArray).size=1:=rfl;rw[e1]at hmul;refine(Tryz.strings_ReplaceAll s ⟨#[44]⟩ ⟨#[58]⟩ m w (by omega) hm h1 (by rw[e2];omega)).mono fun e w' ⟨he,hb⟩=>⟨?_,hb⟩
 rw[he];show Ending.returned (.string ⟨(Lib.replaceAll s.data.toList [44] [58]).toArray⟩)=_;rw[BY (by decide)];rfl
def jQ(s:Stop):Prop:=bH s.place∧bH s.start∧bH s.close∧bH s.service
theorem SS(s:Stop)(hz:jQ s):PC prog 178 [.agg (dQ s)] (str (eQ s)):=by
 refine pcd func178 rfl rfl ?_;simp only[go_sem];refine cN fun j hj=>?_
 simp only[go_sem];refine fD (aD _ _ _) (by simp) ?_;have R:∀H q,bG H j q j=q:=fun H q=>aD _ _ _
 simp only[go_sem,R];have hzs:(s.place == -1&&(s.start == 0&&(s.close == 0&&(s.service == 0&&true))))=eK s:=by unfold eK;simp[Bool.and_assoc]
 refine aA (fun hb=>?_) (fun hb=>?_) <;> rw[hzs]at hb
 ·simp only[go_sem];have:eQ s=⟨#[46]⟩:=if_pos hb;rw[this];exact .refl _
 ·have hl : ∀ n ∈ [s.place, s.start, s.close, s.service], bH n := by
   intro n hn;simp only[Xaf,List.not_mem_nil,or_false]at hn;rcases hn with rfl|rfl|rfl|rfl
   ·exact hz.1
   ·exact hz.2.1
   ·exact hz.2.2.1
   ·exact hz.2.2.2
  have hls:=nW (l:=[s.place,s.start,s.close,s.service]) (by simp) hl;simp only[go_sem,R];refine bB (SR [s.place,s.start,s.close,s.service] (by simp) hl) ?_;simp only[go_sem];refine bB (Mj _ (by omega)) ?_;simp only[go_sem];have:eQ s=sB 44 58 (iB [s.place,s.start,s.close,s.service]):=by rw[fA (by simp),Ng];exact if_neg (by rw[hb];simp)
  rw[this];exact .refl _
def gH(p:Point):Prop:=bH p.t∧bH p.a
theorem zK{p:Point}(h:gH p):(fQ p).size≤43:=by have h1:=bT h.1;have h2:=bT h.2;unfold fQ;rw[ByteArray.size_append,ByteArray.size_append];show _+(1+_)≤_;omega
theorem mT{l:List Point}(hl:l.length≤1048576)(h:∀n∈l,gH n):(eP l).size≤50000000:=by
 by_cases h0:l=[]
 ·subst h0;exact(by decide:(1:Nat)≤50000000)
 ·rw[eX h0];refine Xam (pQ (s:=⟨#[44]⟩) (f:=fQ) (B:=43) l fun n hn=>zK (h n hn)) ?_;show l.length*(1+43)≤_;omega
end Sc
namespace Sk
open Go.Proofs.YthbiheckeoknlaaGreatDoor.Sc
theorem vA(w:ByteArray):aG spB [w]=w:=by rw[aZ,cY,dP]
theorem lJ(s w x:ByteArray)(r:List ByteArray):aG s (w::x::r)=w++(s++aG s (x::r)):=by rw[aZ,bS,aZ]
theorem L9(s w:ByteArray)(r:List ByteArray):(aG s (w::r)).extract 0 w.size=w:=by rw[aZ];exact ByteArray.extract_append_eq_left rfl
theorem lQ(s w x:ByteArray)(r:List ByteArray):(aG s (w::x::r)).size=w.size+(s.size+(aG s (x::r)).size):=by rw[lJ,ByteArray.size_append,ByteArray.size_append]
theorem Ow(w x:ByteArray)(r:List ByteArray):(aG spB (w::x::r)).data[w.size]?=some 32:=by rw[lJ,ByteArray.data_append,Array.getElem?_append_right (by simp),ByteArray.data_append];rw[show w.size-w.data.size=0 from Nat.sub_self _,Array.getElem?_append_left (by decide)];rfl
theorem Ld(w x:ByteArray)(r:List ByteArray):(aG spB (w::x::r)).extract (w.size+1) (aG spB (w::x::r)).size=aG spB (x::r):=by
 have h:=lQ spB w x r;rw[lJ,←bQ]at *;refine ByteArray.extract_append_eq_right ?_ ?_
 ·rw[ByteArray.size_append];rfl
 ·rw[ByteArray.size_append,ByteArray.size_append]
theorem Pg{w:ByteArray}{r:List ByteArray}(s:ByteArray)(h:0<w.size):0<(aG s (w::r)).size:=by rw[aZ,ByteArray.size_append];omega
end Sk
namespace Sk
open Go.Proofs.YthbiheckeoknlaaGreatDoor.Sc
section
variable{c:UInt8}
theorem FF:∀(p r:List UInt8),c∉p→Lib.indexByte (p++c::r) c=(p.length:Int)
 | [],r,_=>by simp[Lib.indexByte]
 | b::p,r,h=>by
  have hb:(b == c)=false:=by
   have:b≠c:=fun e=>h (by rw[e];simp)
   simpa using this
  have:=FF p r fun hm=>h (by simp[hm])
  simp only[Xav,Lib.indexByte,hb,this];rw[if_neg (by simp),if_neg (by simp),Xaa]
  push_cast
  rfl
theorem E1:∀(p:List UInt8),c∉p→Lib.indexByte p c= -1
 | [],_=>rfl
 | b::p,h=>by
  have hb:(b == c)=false:=by
   have:b≠c:=fun e=>h (by rw[e];simp)
   simpa using this
  have:=E1 p fun hm=>h (by simp[hm])
  simp only[Lib.indexByte,hb,this];rfl
theorem LN(p r:List UInt8)(h:c∉p):Lib.cut (p++c::r) [c]=(p,r,true):=by unfold Lib.cut;rw[Lib.index_one,FF p r h,if_pos (by omega),Int.toNat_natCast];simp
theorem Mo(p r:List UInt8)(h:c∉p):Lib.count (p++c::r) [c]=Lib.count r [c]+1:=by rw[Lib.count_one,Lib.count_one,List.count_append,List.count_cons_self,List.count_eq_zero_of_not_mem h];omega
theorem A4:∀ps:List (List UInt8),ps≠[]→(∀p∈ps,c∉p)→Lib.splitK [c] 0 (Lib.count (Lib.join ps [c]) [c]) (Lib.join ps [c])=ps
 | [],h,_=>absurd rfl h
 | [p],_,h=>by
  have hp:=h p (by simp);have e:Lib.join [p] [c]=p:=by rw[Lib.join_cons];simp[Lib.joinTail]
  rw[e,Lib.count_one,List.count_eq_zero_of_not_mem hp];rfl
 | p::q::r,_,h=>by
  have hp:=h p (by simp);have e:Lib.join (p::q::r) [c]=p++c::Lib.join (q::r) [c]:=by rw[Lib.join_cons,Lib.join_cons];simp[Lib.joinTail]
  have ih:=A4 (q::r) (by simp) fun x hx=>h x (by simp at hx ⊢;exact .inr hx)
  rw[e,Mo _ _ hp,Lib.splitK,Lib.index_one,FF _ _ hp];rw[if_neg (by simp),Int.toNat_natCast];have e1:(p++c::Lib.join (q::r) [c]).take (p.length+0)=p:=by simp
  have e2:(p++c::Lib.join (q::r) [c]).drop (p.length+[c].length)=Lib.join (q::r) [c]:=by simp
  rw[e1,e2,ih]
theorem wF{α β:Type}{f:α→β}(hf:∀a b,f a=f b→a=b):∀{l m:List α},l.map f=m.map f→l=m
 | [],[],_=>rfl
 | [],_::_,h=>by simp at h
 | _::_,[],h=>by simp at h
 | a::l,b::m,h=>by simp only[Xak,List.cons.injEq]at h;rw[hf a b h.1,wF hf h.2]
theorem vJ(s:ByteArray)(ps:List ByteArray):(aG s ps).data.toList=Lib.join (ps.map (·.data.toList)) s.data.toList:=by rw[←Fb]
theorem lV(ps:List ByteArray)(hn:ps≠[])(h:∀p∈ps,c∉p.data.toList):Lib.splitB ⟨#[c]⟩ 0 (Lib.countB (aG ⟨#[c]⟩ ps) ⟨#[c]⟩) (aG ⟨#[c]⟩ ps)=ps:=by
 have h1:=Lib.splitB_data ⟨#[c]⟩ 0 (Lib.countB (aG ⟨#[c]⟩ ps) ⟨#[c]⟩) (aG ⟨#[c]⟩ ps);have h2:Lib.countB (aG ⟨#[c]⟩ ps) ⟨#[c]⟩=Lib.count (Lib.join (ps.map (·.data.toList)) [c]) [c]:=by unfold Lib.countB;rw[vJ]
 rw[h2,vJ]at h1;have h3:([c]:List UInt8)=(⟨#[c]⟩:ByteArray).data.toList:=rfl;rw[←h3,A4 _ (by simpa using hn) (by intro p hp;obtain⟨q,hq,rfl⟩:=Xat.1 hp;exact h q hq)]at h1;rw[h2];exact wF (fun a b (e:a.data.toList=b.data.toList)=>ByteArray.ext (Array.ext' e)) h1
end
end Sk
namespace Sk
open Go.Aw Go.Aw.D Go.Proofs
open Go.Proofs.YthbiheckeoknlaaGreatDoor (cP dM fG jX)
open Go.Proofs.YthbiheckeoknlaaGreatDoor.Nw
open Go.Proofs.YthbiheckeoknlaaGreatDoor.Sc (aH uB bH aG cS spB iB eQ eP fQ onS aZ bS cY fA eX)
abbrev bs(s:ByteArray):List UInt8:=s.data.toList
theorem dJ(s t:ByteArray):bs (s++t)=bs s++bs t:=by simp[bs,ByteArray.data_append]
theorem bY(s:ByteArray):(bs s).length=s.size:=by simp[bs]
theorem wO{s:ByteArray}(h0:bs s≠[])(h:∀c∈bs s,okC (c.toNat:Int)=true):aW s=true:=by
 have hp:0<s.size:=by rw[←bY];exact Xbf.2 h0
 unfold aW;rw[Xag];refine⟨Xax.2 fun i hi=>?_,by simpa using(by omega:¬s.size=0)⟩;have hi:i<s.size:=List.mem_range.1 hi;have hi2:i<s.data.size:=hi;unfold cP;rw[Array.getD_eq_getD_getElem?,Array.getElem?_eq_getElem hi2];exact h _ (by simp[bs])
theorem C8{s:ByteArray}{c:UInt8}:∀{l:List ByteArray},c∈bs (cS s l)→c∈bs s∨∃w∈l,c∈bs w
 | [],h=>by simp[cY,bs]at h
 | a::r,h=>by
  rw[bS,dJ,dJ,Xap,Xap]at h;rcases h with h|h|h
  ·exact .inl h
  ·exact .inr ⟨a,by simp,h⟩
  ·rcases C8 h with h|⟨w,hw,h⟩
   ·exact .inl h
   ·exact .inr ⟨w,by simp[hw],h⟩
theorem tZ{s:ByteArray}{c:UInt8}{l:List ByteArray}(h:c∈bs (aG s l)):c∈bs s∨∃w∈l,c∈bs w:=by
 cases l with
 | nil=>simp[aG,bs]at h
 | cons a r=>
  rw[aZ,dJ,Xap]at h;rcases h with h|h
  ·exact .inr ⟨a,by simp,h⟩
  ·rcases C8 h with h|⟨w,hw,h⟩
   ·exact .inl h
   ·exact .inr ⟨w,by simp[hw],h⟩
theorem Be{s a:ByteArray}{r:List ByteArray}(h:bs a≠[]):bs (aG s (a::r))≠[]:=by rw[aZ,dJ];simp[h]
def Nx(c:UInt8):Prop:=c=45∨(48≤c.toNat∧c.toNat≤57)
theorem fH(n:Int):bs (aH n)=Lib.itoa n:=by rw[uB]
theorem nR(n:Int):∀c∈bs (aH n),Nx c:=by
 intro c hc;rw[fH]at hc;unfold Lib.itoa at hc;split at hc
 ·simp only[Xaf]at hc;rcases hc with hc|hc
  ·exact .inl hc
  ·exact .inr (gU _ c hc)
 ·exact .inr (gU _ c hc)
theorem wI(n:Int):bs (aH n)≠[]:=by
 rw[fH];unfold Lib.itoa;split
 ·simp
 ·exact tB _
theorem J9{c:UInt8}(h:Nx c):okC (c.toNat:Int)=true:=by
 unfold okC;rcases h with rfl|h
 ·decide
 ·rw[decide_eq_false (by omega),decide_eq_false (by omega)];simp only[Bool.false_or,Xay,beq_eq_false_iff_ne];omega
theorem LI{c d:UInt8}(h:Nx c)(hd:d.toNat<45∨57<d.toNat):c≠d:=by
 rintro rfl;rcases h with rfl|h
 ·have:(45:UInt8).toNat=45:=rfl;omega
 ·omega
theorem eI(n:Int):aW (aH n)=true:=wO (wI n) fun c hc=>J9 (nR n c hc)
theorem BO{s:ByteArray}{l:List Int}(hs:∀c∈bs s,okC (c.toNat:Int)=true)(hl:l≠[]):aW (aG s (l.map aH))=true:=by
 cases l with
 | nil=>exact absurd rfl hl
 | cons a r=>
  refine wO (Be (wI a)) fun c hc=>?_
  rcases tZ hc with hc|⟨w,hw,hc⟩
  ·exact hs c hc
  ·obtain⟨n,_,rfl⟩:=Xat.1 hw;exact J9 (nR n c hc)
theorem NY:∀c∈bs ⟨#[44]⟩,okC (c.toNat:Int)=true:=by decide
theorem PG:∀c∈bs ⟨#[58]⟩,okC (c.toNat:Int)=true:=by decide
theorem uW(l:List Int):aW (iB l)=true:=by
 by_cases h:l=[]
 ·subst h;decide
 ·rw[fA h];exact BO NY h
theorem AF(s:Stop):aW (eQ s)=true:=by
 unfold eQ;split
 ·decide
 ·exact BO PG (by simp)
theorem fR(p:Point):fQ p=aG ⟨#[58]⟩ ([p.t,p.a].map aH):=by simp only[Xak,Xao,aZ,bS,cY];unfold fQ;rw[Sc.dP]
theorem M8(p:Point):∀c∈bs (fQ p),okC (c.toNat:Int)=true:=by
 intro c hc;rw[fR]at hc;rcases tZ hc with hc|⟨w,hw,hc⟩
 ·exact PG c hc
 ·obtain⟨n,_,rfl⟩:=Xat.1 hw;exact J9 (nR n c hc)
theorem wR(l:List Point):aW (eP l)=true:=by
 by_cases h:l=[]
 ·subst h;decide
 ·rw[eX h];cases l with
  | nil=>exact absurd rfl h
  | cons a r=>
   refine wO (Be ?_) fun c hc=>?_
   ·rw[fR];exact Be (wI _)
   ·rcases tZ hc with hc|⟨w,hw,hc⟩
    ·exact NY c hc
    ·obtain⟨n,_,rfl⟩:=Xat.1 hw;exact M8 n c hc
theorem Ip(b:Bool):aW (onS b)=true:=by cases b <;> decide
theorem Rl{s:ByteArray}(h:dM s=true):∀i,i<s.size→okC (cP s i)=true∧cP s i≠46:=by
 intro i hi;unfold dM at h;split at h
 ·cases h
 ·have:=Xax.1 h i (List.mem_range.2 hi);unfold jX fG at this;generalize cP s i=c at this ⊢;simp only[Xba,Xag,decide_eq_true_eq,Xan]at this;refine⟨?_,by omega⟩;unfold okC;rw[decide_eq_false (by omega),decide_eq_false (by omega)];simp only[Bool.false_or,Xay,beq_eq_false_iff_ne];omega
theorem CO{s:ByteArray}(h:dM s=true):aW s=true:=by
 have hs:0<s.size:=by
  unfold dM at h;split at h
  ·cases h
  ·rename_i h1;simp only[Xba,decide_eq_true_eq,not_or]at h1;omega
 unfold aW;rw[Xag];refine⟨Xax.2 fun i hi=>(Rl h i (List.mem_range.1 hi)).1,by simpa using(by omega:¬s.size=0)⟩
end Sk
namespace Sk
open Go.Proofs.Tryz
open Go.Aw Go.Aw.D Go.Proofs Ty
open Go.Proofs.YthbiheckeoknlaaGreatDoor (cP fG)
open Go.Proofs.YthbiheckeoknlaaGreatDoor.Nw
open Go.Proofs.YthbiheckeoknlaaGreatDoor.Sc (aH uB bH bT jB)
open Go.RowKit (Below)
theorem Qh(n:Int):PC prog 80 [str (aH n),str ⟨#[45]⟩] (str (cO n.natAbs)):=by
 refine PC.lib (a:=[.string (aH n),.string ⟨#[45]⟩]) (v:=.string (cO n.natAbs)) (fun S w=>rfl) fun w _=>(Tryz.strings_TrimPrefix (aH n) ⟨#[45]⟩ w).mono fun e w' ⟨he,hw⟩=>?_
 rw[hw];refine⟨he.trans ?_,Below.refl _ _⟩;have:Lib.trimPrefix (aH n).data.toList [45]=Lib.decDigits n.natAbs:=by
  rw[show(aH n).data.toList=Lib.itoa n from fH n];unfold Lib.itoa Lib.trimPrefix Lib.hasPrefix;by_cases hn:n<0
  ·rw[if_pos hn,if_pos (by simp[List.isPrefixOf])];rfl
  ·rw[if_neg hn,show n.toNat=n.natAbs by omega,if_neg];cases hd:Lib.decDigits n.natAbs with
   | nil=>simp[List.isPrefixOf]
   | cons c r=>
    have hc:=gU n.natAbs c (by rw[hd];simp);have:((45:UInt8) == c)=false:=by rw[beq_eq_false_iff_ne];rintro rfl;have:(45:UInt8).toNat=45:=rfl;omega
    simp[List.isPrefixOf,this]
 rw[show(⟨#[45]⟩:ByteArray).data.toList=[45]from rfl,this,rB]
theorem LC(n:Int)(h:bH n):PC prog 82 [str (aH n)] (.tup [int n,.v .nilIface]):=by
 have hz:=bT h;refine PC.lib (a:=[.string (aH n)]) (v:=.tuple #[.int .i64 n,.nilIface]) (fun S w=>?_) fun w _=>?_
 ·simp only[rep,aV];exact⟨[.int .i64 n,.nilIface],rfl,_,_,rfl,rfl,_,_,rfl,rfl,rfl⟩
 ·refine(Tryz.strconv_Atoi_ok (aH n) (by omega) n (by rw[show(aH n).data.toList=Lib.itoa n from fH n];exact M4 n h) w).mono ?_;rintro e w' ⟨rfl,hw⟩;refine⟨rfl,?_⟩;rcases hw with rfl|⟨t,rfl⟩
  ·exact Below.refl _ _
  ·exact Go.Joins.below_bytesWorld _ _ _ _ (Xae _)
theorem Om(u i:Nat)(hi:i<(cO u).size):fG (cP (cO u) i)=true:=by
 have hi2:i<(cO u).data.size:=hi;have hc:=gU u ((cO u).data[i]) (by
  have:(cO u).data.toList=Lib.decDigits u:=by rw[rB]
  rw[←this];simp)
 unfold cP fG;rw[Array.getD_eq_getD_getElem?,Array.getElem?_eq_getElem hi2];simp only[Xai,Xag,decide_eq_true_eq];omega
theorem Hi(u:Nat):0<(cO u).size:=by
 have h:(cO u).data.toList=Lib.decDigits u:=by rw[rB]
 have:=tB u;rw[←bY];show 0<(cO u).data.toList.length;rw[h];exact Xbf.2 this
theorem ME{u:Nat}(h:u≠0):cP (cO u) 0≠48:=by
 have hd:=HX u h;have e:(cO u).data.toList=Lib.decDigits u:=by rw[rB]
 have hp:=Hi u;intro hb;apply hd;rw[←e];unfold cP at hb;have hi2:0<(cO u).data.size:=hp;rw[Array.getD_eq_getD_getElem?,Array.getElem?_eq_getElem hi2,Xai]at hb;rw[List.head?_eq_getElem?,Array.getElem?_toList,Array.getElem?_eq_getElem hi2]
 congr 1
 apply UInt8.toNat_inj.1;have:(48:UInt8).toNat=48:=rfl;omega
theorem wA(n:Int)(h:bH n):PC prog 38 [str (aH n)] (.tup [int n,int 0]):=by
 have hz:=jB 19 n.natAbs (by have:=h.1;have:=h.2;omega);have hp:=Hi n.natAbs;refine pcd func38 rfl rfl ?_;simp only[go_sem];refine bB (Qh n) ?_;simp only[go_sem];rw[eT];have hc:(decide (((cO n.natAbs).size:Int)<1)||(((cO n.natAbs).data.getD 0 0).toNat:Int) == 48&& !(aH n).toList == (⟨#[48]⟩:ByteArray).toList)=false:=by
  rw[decide_eq_false (by omega),Bool.false_or,Xbd];by_cases h0:n=0
  ·subst h0;exact .inr (by decide +kernel)
  ·have:=ME (u:=n.natAbs) (by omega);unfold cP at this;exact .inl (by simpa using this)
 refine⟨fun _=>⟨by omega,by omega⟩,aA (fun hb=>absurd (hb.symm.trans hc) (by decide)) (fun _=>?_)⟩;simp only[go_sem];refine⟨fun ρ _=>∃k:Nat,k≤(cO n.natAbs).size∧ρ 0=str (aH n)∧ρ 4=str (cO n.natAbs)∧ρ 22=int (cO n.natAbs).size∧ρ 23=int k,fun ρ _=>(cO n.natAbs).size-bO (ρ 23),⟨0,Xad _,by simp only[go_sem],by simp only[go_sem],by simp only[go_sem],(by simp only[go_sem];rfl)⟩,?_⟩;rintro ρ H ⟨k,hk,e0,e4,e22,e23⟩;simp only[go_sem,e0,e4,e22,e23];refine aA (fun hlt=>?_) (fun hge=>?_)
 ·have hlt:=bD hlt;have b1:=inB hlt;simp only[go_sem,e0,e4,e22,e23,b1];refine bB (Nw.oG _) ?_;have hd:=Om n.natAbs k hlt;unfold cP at hd;rw[hd];simp only[go_sem,e0,e4,e22,e23];refine aA (fun hb=>absurd hb (by decide)) (fun _=>?_);simp only[go_sem,e0,e4,e22,e23,cH k];exact⟨⟨k+1,hlt,rfl⟩,by simp only[aE];omega⟩
 simp only[go_sem,e0,e4,e22,e23];refine bB (LC n h) ?_;simp only[go_sem];refine⟨by kernel_rfl,?_⟩;refine aA (fun h=>absurd h (by decide)) (fun _=>?_);simp only[go_sem];exact .refl _
end Sk
namespace Sp
open Go.Proofs.Tryz
open Go.Aw Go.Aw.D Go.Proofs Ty
open Go.Proofs.YthbiheckeoknlaaGreatDoor (cP fG)
open Go.Proofs.YthbiheckeoknlaaGreatDoor.Nw
open Go.Proofs.YthbiheckeoknlaaGreatDoor.Sk
open Go.Proofs.YthbiheckeoknlaaGreatDoor.Sc (aH uB bH bT jB)
open Go.RowKit (Below)
def Th(s:ByteArray)(n e:Int):Prop:=(e=0∧bH n∧s=aH n)∨(e≠0∧∀m,bH m→s≠aH m)
theorem gD{a b:ByteArray}(h:bs a=bs b):a=b:=by obtain⟨a⟩:=a;obtain⟨b⟩:=b;exact congrArg ByteArray.mk (Array.toList_inj.1 h)
theorem LK{s:ByteArray}{z:Int}(h:bs s=Lib.itoa z):s=aH z:=gD (h.trans (fH z).symm)
theorem Nh{s:ByteArray}{f:UInt8→Bool}(h:∀k,k<s.size→f (s.data.getD k 0)=true):(bs s).all f=true:=by
 rw[Xax];intro c hc;obtain⟨k,hk,rfl⟩:=List.mem_iff_getElem.1 hc;have hk2:k<s.data.size:=by simpa[bs]using hk
 have:=h k hk2
 rwa [Array.getD_eq_getD_getElem?,Array.getElem?_eq_getElem hk2,Xai]at this
theorem QW{s:ByteArray}{f:UInt8→Bool}{k:Nat}(hk:k<s.size)(h:f (s.data.getD k 0)=false):(bs s).all f=false:=by have hk2:k<s.data.size:=hk;rw[Array.getD_eq_getD_getElem?,Array.getElem?_eq_getElem hk2,Xai]at h;rw[List.all_eq_false];exact⟨s.data[k],by simp[bs],by rw[h];simp⟩
theorem IK(c:UInt8):fG (c.toNat:Int)=qP c:=by
 unfold fG qP
 congr 1 <;> exact decide_eq_decide.2 (by omega)
theorem PU{s dg:ByteArray}(h:bs dg=jN (bs s)):pA (bs s)=(!(decide ((dg.size:Int)<1)||(((dg.data.getD 0 0).toNat:Int) == 48&& !s.toList == (⟨#[48]⟩:ByteArray).toList))&&(bs dg).all qP):=by
 unfold pA;rw[←h];have e1:(bs dg).isEmpty=decide ((dg.size:Int)<1):=by rw[Xaw,List.isEmpty_iff,decide_eq_true_eq,←List.length_eq_zero_iff,bY];omega
 have e2:(s.toList == (⟨#[48]⟩:ByteArray).toList)=(bs s == [48]):=by rw[Lib.toList_data,Lib.toList_data]
 rw[e1,e2];by_cases hd:((dg.size:Int)<1)
 ·simp[hd]
 ·have e3 : ((bs dg).head? == some 48) = (((dg.data.getD 0 0).toNat : Int) == 48) := by
   rw[Array.getD_eq_getD_getElem?,←Array.getElem?_toList,←List.head?_eq_getElem?];show((bs dg).head? == some 48)=((((bs dg).head?.getD 0).toNat:Int) == 48);cases hb:bs dg with
   | nil=>have:=bY dg;rw[hb]at this;simp only[List.length_nil]at this;omega
   | cons c r=>rw[Xaw];simp only[List.head?_cons,Xan,Option.some.injEq,Xai];refine⟨fun h=>by rw[h];rfl,fun h=>UInt8.toNat_inj.1 ?_⟩;have h48:(48:UInt8).toNat=48:=rfl;omega
  rw[e3];simp[hd]
theorem SH(s:ByteArray):∃dg,bs dg=jN (bs s)∧PC prog 80 [str s,str ⟨#[45]⟩] (str dg):=by
 refine⟨⟨(jN (bs s)).toArray⟩,rfl,?_⟩;refine PC.lib (a:=[.string s,.string ⟨#[45]⟩]) (v:=.string ⟨(jN (bs s)).toArray⟩) (fun S w=>rfl) fun w _=>(Tryz.strings_TrimPrefix s ⟨#[45]⟩ w).mono fun e w' ⟨he,hw⟩=>?_
 rw[hw];refine⟨he.trans ?_,Below.refl _ _⟩;have:Lib.trimPrefix s.data.toList [45]=jN (bs s):=by
  show Lib.trimPrefix (bs s) [45]=_;unfold Lib.trimPrefix Lib.hasPrefix;cases bs s with
  | nil=>rfl
  | cons c r=>
   rw[jN];by_cases hc:c=45
   ·subst hc;rw[if_pos rfl,if_pos (by simp[List.isPrefixOf])];rfl
   ·rw[if_neg hc,if_neg];simp[List.isPrefixOf];exact fun e=>hc e.symm
 rw[show(⟨#[45]⟩:ByteArray).data.toList=[45]from rfl,this]
theorem SB{w:World}(h:∀t∈Ae,t.2 (fB w t.1)):∃ev:Value,w.cell? ⟨2,0,none⟩=some ev∧(ev=.nilIface∨∃te pe,ev=.iface te pe):=by
 have h1:LJ (fB w 2):=h (2,LJ) (by simp[Ae]);obtain⟨ev,h1,h2⟩:=h1;refine⟨ev,?_,h2⟩;unfold fB at h1;split at h1
 ·rename_i cs t fz hw;injection h1 with h1;subst h1;simp[World.cell?,hw]
 ·cases h1
theorem Dt:∀(l:List UInt8) (a:Nat),a<18446744073709551616→(∀c∈l,qP c=true)→Lib.parseUint10 a l=if gR a l<18446744073709551616 then .ok (gR a l)else .range
 | [],a,ha,_=>by rw[show gR a []=a from rfl,if_pos ha,Lib.parseUint10]
 | c::r,a,ha,h=>by
  have hc:=h c (by simp);simp only[qP,Xag,decide_eq_true_eq]at hc;have hv:=Fp r (a*10+(c.toNat-48));rw[Lib.parseUint10,if_pos hc,yH];by_cases h1:1844674407370955162≤a
  ·rw[if_pos h1,if_neg (by omega)]
  rw[if_neg h1];by_cases h2:18446744073709551616≤a*10+(c.toNat-48)
  ·rw[if_pos h2,if_neg (by omega)]
  rw[if_neg h2];exact Dt r _ (by omega) fun c hc=>h c (by simp[hc])
theorem Lr(u:Nat):Lib.parseMag (Lib.decDigits u)=if u<18446744073709551616 then .ok u else .range:=by unfold Lib.parseMag;rw[if_neg (tB u),Dt _ 0 (by omega) (fun c hc=>by have:=gU u c hc;simp only[qP,Xag,decide_eq_true_eq];exact this),Ap]
theorem PL{z:Int}(h:¬bH z):Lib.atoiAll (Lib.itoa z)=.range:=by
 unfold bH at h;unfold Lib.itoa;by_cases hn:z<0
 ·rw[if_pos hn];unfold Lib.atoiAll;have e45:(45:UInt8).toNat=45:=rfl;simp only[e45,or_true,if_true,Lr];by_cases hu:z.natAbs<18446744073709551616
  ·rw[if_pos hu];simp only[not_true_eq_false,false_and,if_false,true_and];rw[if_pos (by omega)]
  ·rw[if_neg hu]
 ·rw[if_neg hn];cases hd:Lib.decDigits z.toNat with
  | nil=>exact absurd hd (tB _)
  | cons c r=>
   have hc:=gU z.toNat c (by rw[hd];simp);unfold Lib.atoiAll;simp only;rw[if_neg (by omega),←hd,Lr];by_cases hu:z.toNat<18446744073709551616
   ·rw[if_pos hu];simp only;rw[if_pos (by omega)]
   ·rw[if_neg hu]
theorem Ju{z:Int}(h:¬bH z)(hs:(aH z).size≤1048576){H:aC}{K:AV→aC→Prop}(hK:∀n v:Value,(∃t p,v=.iface t p)→K (.tup [.v n,.v v]) H):cK prog 82 [str (aH z)] H K:=by
 intro S w vals hS ha;simp only[aV,rep]at ha;obtain⟨u,t,rfl,rfl,rfl⟩:=ha;obtain⟨ev,h1,h2⟩:=SB fun t ht=>(hS.tabs t ht).2
 refine(Tryz.strconv_Atoi_range (aH z) (by omega) (by rw[show(aH z).data.toList=Lib.itoa z from fH z];exact PL h) ev w h1 h2).mono ?_;rintro e w' ⟨N,rfl,_,_,hb⟩;exact⟨_,_,H,S,rfl,hK _ _ ⟨_,_,rfl⟩,hS.after hb.size fun k hk=>hb.block k hk,by simp only[rep,aV];exact⟨_,rfl,_,_,rfl,rfl,_,_,rfl,rfl,rfl⟩,hS.grow hb.os hb.tape hb.output hb.size fun k hk=>hb.block k hk,dO.refl _ _⟩
theorem vW(s:ByteArray)(hs:s.size≤1048576):∃n e,PC prog 38 [str s] (.tup [int n,int e])∧Th s n e:=by
 obtain⟨dg,hdg,htr⟩:=SH s;have hok:=PU hdg;have hdz:dg.size≤1048576:=by
  rw[←bY,hdg];refine Xam ?_ hs;rw[←bY s];cases bs s with
  | nil=>exact Xae _
  | cons c r=>
   rw[jN];split
   ·simp
   ·exact Xae _
 have main:∀r:AV,(pA (bs s)=false→r=.tup [int 0,int 3])→(∀n,bH n→s=aH n→r=.tup [int n,int 0])→(∀z,¬bH z→s=aH z→r=.tup [int 0,int 4])→PC prog 38 [str s] r:=by
  intro r h3 h0 h4;refine pcd func38 rfl rfl ?_;simp only[go_sem];refine bB htr ?_;simp only[go_sem];rw[eT];refine⟨fun hg=>?_,aA (fun hb=>?_) (fun hb=>?_)⟩
  ·have:¬(dg.size:Int)<1:=by simpa using hg
   exact⟨by omega,by omega⟩
  ·have:=h3 (by rw[hok,hb];rfl);subst this;simp only[go_sem];exact .refl _
  rw[hb]at hok;simp only[go_sem];refine⟨fun ρ _=>∃k:Nat,k≤dg.size∧(∀i<k,qP (dg.data.getD i 0)=true)∧ρ 0=str s∧ρ 4=str dg∧ρ 22=int dg.size∧ρ 23=int k,fun ρ _=>dg.size-bO (ρ 23),⟨0,Xad _,fun i hi=>absurd hi (Nat.not_lt_zero i),by simp only[go_sem],by simp only[go_sem],by simp only[go_sem],(by simp only[go_sem];rfl)⟩,?_⟩;rintro ρ H ⟨k,hk,hd,e0,e4,e22,e23⟩;simp only[go_sem,e0,e4,e22,e23];refine aA (fun hlt=>?_) (fun hge=>?_)
  ·have hlt:=bD hlt;have b1:=inB hlt;simp only[go_sem,e0,e4,e22,e23,b1];refine bB (Nw.oG _) ?_;rw[IK];simp only[go_sem,e0,e4,e22,e23];refine aA (fun hb=>?_) (fun hb=>?_)
   ·have:=h3 (by rw[hok,QW hlt (by simpa using hb)];rfl);subst this;simp only[go_sem];exact .refl _
   simp only[go_sem,e0,e4,e22,e23,cH k];exact⟨⟨k+1,hlt,fun i hi=>by
    by_cases e:i=k
    ·subst e;simpa using hb
    ·exact hd i (by omega),rfl⟩,by simp only[aE];omega⟩
  have hge:k=dg.size:=by
   have:¬((k:Int)<(dg.size:Int)):=by simpa using hge
   omega
  subst hge;rw[Nh hd]at hok;obtain⟨z,hz⟩:=AR (bs s) hok;have hz:=LK hz;simp only[go_sem,e0,e4,e22,e23];by_cases hi:bH z
  ·have:=h0 z hi hz;subst this;subst hz;refine bB (LC z hi) ?_;simp only[go_sem];refine⟨by kernel_rfl,?_⟩;refine aA (fun h=>absurd h (by decide)) (fun _=>?_);simp only[go_sem];exact .refl _
  ·have:=h4 z hi hz;subst this;subst hz;refine Ju hi hs ?_;rintro n v ⟨t,p,rfl⟩;simp only[go_sem];refine⟨by kernel_rfl,?_⟩;refine aA (fun _=>?_) (fun h=>absurd h (by decide));simp only[go_sem];exact .refl _
 by_cases h:∃n,bH n∧s=aH n
 ·obtain⟨n,hn,rfl⟩:=h;refine⟨n,0,main _ (fun h=>?_) (fun m hm e=>?_) (fun z hz e=>?_),.inl ⟨rfl,hn,rfl⟩⟩
  ·rw[fH,qM]at h;cases h
  ·have:=pP ((fH n).symm.trans ((congrArg bs e).trans (fH m)));rw[this]
  ·have:=pP ((fH n).symm.trans ((congrArg bs e).trans (fH z)));exact absurd (this▸hn) hz
 ·have hno:∀m,bH m→s≠aH m:=fun m hm e=>h ⟨m,hm,e⟩
  cases hk:pA (bs s)with
  | false=>refine⟨0,3,main _ (fun _=>rfl) (fun n hn e=>absurd e (hno n hn)) (fun z _ e=>?_),.inr ⟨by decide,hno⟩⟩;rw[e,fH,qM]at hk;cases hk
  | true=>exact⟨0,4,main _ (fun h=>by rw[hk]at h;cases h) (fun n hn e=>absurd e (hno n hn)) (fun z _ e=>rfl),.inr ⟨by decide,hno⟩⟩
end Sp
namespace Sk
open Go.Proofs.Tryz
open Go.Aw Go.Aw.D Go.Proofs Ty
open Go.Proofs.YthbiheckeoknlaaGreatDoor.Nw
open Go.Proofs.YthbiheckeoknlaaGreatDoor.Sc
open Go.RowKit (Below)
def sz0:AV→Nat
 | .v (.string s)=>s.size
 | _=>0
theorem iL{w:ByteArray}(h:aW w=true):0<w.size:=by unfold aW at h;simp only[Xag,Xay,decide_eq_false_iff_not]at h;omega
theorem Am(ws:List ByteArray)(hne:ws≠[])(ho:∀w∈ws,aW w=true)(hl:(aG spB ws).size≤1048576)(hwl:ws.length≤1048576):PC prog 37 [str (aG spB ws)] (.tup [.sl (ws.map D.bE),int 0]):=by
 refine pcb (fun t=>t == 4) func37 rfl rfl ?_;simp only[go_sem];refine aL fun i HGi hi0 (Ri:HGi i=some (⟨9,1,[]⟩)) N=>?_
 clear N hi0;simp only[go_sem,Ri];refine⟨fun ρ H=>∃(k i:Nat),k<ws.length∧ρ 0=str (aG spB (ws.drop k))∧ρ 4=.os i∧H i=some (cA (ws.take k))∧(aG spB (ws.drop k)).size≤1048576,fun ρ _=>sz0 (ρ 0),⟨0,i,Xbf.2 hne,rfl,rfl,Ri,hl⟩,?_⟩;rintro ρ H ⟨k,i,hk,e0,e4,Ri,hs⟩;simp only[go_sem,e0,e4];obtain⟨w,r,hd⟩:∃w r,ws.drop k=w::r:=by
  cases hx:ws.drop k with
  | nil=>exact absurd (List.drop_eq_nil_iff.1 hx) (by omega)
  | cons w r=>exact⟨w,r,rfl⟩
 have hw:aW w=true:=ho w (List.mem_of_mem_drop (by rw[hd];simp));have hp:=iL hw;rw[hd]at hs ⊢;rw[hd]at e0;have hq:=Pg (r:=r) spB hp;refine aA (fun _=>?_) (fun hb=>?_)
 ·simp only[go_sem,e0,e4];cases r with
  | nil=>
   rw[vA]at hs hq e0 ⊢;refine bB (NI w w.size hs (Xae _) (by rw[show w.extract 0 w.size=w from by simp];exact hw) (.inl rfl)) ?_;simp only[go_sem,e0,e4];refine aA (fun hb=>absurd (of_decide_eq_true hb) (by omega)) (fun _=>?_);simp only[go_sem,e0,e4];refine aA (fun _=>?_) (fun hb=>absurd hb (by simp));simp only[go_sem,e0,e4,Ri];refine aP Ri ⟨rfl,rfl⟩ (by simp only[go_sem]) (by simp only[Xab,Xaa,List.length_nil,Xas];omega) fun j' hj'=>?_
   simp only[go_sem];have hst:ws=ws.take k++[w]:=by rw[←hd,List.take_append_drop]
   refine .tup _ _ (.cons _ _ _ _ (.row _ _ _ (aD _ _ _) ?_) (.cons _ _ _ _ (.refl _) .nil));have he:ws.map D.bE=(ws.take k).map D.bE++[[str w]]:=(congrArg (List.map D.bE) hst).trans (by rw[Xal];rfl);rw[he];exact ConvE.refl _
  | cons x r=>
   refine bB (NI _ w.size hs (by rw[lQ];omega) (by rw[L9];exact hw) (.inr (Ow w x r))) ?_;simp only[go_sem,e0,e4];have hz:=lQ spB w x r;have hx:aW x=true:=ho x (List.mem_of_mem_drop (i:=k) (by rw[hd];simp));have hxp:=Pg (r:=r) spB (iL hx);have h1:spB.size=1:=rfl;have hsep:(aG spB (w::x::r)).data.getD w.size 0=32:=by rw[Array.getD_eq_getD_getElem?,Ow];rfl
   refine aA (fun hb=>absurd (eq_of_beq hb) (by omega)) (fun _=>?_);simp only[go_sem,e0,e4];refine aA (fun hb=>absurd (eq_of_beq hb) (by omega)) (fun _=>?_);simp only[go_sem,e0,e4,hsep];refine⟨⟨by omega,by omega⟩,aA (fun hb=>?_) (fun _=>?_)⟩
   ·rw[fM (show w.size≤4611686018427387904 by omega),show(((UInt8.toNat 32:Nat):Int) != 32)=false from by decide,Bool.false_or]at hb;exact absurd (eq_of_beq hb) (by omega)
   simp only[go_sem,e0,e4,hsep];refine⟨⟨by omega,by omega⟩,aP Ri ⟨rfl,rfl⟩ (by simp only[go_sem]) (by simp only[Xab,Xaa,List.length_nil,Xas];omega) fun j' hj'=>?_⟩;simp only[go_sem,e0,e4,fM (show w.size≤4611686018427387904 by omega)];have hd1:ws.drop (k+1)=x::r:=by rw[←List.drop_drop,hd];rfl
   have hkl:k+1<ws.length:=by have:=congrArg List.length hd1;simp at this;omega
   have hg:ws[k]?=some w:=by rw[←List.head?_drop,hd];rfl
   have he:(ws.take (k+1)).map D.bE=(ws.take k).map D.bE++[[str w]]:=by rw[List.take_add_one,hg,Xal];rfl
   rw[L9];refine⟨⟨by omega,by omega⟩,⟨k+1,j',hkl,?_,rfl,?_,?_⟩,?_⟩
   ·rw[hd1];exact congrArg (fun b=>AV.v (Value.string b)) (Ld w x r)
   ·rw[aD,cA,he]
   ·rw[hd1];omega
   ·rw[Ld];simp only[sz0];omega
 ·rw[eT,decide_eq_false (by omega)]at hb;exact absurd hb (by decide)
end Sk
end Go.Proofs.YthbiheckeoknlaaGreatDoor
section
namespace Go.Aw
open Go.RowKit
section
variable{P:Program}{f:FuncId}{args:List AV}{H:aC}{K:AV→aC→Prop}{Q:AV→Prop}
def UC(P:Program)(f:FuncId)(args:List AV)(Q:AV→Prop):Prop:=RC P f args fun x _=>Q x
theorem UC.conv(h:RC P f args fun x H'=>∃r,Q r∧Conv H' x r):UC P f args Q:=fun S w vals hS hf ha=>
 (h S w vals hS hf ha).mono fun e w' ⟨v,x,H',S',he,⟨r,hq,hx⟩,hS',hv,hg,hn⟩=>by
  refine⟨v,r,bV,S'.froze H',he,hq,⟨?_,?_,fun k r hk=>by simp[bV]at hk,fun k r hk=>by simp[bV]at hk,fun k k' r r' hk=>by simp[bV]at hk,hS'.tabs.keep (S'.le_froze H') (fI.refl S' w')⟩,hx.rep hS' hv,?_,fun _ _ _=>rfl⟩
  ·rintro g (hg'|hg')
   ·exact .inl (hS'.ro_fz g hg')
   ·exact .inr hg'
  ·rintro g (hg'|⟨k,row,hk,hg'⟩)
   ·exact hS'.fz_lt g hg'
   ·exact(hS'.rows k row hk).block_lt hg'
  ·refine⟨Sg.le_trans hg.le (S'.le_froze H'),fun k hk=>.inl (hg.fz k hk),hg.os,hg.tape,hg.output,hg.size,hg.same,?_⟩;rintro g (hg'|⟨k,row,hk,hg'⟩)
   ·exact hg.newro g hg'
   ·exact .inr fun h2=>hS'.free k row hk g hg' (hg.fz g h2)
theorem UC.body{fn:Func}{c:Code}(mt:Nat→Bool)(hm:P.follows .mixedOrders=true)(hf:P.funcs[f]?=some fn)(hb:fn.body=some c)(hc:pT fn c args.length=true)
 (h:awp P (cK P) (dE P) mt c (A0 P fn.results.toList fun x H'=>∃r,Q r∧Conv H' x r) (uY args) bV):UC P f args Q:=UC.conv (RC.body mt hm hf hb hc h)
theorem UC.use(h:UC P f args Q)(hK:∀r,Q r→K r H):cK P f args H K:=
 RC.frame h fun x H' hx hd=>⟨H,hK x hx,fun k row hk=>by
  unfold merge;cases h':H' k with
  | none=>exact hk
  | some r'=>rw[hd k r' h']at hk;simp at hk,fun _ h _=>h⟩
theorem UC.mono{Q':AV→Prop}(h:UC P f args Q)(hq:∀r,Q r→Q' r):UC P f args Q':=RC.mono h fun r _=>hq r
theorem PC.u{r:AV}(h:PC P f args r)(hq:Q r):UC P f args Q:=RC.mono h fun _ _ e=>e▸hq
end
end Go.Aw
namespace Go.Proofs.YthbiheckeoknlaaGreatDoor.Sp
open Go.Aw Go.Aw.D Go.Proofs Ty
open Go.Proofs.YthbiheckeoknlaaGreatDoor (cP fG)
open Go.Proofs.YthbiheckeoknlaaGreatDoor.Nw
open Go.Proofs.YthbiheckeoknlaaGreatDoor.Sk
open Go.RowKit (Below)
theorem Oq(s:ByteArray)(hs:s.size≤1048576):UC Tryz.prog 142 [str s] fun r=>∃n:Nat,n≤s.size∧r=int n:=by
 refine UC.body (c:=Tryz.f142.body.getD .skip) (fun _=>false) mixed Tryz.func142 rfl (by kernel_rfl) ?_;unfold Tryz.f142;simp only[Option.getD_some];simp only[go_sem];refine⟨fun ρ _=>∃k:Nat,k≤s.size+1∧ρ 0=str s∧ρ 3=int k,fun ρ _=>s.size+1-bO (ρ 3),⟨1,by omega,by simp only[go_sem],by simp only[go_sem];rfl⟩,?_⟩;rintro ρ H ⟨k,hk,e0,e3⟩;simp only[go_sem,e0,e3];refine aA (fun hlt=>?_) (fun hge=>?_)
 ·have hlt:=bD hlt;have b1:=inB hlt;simp only[go_sem,e0,e3,b1];refine aA (fun _=>?_) (fun _=>?_)
  ·simp only[go_sem,e0,e3,cH k,fM (show k+1≤4611686018427387904 by omega)];exact⟨⟨k+2,by omega,rfl⟩,by simp only[aE];omega⟩
  simp only[go_sem,e0,e3];refine aA (fun _=>?_) (fun _=>?_)
  ·simp only[go_sem,e0,e3,cH k];exact⟨_,⟨k+1,hlt,rfl⟩,.refl _⟩
  simp only[go_sem,e0,e3,cH k];exact⟨⟨k+1,by omega,rfl⟩,by simp only[aE];omega⟩
 ·simp only[go_sem];exact⟨_,⟨0,Nat.zero_le _,rfl⟩,.refl _⟩
theorem HL(s:ByteArray)(c:Int):PC Tryz.prog 26 [str s,.v (.int .u8 c)] (int (Lib.indexByte s.data.toList c.toNat.toUInt8)):=by refine PC.lib (a:=[.string s,.int .u8 c]) (v:=.int .i64 (Lib.indexByte s.data.toList c.toNat.toUInt8)) (fun S w=>rfl) fun w ht=>(Tryz.strings_IndexByte s c w).mono fun e w' ⟨he,hw⟩=>⟨he,hw▸Below.refl _ _⟩
theorem MQ(s:ByteArray)(hs:s.size≤1048576):UC Tryz.prog 198 [str s] fun r=>∃(c:Int) (n:Nat),n≤s.size∧n≤3∧r=.tup [.v (.int .u8 c),int n]:=by
 refine UC.body (c:=Tryz.f198.body.getD .skip) (fun _=>false) mixed Tryz.func198 rfl (by kernel_rfl) ?_;unfold Tryz.f198;simp only[Option.getD_some];simp only[go_sem];rw[eT];refine aA (fun hb=>?_) (fun hb=>?_)
 ·simp only[go_sem];exact⟨_,⟨0,0,Nat.zero_le _,Nat.zero_le _,rfl⟩,.refl _⟩
 have hp:1≤s.size:=by
  have:¬(s.size:Int)<1:=by simpa using hb
  omega
 simp only[go_sem];refine⟨by omega,aA (fun h34=>?_) (fun _=>?_)⟩
 ·simp only[go_sem];refine aA (fun _=>?_) (fun h=>absurd (h34.symm.trans h) (by decide));simp only[go_sem];exact⟨by omega,_,⟨_,1,hp,by omega,rfl⟩,.refl _⟩
 simp only[go_sem];refine aA (fun _=>?_) (fun _=>?_)
 ·simp only[go_sem];exact⟨by omega,_,⟨_,1,hp,by omega,rfl⟩,.refl _⟩
 simp only[go_sem];refine aA (fun _=>?_) (fun _=>?_)
 ·simp only[go_sem];exact⟨_,⟨_,1,hp,by omega,rfl⟩,.refl _⟩
 simp only[go_sem];refine aA (fun _=>?_) (fun _=>?_)
 ·simp only[go_sem];refine aA (fun _=>?_) (fun hl=>?_)
  ·simp only[go_sem];exact⟨_,⟨_,0,by omega,by omega,rfl⟩,.refl _⟩
  have h3:3≤s.size:=by
   have:¬(s.size:Int)<3:=by simpa using hl
   omega
  simp only[go_sem];refine lK (by rfl) (by kernel_rfl) ?_;simp only[go_sem];refine⟨⟨by omega,by omega⟩,_,(HL _ _).q rfl,?_⟩;generalize Lib.indexByte _ _=a;simp only[go_sem];refine⟨⟨by omega,by omega⟩,_,(HL _ _).q rfl,?_⟩;generalize Lib.indexByte _ _=b;simp only[go_sem];refine⟨by omega,aA (fun _=>?_) (fun _=>?_)⟩
  ·simp only[go_sem];exact⟨_,⟨_,0,by omega,by omega,rfl⟩,.refl _⟩
  ·simp only[go_sem];exact⟨_,⟨_,3,h3,by omega,rfl⟩,.refl _⟩
 ·simp only[go_sem];exact⟨_,⟨_,0,by omega,by omega,rfl⟩,.refl _⟩
abbrev Gp(l:List Int):Row:=⟨5,1,l.map fun c=>[.v (.int .u8 c)]⟩
theorem vM:∀l:List Int,mK (l.map fun c=>[AV.v (.int .u8 c)])=some l
 | []=>rfl
 | c::l=>by simp[mK,vM l]
theorem Ms(s:ByteArray)(hs:s.size≤1048576):UC Tryz.prog 143 [str s] fun r=>∃(t:ByteArray) (e:Int),r=.tup [str t,int e]:=by
 refine UC.body (c:=Tryz.f143.body.getD .skip) (fun t=>t == 32||t == 72) mixed Tryz.func143 rfl (by kernel_rfl) ?_;unfold Tryz.f143;simp only[Option.getD_some];simp only[go_sem];refine⟨fun h=>?_,fun h=>?_,aA (fun _=>?_) (fun hb=>?_)⟩
 ·have:¬(s.size:Int)<2:=by simpa using h
  omega
 ·have h2 : ¬ (s.size : Int) < 2 := by intro h2;rw[decide_eq_true h2,Bool.true_or]at h;cases h
  rw[lW (show s.size≤4611686018427387904 by omega)];omega
 ·simp only[go_sem];exact⟨_,⟨_,_,rfl⟩,.refl _⟩
 have h2:2≤s.size:=by
  refine Nat.le_of_not_lt fun h2=>?_
  rw[decide_eq_true (by omega:(s.size:Int)<2),Bool.true_or,Bool.true_or]at hb;cases hb
 rw[lW (show s.size≤4611686018427387904 by omega)]at hb;simp only[go_sem];rw[lW (show s.size≤4611686018427387904 by omega)];have hts:(s.extract 1 ((s.size:Int)-1).toNat).size≤1048576:=by
  have:(s.extract 1 ((s.size:Int)-1).toNat).size≤s.size:=by simp;omega
  omega
 refine⟨⟨by omega,by omega,by omega⟩,⟨⟨by omega,by omega⟩,by omega⟩,?_⟩;generalize s.extract 1 ((s.size:Int)-1).toNat=t at hts ⊢;clear hb h2 hs;refine cN fun i hi0=>?_
 simp only[go_sem];refine⟨fun ρ H=>∃(k i:Nat) (l:List Int),k≤t.size∧l.length≤k∧ρ 0=str t∧ρ 4=.os i∧ρ 5=int k∧H i=some (Gp l),fun ρ _=>t.size-bO (ρ 5),⟨0,i,[],Nat.zero_le _,Nat.zero_le _,by simp only[go_sem],by simp only[go_sem],by simp only[go_sem];rfl,aD _ _ _⟩,?_⟩;rintro ρ H ⟨k,i,l,hk,hl,e0,e4,e5,Ri⟩;simp only[go_sem,e0,e4,e5];refine aA (fun hlt=>?_) (fun hge=>?_)
 ·have hlt:=bD hlt;have b1:=inB hlt;simp only[go_sem,e0,e4,e5,b1];refine aA (fun _=>?_) (fun _=>?_)
  ·simp only[go_sem];exact⟨_,⟨_,_,rfl⟩,.refl _⟩
  simp only[go_sem,e0,e4,e5];refine eR (fun ρ' H'=>∃(k':Nat) (c:Int),k≤k'∧k'<t.size∧ρ' 0=str t∧ρ' 4=.os i∧ρ' 5=int k'∧ρ' 6=.v (.int .u8 c)∧H'=H) (fun ρ' H' h=>?_) fun Q' hQ' _ hRet=>?_
  ·obtain⟨k',c,hk1,hk2,e0,e4,e5,e6,rfl⟩:=h;simp only[go_sem,e0,e4,e5,e6];refine aP Ri ⟨rfl,rfl⟩ (by simp only[go_sem]) (by simp only[List.length_map,List.length_cons,List.length_nil];omega) fun j' hj'=>?_
   simp only[go_sem,e0,e4,e5,e6,cH k'];exact⟨⟨k'+1,j',l++[c],by omega,by simp only[List.length_append,List.length_cons,List.length_nil];omega,rfl,rfl,by rw[aD];simp[Gp]⟩,by simp only[aE];omega⟩
  ·refine aA (fun _=>?_) (fun _=>?_)
   ·simp only[go_sem,e0,e4,e5,cH k];have hx:(t.extract (k+1) t.size).size≤1048576:=by simp;omega
    refine⟨⟨by omega,by omega⟩,(MQ _ hx).use ?_⟩;rintro _ ⟨c,n,hn,hn3,rfl⟩;have hn2:n≤t.size-(k+1):=by simpa using hn
    simp only[go_sem,e0,e4,e5];refine aA (fun _=>?_) (fun hn0=>?_)
    ·simp only[go_sem];refine hRet _ _ ?_;simp only[go_sem];exact⟨_,⟨_,_,rfl⟩,.refl _⟩
    have hn0:n≠0:=fun e=>by rw[e]at hn0;exact absurd hn0 (by decide)
    simp only[go_sem,e0,e4,e5];refine hQ' _ _ ⟨k+n,c,by omega,by omega,by simp only[go_sem,e0],by simp only[go_sem,e4],?_,by simp only[go_sem],rfl⟩;simp only[go_sem];rw[dI (by omega)];rfl
   ·simp only[go_sem,e0,e4,e5];exact hQ' _ _ ⟨k,_,Nat.le_refl _,hlt,by simp only[go_sem,e0],by simp only[go_sem,e4],by simp only[go_sem,e5],by simp only[go_sem];rfl,rfl⟩
 ·simp only[go_sem,e0,e4,e5,Ri];refine Ee (by simp only[go_sem,e4]) Ri fun Hr _ _=>?_
  simp only[go_sem];rw[vM];exact⟨_,⟨_,_,rfl⟩,.refl _⟩
end Go.Proofs.YthbiheckeoknlaaGreatDoor.Sp
end
namespace Go.Proofs.YthbiheckeoknlaaGreatDoor
namespace Sp
open Go.Proofs.Tryz
open Go.Aw Go.Aw.D Go.Proofs Ty
open Go.Proofs.YthbiheckeoknlaaGreatDoor (cP fG)
open Go.Proofs.YthbiheckeoknlaaGreatDoor.Nw
open Go.Proofs.YthbiheckeoknlaaGreatDoor.Sk
open Go.Proofs.YthbiheckeoknlaaGreatDoor.Sc
open Go.RowKit (Below)
def xS(p:ByteArray):Bool:= !decide (p.size=0)&&(((p.data.getD 0 0).toNat:Int) == 34)
def hJ(p:ByteArray):Bool:=aW p||xS p
theorem O3{s:ByteArray}{n:Nat}(h:0<n)(hn:n≤s.size):(s.extract 0 n).data.getD 0 0=s.data.getD 0 0:=by
 have h2:0<min n s.size:=by omega
 have h3:0<s.data.size:=Nat.lt_of_lt_of_le h hn;simp[Array.getD_eq_getD_getElem?,Array.getElem?_extract,h2,h];rw[Array.getElem?_eq_getElem h3];rfl
theorem wJ{s:ByteArray}{n:Nat}(hn:n≤s.size):(s.extract 0 n).size=n:=by simp;omega
theorem Sz(s:ByteArray)(hs:s.size≤1048576):UC prog 79 [str s] fun r=>∃n:Nat,n≤s.size∧(0<n→hJ (s.extract 0 n)=true)∧r=int n:=by
 refine UC.body (c:=f79.body.getD .skip) (fun _=>false) mixed func79 rfl (by kernel_rfl) ?_;unfold f79;simp only[Xai];simp only[go_sem];rw[eT];refine⟨fun h=>?_,aA (fun hb=>?_) (fun _=>?_)⟩
 ·have:¬(s.size:Int)<1:=by simpa using h
  omega
 ·rw[Xag]at hb;have hp:0<s.size:=by
   have:¬(s.size:Int)<1:=by simpa using hb.1
   omega
  simp only[go_sem];refine(Oq s hs).use ?_;rintro _ ⟨n,hn,rfl⟩;simp only[go_sem];refine⟨⟨by omega,by omega⟩,(Ms _ (by simp;omega)).use ?_⟩;rintro _ ⟨t,e,rfl⟩;simp only[go_sem];refine aA (fun _=>?_) (fun _=>?_)
  ·simp only[go_sem];exact⟨_,⟨0,Xad _,fun h=>absurd h (by decide),rfl⟩,.refl _⟩
  ·simp only[go_sem];refine⟨_,⟨n,hn,fun h=>?_,rfl⟩,.refl _⟩;unfold hJ xS;rw[show(s.extract 0 n).data.getD 0 0=s.data.getD 0 0 from O3 h hn,hb.2];rw[wJ hn,decide_eq_false (by omega)];simp
 simp only[go_sem];refine bB (L4 s) ?_;generalize hx:Lib.indexByte s.data.toList 32=x;have hi:x<0∨∃n:Nat,n≤s.size∧x=n:=by
  by_cases h:x<0
  ·exact .inl h
  ·obtain⟨o,rfl⟩:=Int.eq_ofNat_of_zero_le (Int.not_lt.1 h);have:=(Lib.indexByte_some hx).1;have:=(List.getElem?_eq_some_iff.1 this).1;exact .inr ⟨o,by have:s.data.toList.length=s.size:=bY s;omega,rfl⟩
 simp only[go_sem];refine eR (fun ρ' H'=>∃n:Nat,n≤s.size∧ρ' 0=str s∧ρ' 6=int n) (fun ρ' H' h=>?_) fun Q' hQ' _ _=>aA (fun _=>?_) (fun hb=>?_)
 ·obtain⟨n,hn,e0,e6⟩:=h;simp only[go_sem,e0,e6];refine⟨⟨by omega,by omega⟩,PC.use (JB _ (by rw[wJ hn];omega)) ?_⟩;simp only[go_sem,e0,e6];refine aA (fun _=>?_) (fun hb=>?_)
  ·simp only[go_sem];exact⟨_,⟨0,Xad _,fun h=>absurd h (by decide),rfl⟩,.refl _⟩
  ·simp only[go_sem,e0,e6];refine⟨_,⟨n,hn,fun _=>?_,rfl⟩,.refl _⟩;unfold hJ;have:aW (s.extract 0 n)=true:=by simpa using hb
   rw[this,Bool.true_or]
 ·simp only[go_sem];exact hQ' _ _ ⟨s.size,Xae _,by simp only[go_sem],by simp only[go_sem]⟩
 ·rcases hi with hi|⟨n,hn,rfl⟩
  ·rw[decide_eq_true hi]at hb;cases hb
  ·simp only[go_sem];exact hQ' _ _ ⟨n,hn,by simp only[go_sem],by simp only[go_sem]⟩
theorem AX(s a b:ByteArray):∀l:List ByteArray,cS s (l++[a++(s++b)])=cS s (l++[a,b])
 | []=>by simp only[Xaz,bS,cY,dP]
 | x::l=>by rw[Xav,Xav,bS,bS,AX s a b l]
theorem uV(s a b:ByteArray)(l:List ByteArray):aG s (l++[a++(s++b)])=aG s (l++[a,b]):=by
 cases l with
 | nil=>simp only[Xaz,aZ,bS,cY,dP]
 | cons x l=>rw[Xav,Xav,aZ,aZ,AX]
theorem eY(s:ByteArray)(a b:Nat):bs (s.extract a b)=((bs s).drop a).take (b-a):=by simp[bs,ByteArray.data_extract,Array.toList_extract,List.extract]
theorem R9{t:ByteArray}{n:Nat}(h:t.data.getD n 0=32):t=t.extract 0 n++(spB++t.extract (n+1) t.size):=by
 have hn2:n<t.data.size:=by
  refine Nat.lt_of_not_le fun h2=>?_
  rw[Array.getD_eq_getD_getElem?,Array.getElem?_eq_none h2]at h;cases h
 rw[Array.getD_eq_getD_getElem?,Array.getElem?_eq_getElem hn2,Xai]at h;refine gD ?_;have hl:n<(bs t).length:=by rw[bY];exact hn2
 rw[dJ,dJ,eY,eY,List.drop_zero,Nat.sub_zero,show((bs t).drop (n+1)).take (t.size-(n+1))=(bs t).drop (n+1)from Xaj (by rw[List.length_drop,bY];exact Xae _),show bs spB=[32]from rfl];have hd:(bs t).drop n=32::(bs t).drop (n+1):=by
  rw[List.drop_eq_getElem_cons hl]
  congr 1
 rw[List.singleton_append,←hd,List.take_append_drop]
def Ov(s:ByteArray)(r:AV):Prop:=∃(l:List ByteArray) (e:Int),(e=0→s=aG spB l∧∀p∈l,hJ p=true)∧r=.tup [.sl (l.map D.bE),int e]
theorem Rc(s:ByteArray)(hs:s.size≤1048576):UC prog 37 [str s] (Ov s):=by
 refine UC.body (c:=f37.body.getD .skip) (fun t=>t == 4) mixed func37 rfl (by kernel_rfl) ?_;unfold f37;simp only[Xai];simp only[go_sem];refine aL fun i HGi hi0 (Ri:HGi i=some (⟨9,1,[]⟩)) N=>?_
 clear N hi0;simp only[go_sem,Ri];refine⟨fun ρ H=>∃(l:List ByteArray) (i:Nat) (t:ByteArray),ρ 0=str t∧ρ 4=.os i∧H i=some (cA l)∧l.length+t.size≤1048576∧(∀p∈l,hJ p=true)∧s=aG spB (l++[t])∧(t.size=0→l=[]),fun ρ _=>Sk.sz0 (ρ 0),⟨[],i,s,rfl,rfl,Ri,by simpa using hs,by simp,(vA s).symm,fun _=>rfl⟩,?_⟩;rintro ρ H ⟨l,i,t,e0,e4,Ri,hz,hp,hj,h0⟩;simp only[go_sem,e0,e4];rw[eT];have e3:∀H',∃r,Ov s r∧Conv H' (.tup [.sl [],int 3]) r:=fun H'=>⟨_,⟨[],3,fun h=>absurd h (by decide),rfl⟩,.refl _⟩
 refine aA (fun hb=>?_) (fun hb=>?_)
 ·have ht : 0 < t.size := by
   have:¬(t.size:Int)<1:=by simpa using hb
   omega
  simp only[go_sem,e0,e4];refine(Sz t (by omega)).use ?_;rintro _ ⟨n,hn,hpn,rfl⟩;simp only[go_sem,e0,e4];refine aA (fun hb=>?_) (fun hb=>?_)
  ·simp only[go_sem];exact e3 _
  have hn0:0<n:=Nat.pos_of_ne_zero fun e=>by rw[e]at hb;exact absurd hb (by decide)
  have hpn:=hpn hn0;simp only[go_sem,e0,e4];refine aA (fun hb=>?_) (fun hb=>?_)
  ·have hnt : n = t.size := by have:=eq_of_beq hb;omega
   subst hnt;rw[show t.extract 0 t.size=t by simp]at hpn;simp only[go_sem,e0,e4,Ri];refine aP Ri ⟨rfl,rfl⟩ (by simp only[go_sem]) (by simp only[Xab,Xaa,List.length_nil];omega) fun j' hj'=>?_
   simp only[go_sem];refine⟨_,⟨l++[t],0,fun _=>⟨hj,fun p hp2=>?_⟩,rfl⟩,.tup _ _ (.cons _ _ _ _ (.row _ _ _ (aD _ _ _) ?_) (.cons _ _ _ _ (.refl _) .nil))⟩
   ·rcases Xap.1 hp2 with h|h
    ·exact hp p h
    ·rw[Xbb.1 h];exact hpn
   ·rw[Xal];exact ConvE.refl _
  have hnt:n<t.size:=by
   have:n≠t.size:=fun e=>by rw[e]at hb;simp at hb
   omega
  simp only[go_sem,e0,e4];refine⟨⟨by omega,by omega⟩,aA (fun hb=>?_) (fun hb=>?_)⟩
  ·simp only[go_sem];exact e3 _
  rw[cH n,Xaq]at hb;have h32:t.data.getD n 0=32:=UInt8.toNat_inj.1 (by
   have:((t.data.getD n 0).toNat:Int)=32:=by simpa using hb.1
   have h2:(32:UInt8).toNat=32:=rfl;omega)
  have hn1:n+1<t.size:=by
   have:¬n+1=t.size:=fun e=>by rw[e]at hb;simp at hb
   omega
  have hcut:=R9 h32;simp only[go_sem,e0,e4];refine⟨⟨by omega,by omega⟩,aP Ri ⟨rfl,rfl⟩ (by simp only[go_sem]) (by simp only[Xab,Xaa,List.length_nil];omega) fun j' hj'=>?_⟩;simp only[go_sem,e0,e4,cH n];have hx:(t.extract (n+1) t.size).size=t.size-(n+1):=by simp
  refine⟨⟨by omega,by omega⟩,⟨l++[t.extract 0 n],j',t.extract (n+1) t.size,rfl,rfl,?_,?_,fun p hp2=>?_,?_,fun h=>absurd h (by omega)⟩,?_⟩
  ·rw[aD,cA,Xal];rfl
  ·simp only[Xac,Xaa,List.length_nil];omega
  ·rcases Xap.1 hp2 with h|h
   ·exact hp p h
   ·rw[Xbb.1 h];exact hpn
  ·rw[Xar,List.singleton_append,←uV,←hcut];exact hj
  ·simp only[Sk.sz0];omega
 ·have ht : t.size = 0 := by
   have:(t.size:Int)<1:=by simpa using hb
   omega
  have hl:=h0 ht;subst hl;simp only[go_sem,e0,e4];refine⟨_,⟨[],0,fun _=>⟨?_,by simp⟩,rfl⟩,.tup _ _ (.cons _ _ _ _ (.row _ _ _ Ri (ConvE.refl _)) (.cons _ _ _ _ (.refl _) .nil))⟩;rw[hj,Xaz,vA];exact gD (Xbh (by rw[bY,ht]))
end Sp
namespace Sk
open Go.Proofs.Tryz
open Go Go.Aw Go.Aw.D Go.Proofs
theorem EA(x:AV)(H:aC):DC prog 62 [x] H:=by
 intro S w vals hS ha;simp only[aV]at ha;obtain⟨u,t,rfl,hx,rfl⟩:=ha;have hta:∀t,(Instr.typeAssert Value.nilIface t 127 true).run prog w=.ok (.tuple #[.agg #[],.bool false]) w:=fun t=>by rfl
 refine callsD_of_wpS func62 rfl fun c₀ cs hu=>?_
 apply wpS_seq;apply wpS_region;simp[wpOpsS,go_sem,recoverD,hu,Exit.thenS,hta];apply wpS_seq;apply wpS_region;simp[wpOpsS,go_sem,recoverD,hu,Exit.thenS];refine wpS_cond (t:=false) (by simp[Act.eval]) ?_;simp only[Xbj,if_false];refine wpS_of_wp (wp_skip ?_);obtain⟨n1,n2⟩:=hS.newRo (o:=Obj.cells #[] 127) (w':=w.alloc (Obj.cells #[] 127)) rfl rfl rfl rfl;cases c₀;simp_all [bodyPostS,results];exact⟨_,n1,n2,dO.refl _ _⟩
end Sk
namespace Sk
open Go.Proofs.Tryz
open Go.Aw Go.Aw.D Go.Proofs Ty
open Go.Proofs.YthbiheckeoknlaaGreatDoor (cP)
open Go.Proofs.YthbiheckeoknlaaGreatDoor.Nw
open Go.Proofs.YthbiheckeoknlaaGreatDoor.Sc
open Go.RowKit (Below)
abbrev jU(l:List ByteArray):Row:=⟨131,1,[[.sl (l.map D.bE)]]⟩
theorem PX{w:ByteArray}(h:aW w=true):Lib.hasPrefix w.data.toList [34]=false:=by
 obtain⟨s⟩:=w;have hp:=iL h;unfold aW at h;simp only[Xag]at h;have h0:=Xax.1 h.1 0 (List.mem_range.2 hp);cases hs:s.toList with
 | nil=>rfl
 | cons c r=>
  have hc:c≠34:=fun e=>by
   have e0:cP ⟨s⟩ 0=34:=by unfold cP;rw[Array.getD_eq_getD_getElem?,←Array.getElem?_toList,hs,e];rfl
   rw[e0]at h0;exact absurd h0 (by decide)
  have:((34:UInt8) == c)=false:=by simpa using fun e=>hc e.symm
  show(((34:UInt8) == c)&&_)=false;rw[this,Bool.false_and]
theorem Qz(w:ByteArray):PC prog 25 [str w,str ⟨#[34]⟩] (boo (Lib.hasPrefix w.data.toList [34])):=by refine PC.lib (a:=[.string w,.string ⟨#[34]⟩]) (v:=.bool (Lib.hasPrefix w.data.toList [34])) (fun S w=>rfl) fun u ht=>(Tryz.strings_HasPrefix w ⟨#[34]⟩ u).mono fun e w' ⟨he,hw⟩=>⟨he,hw▸Below.refl _ _⟩
end Sk
namespace Sk
open Go.Proofs.Tryz
open Go.Aw Go.Aw.D Go.Proofs Ty
open Go.Proofs.YthbiheckeoknlaaGreatDoor.Nw
open Go.Proofs.YthbiheckeoknlaaGreatDoor.Sc
open Go.RowKit (Below)
theorem Mb{S:Sg}{w:World}{g:Nat}:∀(xs:List ByteArray) (o:Nat),(∀i x,xs[i]?=some x→w.cell? ⟨g,o+i,none⟩=some (.string x))→fV S w g 1 o (xs.map D.bE)
 | [],_,_=>by simp[fV]
 | x::xs,o,h=>by simp only[Xak,fV];refine⟨rfl,?_,Mb xs (o+1) fun i y hy=>by have:=h (i+1) y (by simpa using hy);rw[show o+1+i=o+(i+1)by omega];exact this⟩;simp only[D.bE,cR];exact⟨⟨_,by have:=h 0 x rfl;simpa using this,rfl,by simp[rep]⟩,trivial⟩
theorem LR{c:UInt8}{ps:List ByteArray}(hn:ps≠[])(h:∀p∈ps,c∉p.data.toList)(hs:(aG ⟨#[c]⟩ ps).size≤1048576):PC prog 122 [str (aG ⟨#[c]⟩ ps),str ⟨#[c]⟩] (.sl (ps.map D.bE)):=by
 intro S w vals hS hf ha;simp only[aV]at ha;obtain⟨u,t,rfl,h1,u2,t2,rfl,h2,rfl⟩:=ha;simp only[rep]at h1 h2;subst h1 h2;obtain⟨m,hm⟩:=Jr fun t ht=>(hS.tabs t ht).2
 have hsp:=lV ps hn h;have hlen:=Lib.splitB_all ⟨#[c]⟩ (Xae 1) 0 _ (aG ⟨#[c]⟩ ps) rfl;have hcl:=Lib.countB_le ⟨#[c]⟩ (Xae 1) _ (aG ⟨#[c]⟩ ps) (Xae _);refine(Tryz.strings_Split (aG ⟨#[c]⟩ ps) ⟨#[c]⟩ m w (by omega) hm (Xae 1)).mono ?_;rintro e w' ⟨rfl,rfl⟩;rw[hsp]at hlen ⊢;obtain⟨n1,n2⟩:=hS.newRo (o:=Obj.cells (ps.map Value.string).toArray 9) (w':=w.alloc (Obj.cells (ps.map Value.string).toArray 9)) rfl rfl rfl rfl;refine⟨_,_,bV,_,rfl,rfl,n1,?_,n2,dO.refl _ _⟩;simp only[rep];refine⟨_,_,_,rfl,by rw[Xab,hlen],Xae _,by simp only[maxLen];omega,.inr ⟨w.heap.size,0,1,rfl,.inr rfl,by decide,Mb ps 0 fun i x hx=>?_⟩⟩;rw[cell_of_row (w.alloc (.cells (ps.map Value.string).toArray 9)) w.heap.size (0+i) (ps.map Value.string).toArray 9 (0,0) (heap_alloc_new w _)];simp[hx]
theorem Hx{c:UInt8}(h:Nx c)(e:c=46):False:=by
 subst e;rcases h with h|h
 ·exact absurd h (by decide)
 ·exact absurd h (by decide)
section
variable{H:aC}{K:AV→aC→Prop}{b:Nat}{r:List ByteArray}
theorem EE{l:List Int}{s:ByteArray}(hl:l≠[]):((aG s (l.map aH)).toList == (⟨#[46]⟩:ByteArray).toList)=false:=by
 cases l with
 | nil=>exact absurd rfl hl
 | cons a l=>
  rw[beq_eq_false_iff_ne];intro e;rw[Lib.toList_data,Lib.toList_data]at e;have e:bs (aG s (aH a::l.map aH))=[46]:=e;rw[aZ,dJ]at e;cases h:bs (aH a)with
  | nil=>exact wI a h
  | cons c r=>rw[h]at e;simp only[Xav,List.cons.injEq]at e;have:=nR a c (by rw[h];simp);exact Hx this e.1
end
end Sk
end Go.Proofs.YthbiheckeoknlaaGreatDoor
section
namespace Go.Aw
open Go.RowKit
section
variable{P:Program}{f:FuncId}{args:List AV}{H H1:aC}{K:AV→aC→Prop}{r:AV}
def Sup(H H':aC):Prop:=∀k row,H k=some row→H' k=some row
def Qm(H:aC)(r:AV)(a:AV)(H':aC):Prop:=Sup H H'∧∃l:List Nat,(∀k,k∈l→H k=none)∧Conv (fun k=>if k∈l then H' k else none) a r
theorem Sup.upd{H H':aC}(h:Sup H H'){i:Nat}(hi:H i=none)(a:Option Row):Sup H (bG H' i a):=fun k row hk=>by rw[aK _ _ _ _ (fun e=>by subst e;rw[hi]at hk;cases hk)];exact h k row hk
theorem Sup.none{H H':aC}(h:Sup H H'){i:Nat}(hi:H' i=none):H i=none:=by
 cases e:H i with
 | none=>rfl
 | some row=>rw[h i row e]at hi;cases hi
theorem Qm.flat{H H':aC}(h:Sup H H')(r:AV):Qm H r r H':=⟨h,[],by simp,.refl r⟩
theorem Ji{H:aC}{j:Nat}{a:Option Row}{b:Row}(h:H j=some b):∀k,H k=none→bG H j a k=none:=fun k hk=>by
 by_cases e:k=j
 ·subst e;rw[h]at hk;cases hk
 ·rw[aK _ _ _ _ e,hk]
theorem tG{P:Program}{C:jC}{PC:FuncId→List AV→aC→AV→Prop}{mt:Nat→Bool}{ops:List Oper}{K:Env→aC→Prop}{m:Nat}{ρ:Env}{H:aC}(l:List Nat)(t:Mx)(J:Env→aC→Prop)(hl:∀k,k∈l→(H k).isSome=true)(hB:zJ ops.toArray t=true)
 (h:∀K':Env→aC→Prop,(∀ρ' H',J ρ' H'→K' ρ' H')→∀Hp Hr:aC,(∀k,k∈l→Hp k=H k)→(∀k,k∉l→Hr k=H k)→(∀k,k∉l→Hp k=none)→(∀k,k∈l→Hr k=none)→jM P C PC mt ops.toArray (oQ l H K') Hp t ρ Hr)
 (hK:∀ρ' H',J ρ' H'→K ρ' H'):rY P C PC mt ops.toArray K m ρ H:=lO l t hl hB (h K hK)
end
end Go.Aw
namespace Go.Proofs.YthbiheckeoknlaaGreatDoor.Sk
open Go.Aw Go.Aw.D Go.Proofs Ty
open Go.Proofs.YthbiheckeoknlaaGreatDoor.Nw
open Go.Proofs.YthbiheckeoknlaaGreatDoor.Sc
def Fr(b:Nat)(H H':aC):Prop:=∀k row,k≠b→H k=some row→H' k=some row
section
variable{b:Nat}{H H' G:aC}
theorem Fr.none{i:Nat}{x:Row}(F:Fr b H G)(hb:G b=some x)(hi:G i=none):H i=none:=by
 cases e:H i with
 | none=>rfl
 | some row=>
  have hne:i≠b:=fun e=>by rw[e,hb]at hi;cases hi
  rw[F _ _ hne e]at hi;cases hi
theorem Fr.trans(F:Fr b H H')(F':Fr b H' G):Fr b H G:=fun _ _ hk h=>F' _ _ hk (F _ _ hk h)
theorem Fr.new{i:Nat}(F:Fr b H H')(N:∀{j a},H' j=some a→j≠i∧G j=some a):Fr b H G:=fun _ _ hk h=>(N (F _ _ hk h)).2
theorem Fr.put{j:Nat}(F:Fr b H H')(hj:H j=.none)(F':Fr j H' G):Fr b H G:=fun _ _ hk h=>F' _ _ (fun e=>by rw[e,hj]at h;cases h) (F _ _ hk h)
theorem bU{P:Program}{t:TypeId}{d:Option Tmp}{j i f:Nat}{cs:List AV}{ρ:Env}{K:Env→aC→Prop}{r:Row}(ht:∃i,P.info? t=some i∧i.size=1)(hj:H j=some r)(h1:i<r.es.length∧cs.length=1∧f+cs.length≤r.sz)
  (h:∀G:aC,G j=some { r with es:=r.es.set i (oO (r.es.getD i []) f cs) }→Fr j H G→K (upd ρ d .any) G):xG P t none d j i f cs ρ H K:=
 Ao ht hj h1 (h _ (aD _ _ _) fun _ _ hk hr=>(aK _ _ _ _ hk).trans hr)
theorem bF{P:Program}{t:TypeId}{m:Nat}{d:Option Tmp}{j i f:Nat}{cs:List AV}{ρ:Env}{K:Env→aC→Prop}{r:Row}(hj:H j=some r)(h1:i<r.es.length∧cs.length=m∧f+cs.length≤r.sz)
  (h:∀G:aC,G j=some { r with es:=r.es.set i (oO (r.es.getD i []) f cs) }→Fr j H G→K (upd ρ d .any) G):xG P t (some m) d j i f cs ρ H K:=
 fD hj h1 (h _ (aD _ _ _) fun _ _ hk hr=>(aK _ _ _ _ hk).trans hr)
theorem mH{e:TypeId×Nat×Nat}{d:Option Tmp}{j:Nat}{news:List (List AV)}{ρ:Env}{K:Env→aC→Prop}{r:Row}(hj:H j=some r)
  (h1:r.e=e.1∧r.sz=e.2.1) (h2:dF e.2.1 news) (h3:(r.es.length+news.length)*e.2.2≤140737488355328)
  (h:∀(j':Nat) (G:aC),G j'=some ⟨e.1,e.2.1,r.es++news⟩→(∀k row,k≠j→H k=some row→k≠j'∧G k=some row)→K (upd ρ d (.os j')) G):wX e d j (.sl news) ρ H K:=
 aP hj h1 h2 h3 fun j' hj'=>h j' _ (aD _ _ _) fun k row hk hr=>by
  have hn:k≠j':=fun e=>by rw[e,hj']at hr;cases hr
  exact⟨hn,by rw[aK _ _ _ _ hn,aK _ _ _ _ hk];exact hr⟩
variable{r:List ByteArray}
end
end Go.Proofs.YthbiheckeoknlaaGreatDoor.Sk
end
section
set_option linter.unusedSectionVars false
namespace Go.Proofs.YthbiheckeoknlaaGreatDoor.Sp
open Go.Proofs.Tryz
open Go Go.Aw Go.Aw.D Go.Proofs
open Go.Proofs.YthbiheckeoknlaaGreatDoor Go.Proofs.YthbiheckeoknlaaGreatDoor.Sk Ty
def nO:Value:=.iface 127 (.agg #[])
theorem qL{Z:aC→Prop}{H:aC}{R:AV→aC→Prop}(h:Z H):cQ prog nO Z 68 [] H R:=by intro S w vals hS ha;simp only[aV]at ha;subst ha;refine calls_of_wp func68 rfl ?_;apply wp_region;simp[wpOps,go_sem,bodyPost];refine .inl (.inl (.inl ?_));show([]:List Deferred)=[]∧(FQ S w H R (.panicked [{ v:=nO,recovered:=false }]) w∨NT nO Z S w H (.panicked [{ v:=nO,recovered:=false }]) w);exact⟨rfl,.inr ⟨H,S,rfl,h,hS,Grow.refl S w,dO.refl _ _⟩⟩
theorem QA{p:Nat}{H:aC}(P:H p=some ⟨3,1,[[int 0]]⟩):DP prog 62 [.op p 0 0] nO H fun H2=>H2 p=some ⟨3,1,[[int 0]]⟩∧Fr p H H2:=by
 intro S w vals hS ha;have ha0:=ha;simp only[aV]at ha;obtain⟨u,t,rfl,hx,rfl⟩:=ha;have hta:∀t,(Instr.typeAssert nO t 127 true).run prog w=.ok (.tuple #[.agg #[],.bool true]) w:=fun t=>by rfl
 refine callsD_of_wpS func62 rfl fun c₀ cs hu=>?_
 apply wpS_seq;apply wpS_region;simp[wpOpsS,go_sem,recoverD,hu,Exit.thenS,hta];apply wpS_seq;apply wpS_region;simp[wpOpsS,go_sem,recoverD,hu,Exit.thenS];refine wpS_cond (t:=true) (by simp[Act.eval]) ?_;simp only[if_true];obtain⟨n1,n2⟩:=hS.newRo (o:=Obj.cells #[] 127) (w':=w.alloc (Obj.cells #[] 127)) rfl rfl rfl rfl;refine wpS_of_wp (wp_mono (@gV ⟨9⟩ ([],undef) prog undef (fun _=>False) 9 S w H (fun _=>false) mixed _ (fun e _ H2=>e=.normal∧H2 p=some ⟨3,1,[[int 0]]⟩∧Fr p H H2) (upd (fun _=>.any) (some 0) (.op p 0 0)) H _ _ (by kernel_rfl) ?_ ⟨_,n1,fun t ht=>?_,n2,dO.refl _ _,⟨rfl,?_⟩,?_⟩) ?_)
 ·simp only[go_sem];exact bU so3 P ⟨Nat.zero_lt_one,rfl,Nat.le_of_ble_eq_true rfl⟩ fun G P2 F2=>⟨P2,F2⟩
 ·by_cases e:t=0
  ·subst e;simp only[upd,go_sem];exact gB n2.le (n2.kept hS) _ _ hx
  ·rw[show upd (fun _=>AV.any) (some 0) (AV.op p 0 0) t=.any by simp[upd,e]];simp only[rep]
 ·rfl
 ·simp
 intro e a' w' hq;cases e <;> simp only[FK]at hq
 case normal=>obtain⟨ρ,H2,⟨_,h2⟩,S2,hS2,hF2,hG2,hN2,⟨hd2,_⟩,_⟩:=hq;simp[bodyPostS,results];exact⟨hd2,S2,H2,h2,hS2,hG2,hN2⟩
 case exit=>obtain⟨_,_,⟨h,_⟩,_⟩:=hq;cases h
 case ret=>obtain⟨_,_,⟨h,_⟩,_⟩:=hq;cases h
 case panic=>obtain⟨_,_,_,_,h,_⟩:=hq;exact h.elim
end Go.Proofs.YthbiheckeoknlaaGreatDoor.Sp
end
namespace Go.Proofs.YthbiheckeoknlaaGreatDoor
namespace Sp
open Go.Proofs.Tryz
open Go.Aw Go.Aw.D Go.Proofs Ty
open Go.Proofs.YthbiheckeoknlaaGreatDoor (cP fG)
open Go.Proofs.YthbiheckeoknlaaGreatDoor.Nw
open Go.Proofs.YthbiheckeoknlaaGreatDoor.Sk
open Go.Proofs.YthbiheckeoknlaaGreatDoor.Sc
open Go.RowKit (Below)
def oE(s:ByteArray)(l:List ByteArray):Prop:=l≠[]∧(∀w∈l,aW w=true)∧s=aG spB l
theorem pF{w:ByteArray}(h:aW w=true):∀c∈bs w,okC (c.toNat:Int)=true:=by
 intro c hc;obtain⟨k,hk,rfl⟩:=List.mem_iff_getElem.1 hc;have hk2:k<w.data.size:=by simpa[bs]using hk
 unfold aW at h;rw[Xag]at h;have:=Xax.1 h.1 k (List.mem_range.2 hk2);unfold cP at this
 rwa [Array.getD_eq_getD_getElem?,Array.getElem?_eq_getElem hk2,Xai]at this
theorem wS{w:ByteArray}(h:aW w=true){c:UInt8}(hc:okC (c.toNat:Int)=false):c∉w.data.toList:=fun hm=>by rw[pF h c hm]at hc;cases hc
theorem Gb{s:ByteArray}{l m:List ByteArray}(h:oE s l)(h':oE s m):l=m:=by
 have e1:=lV (c:=32) l h.1 fun p hp=>wS (h.2.1 p hp) (by decide)
 have e2:=lV (c:=32) m h'.1 fun p hp=>wS (h'.2.1 p hp) (by decide)
 have:aG ⟨#[32]⟩ l=aG ⟨#[32]⟩ m:=h.2.2.symm.trans h'.2.2;rw[←e1,←e2,this]
theorem dD(s:ByteArray){w:ByteArray}:∀{l:List ByteArray},w∈l→w.size≤(cS s l).size
 | [],h=>by simp at h
 | a::r,h=>by
  rw[bS,ByteArray.size_append,ByteArray.size_append];rcases Xaf.1 h with rfl|h
  ·omega
  ·have:=dD s h;omega
theorem bW(s:ByteArray){w:ByteArray}:∀{l:List ByteArray},w∈l→w.size≤(aG s l).size
 | [],h=>by simp at h
 | a::r,h=>by
  rw[aZ,ByteArray.size_append];rcases Xaf.1 h with rfl|h
  ·omega
  ·have:=dD s h;omega
def FI(s:ByteArray)(l:List ByteArray)(e:Int):Prop:=(e=0→∀p∈l,hJ p=true)∧(∀ws,oE s ws→e=0∧l=ws)∧(e=0→l≠[]→(∀w∈l,aW w=true)→oE s l)∧(e=0→l.length≤s.size∧∀p∈l,p.size≤s.size)
theorem vV:∀l:List ByteArray,(∀p∈l,0<p.size)→l.length≤(aG spB l).size
 | [],_=>Xad _
 | [w],h=>by rw[vA];exact h w (by simp)
 | w::x::r,h=>by
  have:=vV (x::r) fun y hy=>h y (by simp[hy])
  rw[lQ];have h1:spB.size=1:=rfl;simp only[Xaa]at this ⊢;omega
theorem BW{p:ByteArray}(h:hJ p=true):0<p.size:=by
 unfold hJ xS at h;rcases Bool.or_eq_true_iff.1 h with h|h
 ·exact iL h
 ·rw[Xag]at h;have:¬p.size=0:=by simpa using h.1
  omega
theorem Ky{p:ByteArray}(h:hJ p=true)(hq:Lib.hasPrefix p.data.toList [34]=false):aW p=true:=by
 unfold hJ xS at h;rcases Bool.or_eq_true_iff.1 h with h|h
 ·exact h
 ·rw[Xag]at h;have h34:p.data.getD 0 0=34:=UInt8.toNat_inj.1 (by
   have:((p.data.getD 0 0).toNat:Int)=34:=by simpa using h.2
   have h2:(34:UInt8).toNat=34:=rfl;omega)
  rw[Array.getD_eq_getD_getElem?,←Array.getElem?_toList]at h34;cases hl:p.data.toList with
  | nil=>rw[hl]at h34;cases h34
  | cons c r=>rw[hl]at h34 hq;simp only[List.getElem?_cons_zero,Xai]at h34;subst h34;exact absurd hq (by simp[Lib.hasPrefix,List.isPrefixOf])
theorem Et(s:ByteArray)(hs:s.size≤1048576):UC prog 37 [str s] fun r=>∃(l:List ByteArray) (e:Int),FI s l e∧r=.tup [.sl (l.map D.bE),int e]:=by
 by_cases h:∃ws,oE s ws
 ·obtain⟨ws,h1,h2,rfl⟩:=h;have hl:ws.length≤1048576:=Xam (vV ws fun p hp=>iL (h2 p hp)) hs;refine(Am ws h1 h2 hs hl).u ⟨ws,0,⟨fun _ p hp=>by unfold hJ;rw[h2 p hp,Bool.true_or],fun m hm=>⟨rfl,Gb ⟨h1,h2,rfl⟩ hm⟩,fun _ _ _=>⟨h1,h2,rfl⟩,fun _=>⟨vV ws fun p hp=>iL (h2 p hp),fun p hp=>bW spB hp⟩⟩,rfl⟩
 ·refine(Rc s hs).mono ?_;rintro _ ⟨l,e,hq,rfl⟩;refine⟨l,e,⟨fun h0=>(hq h0).2,fun ws hw=>absurd ⟨ws,hw⟩ h,fun h0 h1 h2=>⟨h1,h2,(hq h0).1⟩,fun h0=>?_⟩,rfl⟩;obtain⟨h1,h2⟩:=hq h0;have:=vV l fun p hp=>BW (h2 p hp)
  rw[←h1]at this;exact⟨this,fun p hp=>by have:=bW spB hp;rwa [←h1]at this⟩
section
variable{H:aC}{K:AV→aC→Prop}{Z:aC→Prop}{b:Nat}
theorem Pk(s:ByteArray)(hs:s.size≤1048576)(h1:∀n,bH n→s=aH n→K (int n) H)(h0:(∀n,bH n→s≠aH n)→Z H):cQ prog nO Z 121 [str s] H K:=by
 obtain⟨n,e,hc,hq⟩:=vW s hs;refine cQ.body (c:=f121.body.getD .skip) (fun _=>false) mixed func121 rfl (by kernel_rfl) ?_;unfold f121;simp only[Xai];simp only[go_sem];refine(PC.use hc ?_).x;simp only[go_sem];refine aA (fun hb=>?_) (fun hb=>?_)
 ·simp only[go_sem];refine qL (h0 ?_);rcases hq with⟨rfl,_⟩|⟨_,hq⟩
  ·exact absurd hb (by decide)
  ·exact hq
 ·simp only[go_sem];rcases hq with⟨_,hn,rfl⟩|⟨hq,_⟩
  ·exact h1 n hn rfl
  ·exact absurd (by simpa using hb) hq
def RX{α:Type}(f:FuncId)(b:Nat)(H:aC)(S:α→List ByteArray→Prop)(enc:α→AV):Prop:=
 ∀(K:AV→aC→Prop) (Z:aC→Prop),(∀v r H',S v r→H' b=some (jU r)→Fr b H H'→K (enc v) H')→(∀H',(∀v r,¬S v r)→Fr b H H'→Z H')→cQ prog nO Z f [.op b 0 0] H K
theorem RX.use{α:Type}{f:FuncId}{S:α→List ByteArray→Prop}{enc:α→AV}(h:RX f b H S enc)(h1:∀v r H',S v r→H' b=some (jU r)→Fr b H H'→K (enc v) H')(h0:∀H',(∀v r,¬S v r)→Fr b H H'→Z H'):cQ prog nO Z f [.op b 0 0] H K:=h K Z h1 h0
theorem vP{l:List ByteArray}(hb:H b=some (jU l))(hp:∀p∈l,hJ p=true)(hl:l.length≤1048577):RX 63 b H (fun w r=>l=w::r∧aW w=true) str:=by
 intro K Z h1 h0;refine cQ.body (c:=f63.body.getD .skip) (fun _=>false) mixed func63 rfl (by kernel_rfl) ?_;unfold f63;simp only[Xai];simp only[go_sem,hb];cases l with
 | nil=>refine aA (fun _=>?_) (fun h=>absurd h (by decide));simp only[go_sem];exact qL (h0 H (fun v r h=>by cases h.1) fun _ _ _ h=>h)
 | cons w r=>
  simp only[Xaa]at hl;refine aA (fun h=>absurd (eq_of_beq h) (by simp only[Xab,Xaa];omega)) (fun _=>?_);simp only[go_sem,hb];refine⟨⟨by omega,by omega⟩,⟨⟨by omega,by omega⟩,?_⟩,?_⟩
  ·exact jA (f:=D.bE) (n:=1) (fun _=>rfl) _
  refine bU NE hb ⟨by simp,rfl,by simp⟩ fun G B F=>?_
  simp only[go_sem];refine(PC.use (Qz w) ?_).x;simp only[go_sem];refine aA (fun hq=>?_) (fun hq=>?_)
  ·simp only[go_sem];refine qL (h0 G (fun v r' h=>?_) F);obtain⟨h1,h2⟩:=h;injection h1 with h1;subst h1;rw[PX h2]at hq;cases hq
  ·simp only[go_sem];exact h1 w r G ⟨rfl,Ky (hp w (by simp)) hq⟩ B F
theorem SO{l:List ByteArray}(hb:H b=some (jU l))(hp:∀p∈l,hJ p=true)(hs:∀p∈l,p.size≤1048576)(hl:l.length≤1048577):RX 64 b H (fun n r=>l=aH n::r∧bH n) int:=by
 intro K Z h1 h0;refine cQ.body (c:=f64.body.getD .skip) (fun _=>false) mixed func64 rfl (by kernel_rfl) ?_;unfold f64;simp only[Xai];simp only[go_sem];refine(vP hb hp hl).use (fun w r G ⟨e,_⟩ B F=>?_) (fun G e F=>?_)
 ·subst e;simp only[go_sem];refine Pk w (hs w (by simp)) (fun n hn e=>?_) (fun e=>?_)
  ·subst e;simp only[go_sem];exact h1 n r G ⟨rfl,hn⟩ B F
  ·exact h0 G (fun v r' h => by obtain⟨h1,h2⟩:=h;injection h1 with h1;exact e v h2 h1) F
 ·exact h0 G (fun v r h=>e _ _ ⟨h.1,eI v⟩) F
end
end Sp
namespace Sp
theorem CX(v d:Nat)(hd:d<10):(-(v:Int)<Int.tdiv (-9223372036854775808+(d:Int)) 10)↔9223372036854775808<10*v+d:=by rw[show(-9223372036854775808+(d:Int))= -((9223372036854775808-d:Nat):Int)by omega,Int.neg_tdiv,show((10:Int))=((10:Nat):Int)from rfl,←Int.ofNat_tdiv];omega
theorem Pj(l m:List UInt8)(a:Nat):gR a (l++m)=gR (gR a l) m:=by unfold gR;rw[List.foldl_append]
theorem My{l:List UInt8}{k:Nat}{c:UInt8}(h:l[k]?=some c):gR 0 (l.take (k+1))=gR 0 (l.take k)*10+(c.toNat-48):=by rw[List.take_add_one,h];exact xR _ _ _
theorem Es(l:List UInt8)(k:Nat):gR 0 (l.take k)≤gR 0 l:=by have:=Pj (l.take k) (l.drop k) 0;rw[List.take_append_drop]at this;rw[this];exact Fp _ _
end Sp
namespace Sp
open Go.Proofs.Tryz
open Go.Aw Go.Aw.D Go.Proofs Ty
open Go.Proofs.YthbiheckeoknlaaGreatDoor (cP fG)
open Go.Proofs.YthbiheckeoknlaaGreatDoor.Nw
open Go.Proofs.YthbiheckeoknlaaGreatDoor.Sk
open Go.Proofs.YthbiheckeoknlaaGreatDoor.Sc (aH uB bH bT jB)
open Go.RowKit (Below)
theorem iR(s:ByteArray)(k:Nat):s.data.getD k 0=(bs s).getD k 0:=by rw[Array.getD_eq_getD_getElem?,←Array.getElem?_toList,List.getD_eq_getElem?_getD]
theorem MO{s:ByteArray}{f:Nat}(hd:jN (bs s)=(bs s).drop f)(hf:f≤s.size)(h01:0<f→s.size≠1∨s.size=f):pA (bs s)=(!(decide (s.size=f)||(decide ((s.data.getD f 0).toNat=48)&&decide (1<s.size)))&&((bs s).drop f).all qP):=by
 unfold pA;rw[hd];have hl:(bs s).length=s.size:=bY s;have e1:((bs s).drop f).isEmpty=decide (s.size=f):=by rw[Xaw,List.isEmpty_iff,decide_eq_true_eq,List.drop_eq_nil_iff];omega
 rw[e1];by_cases h0:s.size=f
 ·simp[h0]
 have hlt:f<(bs s).length:=by omega
 have e2:((bs s).drop f).head?=some (s.data.getD f 0):=by rw[List.head?_drop,iR,List.getD_eq_getElem?_getD,List.getElem?_eq_getElem hlt];rfl
 rw[e2];have e3:((some (s.data.getD f 0) == some (48:UInt8)):Bool)=decide ((s.data.getD f 0).toNat=48):=by rw[Xaw,Xan,decide_eq_true_eq,Option.some.injEq,←UInt8.toNat_inj];rfl
 rw[e3];by_cases h48:(s.data.getD f 0).toNat=48
 ·have e4 : (bs s == [48]) = !decide (1 < s.size) := by
   rw[Xaw,Xan,Xay,decide_eq_false_iff_not];constructor
   ·intro h;rw[h]at hl;simp at hl;omega
   ·intro h;have hs1:s.size=1:=by omega
    have hf0:f=0:=by
     rcases Nat.eq_zero_or_pos f with h|h
     ·exact h
     ·rcases h01 h with h|h <;> omega
    subst hf0;rw[hs1]at hl
    match hb:bs s,hl with
    | [c],_=>
     have:s.data.getD 0 0=c:=by rw[iR,hb];rfl
     rw[this]at h48;rw[show c=48 from UInt8.toNat_inj.1 h48]
  rw[e4,decide_eq_true h48,decide_eq_false h0];simp
 ·rw[decide_eq_false h48,decide_eq_false h0];simp
theorem Mt(z:Int):(Lib.itoa z).head?=some 45↔z<0:=by
 unfold Lib.itoa;by_cases h:z<0
 ·rw[if_pos h];simp[h]
 ·rw[if_neg h];refine⟨fun e=>?_,fun e=>absurd e h⟩;cases hd:Lib.decDigits z.toNat with
  | nil=>rw[hd]at e;cases e
  | cons c r=>rw[hd]at e;simp only[List.head?_cons,Option.some.injEq]at e;have:=gU z.toNat c (by rw[hd];simp);rw[e]at this;have h45:(45:UInt8).toNat=45:=rfl;omega
theorem xK{s:ByteArray}(h:0<s.size):(bs s).head?=some (s.data.getD 0 0):=by
 have hl:0<(bs s).length:=by rw[bY];exact h
 rw[List.head?_eq_getElem?,iR,List.getD_eq_getElem?_getD,List.getElem?_eq_getElem hl];rfl
theorem BD{c:UInt8}{k:Nat}(hk:k<256):((c.toNat:Int) == (k:Int))=true↔c=UInt8.ofNat k:=by
 rw[Xan];constructor
 ·intro h;apply UInt8.toNat_inj.1;rw[UInt8.toNat_ofNat',Nat.mod_eq_of_lt hk];omega
 ·intro h;rw[h,UInt8.toNat_ofNat',Nat.mod_eq_of_lt hk]
theorem S4{n:Nat}(h:48≤n)(h2:n<256):IntKind.u8.wrap ((n:Int)-48)=((n-48:Nat):Int):=by have e:IntKind.u8.wrap ((n:Int)-48)=((n:Int)-48)%256:=rfl;rw[e];omega
theorem qF(s:ByteArray)(hs:s.size≤1048576):∃n e,PC prog 95 [str s] (.tup [int n,int e])∧Th s n e:=by
 have main:∀r:AV,(pA (bs s)=false→r=.tup [int 0,int 3])→(∀n,bH n→s=aH n→r=.tup [int n,int 0])→(∀z,¬bH z→s=aH z→r=.tup [int 0,int 4])→PC prog 95 [str s] r:=by
  intro r h3 h0 h4;refine pcd func95 rfl rfl ?_;simp only[go_sem];refine⟨fun hg=>?_,eR (fun ρ' H'=>∃f:Nat,f≤1∧f≤s.size∧jN (bs s)=(bs s).drop f∧(f=1↔(bs s).head?=some 45)∧ρ' 0=str s∧ρ' 4=int f) (fun ρ' H' h=>?_) fun Q' hQ' _ _=>aA (fun hb=>?_) (fun hb=>?_)⟩
  ·have:(s.size:Int)>0:=by simpa using hg
   omega
  rotate_left
  ·rw[Xag,decide_eq_true_eq]at hb;have h1:0<s.size:=by omega
   have h2:s.data.getD 0 0=45:=(BD (k:=45) (by decide)).1 hb.2;simp only[go_sem];refine hQ' _ _ ⟨1,by omega,by omega,?_,⟨fun _=>by rw[xK h1,h2],fun _=>rfl⟩,by simp only[go_sem],by simp only[go_sem];rfl⟩;have:=xK h1;rw[h2]at this;cases hl:bs s with
   | nil=>rw[hl]at this;cases this
   | cons c r=>rw[hl]at this;simp only[List.head?_cons,Option.some.injEq]at this;rw[this,jN,if_pos rfl];rfl
  ·simp only[go_sem];have hne:¬(bs s).head?=some 45:=fun e=>by
    have h1:0<s.size:=by
     rw[←bY];cases hl:bs s with
     | nil=>rw[hl]at e;cases e
     | cons c r=>simp
    rw[xK h1,Option.some.injEq]at e;rw[e,decide_eq_true (by omega)]at hb;exact absurd hb (by decide)
   refine hQ' _ _ ⟨0,by omega,by omega,?_,⟨fun h=>absurd h (by decide),fun h=>absurd h hne⟩,by simp only[go_sem],by simp only[go_sem];rfl⟩;cases hl:bs s with
   | nil=>rfl
   | cons c r=>rw[hl]at hne;rw[jN,if_neg (fun e=>hne (by rw[e];rfl))];rfl
  obtain⟨f,hf1,hfs,hdg,hhd,e0,e4⟩:=h;have hok:=MO hdg hfs (by omega);simp only[go_sem,e0,e4];have hce:(((s.size:Nat):Int) == ((f:Nat):Int)||(((s.data.getD f 0).toNat:Nat):Int) == 48&&decide (((s.size:Nat):Int)>1))=(decide (s.size=f)||(decide ((s.data.getD f 0).toNat=48)&&decide (1<s.size))):=by
   congr 1
   ·rw[Xaw,Xan,decide_eq_true_eq];omega
   ·congr 1
    ·rw[Xaw,Xan,decide_eq_true_eq];omega
    ·exact decide_eq_decide.2 (by omega)
  refine⟨fun hg=>?_,?_⟩
  ·have:¬((s.size:Int)=f):=by simpa using hg
   omega
  rw[hce];refine aA (fun hb=>?_) (fun hb=>?_)
  ·rw[hb]at hok;have:=h3 (by rw[hok];rfl);subst this;simp only[go_sem];exact .refl _
  rw[hb]at hok;simp only[Bool.not_false,Bool.true_and]at hok;simp only[go_sem,e0,e4];refine⟨fun ρ _=>∃k:Nat,f≤k∧k≤s.size∧(∀i,f≤i→i<k→qP (s.data.getD i 0)=true)∧ρ 0=str s∧ρ 4=int f∧ρ 5=int k,fun ρ _=>s.size-bO (ρ 5),⟨f,Xae _,hfs,fun i h1 h2=>by omega,by simp only[go_sem,e0],by simp only[go_sem,e4],by simp only[go_sem]⟩,?_⟩;clear e0 e4;rintro ρ H ⟨k,hfk,hk,hd,e0,e4,e5⟩;simp only[go_sem,e0,e4,e5];refine aA (fun hlt=>?_) (fun hge=>?_)
  ·have hlt:=bD hlt;have b1:=inB hlt;simp only[go_sem,e0,e4,e5,b1];refine bB (oG _) ?_;rw[IK];simp only[go_sem,e0,e4,e5];refine aA (fun hb=>?_) (fun hb=>?_)
   ·have : pA (bs s) = false := by
     rw[hok,List.all_eq_false];refine⟨s.data.getD k 0,?_,by simpa using hb⟩;have hl:k<(bs s).length:=by rw[bY];exact hlt
     refine List.mem_iff_getElem?.2 ⟨k-f,?_⟩;rw[List.getElem?_drop,show f+(k-f)=k by omega,iR,List.getD_eq_getElem?_getD,List.getElem?_eq_getElem hl];rfl
    have:=h3 this;subst this;simp only[go_sem];exact .refl _
   ·simp only[go_sem,e0,e4,e5,cH k];exact⟨⟨k+1,by omega,hlt,fun i h1 h2=>by
     by_cases e:i=k
     ·subst e;simpa using hb
     ·exact hd i h1 (by omega),rfl⟩,by simp only[aE];omega⟩
  have hge:k=s.size:=by
   have:¬((k:Int)<(s.size:Int)):=by simpa using hge
   omega
  subst hge;have hall:((bs s).drop f).all qP=true:=by
   rw[Xax];intro c hc;obtain⟨i,hi⟩:=List.mem_iff_getElem?.1 hc;rw[List.getElem?_drop]at hi;obtain⟨h1,h2⟩:=List.getElem?_eq_some_iff.1 hi;rw[bY]at h1;have:=hd (f+i) (by omega) h1
   rwa [iR,List.getD_eq_getElem?_getD,hi,Xai]at this
  rw[hall]at hok;obtain⟨z,hz⟩:=AR (bs s) hok;have hzz:=LK hz;have hdz:(bs s).drop f=Lib.decDigits z.natAbs:=by rw[←hdg,hz,tI]
  have hvz:gR 0 ((bs s).drop f)=z.natAbs:=by rw[hdz,Ap]
  have hdd:∀k c,((bs s).drop f)[k]?=some c→qP c=true:=fun k c h=>Xax.1 hall c (Xbg h)
  have hneg:f=1↔z<0:=by rw[hhd,hz,Mt]
  clear hd hall hok;simp only[go_sem,e0,e4,e5];generalize hD:(bs s).drop f=D at *;have hDl:D.length=s.size-f:=by rw[←hD,List.length_drop,bY]
  have hv63:∀k,gR 0 (D.take k)≤z.natAbs:=fun k=>by rw[←hvz];exact Es _ _
  refine⟨fun ρ _=>∃k:Nat,f+k≤s.size∧ρ 0=str s∧ρ 4=int f∧ρ 7=int (f+k:Nat)∧ρ 6=int (-(gR 0 (D.take k):Int))∧gR 0 (D.take k)≤9223372036854775808,fun ρ _=>s.size-bO (ρ 7),⟨0,hfs,by simp only[go_sem,e0],by simp only[go_sem,e4],by simp only[go_sem];try rfl,by simp only[go_sem];try rfl,by rw[Xbe];exact Xad _⟩,?_⟩;clear e0 e4 e5;rintro ρ H ⟨k,hk,e0,e4,e7,e6,hv⟩;simp only[go_sem,e0,e4,e6,e7];refine aA (fun hlt=>?_) (fun hge=>?_)
  ·have hlt:=bD hlt;have b1:=inB hlt;obtain⟨c,hc⟩:∃c,D[k]?=some c:=⟨_,List.getElem?_eq_getElem (by omega)⟩;have hcd:=hdd k c hc;have hcs:s.data.getD (f+k) 0=c:=by rw[iR,List.getD_eq_getElem?_getD,←List.getElem?_drop,hD,hc];rfl
   simp only[qP,Xag,decide_eq_true_eq]at hcd;have hst:=My hc;simp only[go_sem,e0,e4,e6,e7,b1,hcs];have hu:IntKind.i64.wrap (IntKind.u8.wrap ((c.toNat:Int)-48))=((c.toNat-48:Nat):Int):=by rw[S4 hcd.1 (by omega),dI (by omega)]
   generalize hdd0:c.toNat-48=d at hst hu;have hd10:d<10:=by omega
   have hq:IntKind.i64.wrap ((IntKind.i64.wrap (-9223372036854775808+(d:Int))).tdiv 10)=(-9223372036854775808+(d:Int)).tdiv 10:=by rw[dI (show -9223372036854775808≤ -9223372036854775808+(d:Int)∧ -9223372036854775808+(d:Int)≤9223372036854775807 by omega)];refine dI ?_;rw[show(-9223372036854775808+(d:Int))= -((9223372036854775808-d:Nat):Int)by omega,Int.neg_tdiv,show((10:Int))=((10:Nat):Int)from rfl,←Int.ofNat_tdiv];omega
   rw[hu,hq];have hle:=hv63 (k+1);rw[hst]at hle;refine⟨by decide,aA (fun hb=>?_) (fun hb=>?_)⟩
   ·have hbig:=(CX _ d hd10).1 (of_decide_eq_true hb);have:=h4 z (fun h=>by unfold bH at h;omega) hzz;subst this;simp only[go_sem];exact .refl _
   ·have hsm:¬9223372036854775808<10*gR 0 (D.take k)+d:=fun h=>of_decide_eq_false hb ((CX _ d hd10).2 h)
    simp only[go_sem,e0,e4,e6,e7];rw[dI (show -9223372036854775808≤((f+k:Nat):Int)+1∧((f+k:Nat):Int)+1≤9223372036854775807 by omega),dI (show -9223372036854775808≤10* -((gR 0 (D.take k):Nat):Int)∧10* -((gR 0 (D.take k):Nat):Int)≤9223372036854775807 by omega),dI (show -9223372036854775808≤10* -((gR 0 (D.take k):Nat):Int)-(d:Int)∧10* -((gR 0 (D.take k):Nat):Int)-(d:Int)≤9223372036854775807 by omega)];refine⟨⟨k+1,by omega,congrArg int (by omega),congrArg int (by rw[hst];omega),by rw[hst];omega⟩,?_⟩;rw[show((f+k:Nat):Int)+1=((f+k+1:Nat):Int)by omega];simp only[aE];omega
  ·have hkD : f + k = s.size := by
    have:¬(((f+k:Nat):Int)<(s.size:Int)):=by simpa using hge
    omega
   rw[Xaj (by omega),hvz]at e6 hv;simp only[go_sem,e0,e4,e6,e7];refine aA (fun hb=>?_) (fun hb=>?_)
   ·have hf:f=1:=by have:=eq_of_beq hb;omega
    have hz0:=hneg.1 hf;have hi:bH z:=by unfold bH;omega
    have:=h0 z hi hzz;subst this;simp only[go_sem,e6];rw[show -((z.natAbs:Nat):Int)=z by omega];exact .refl _
   have hz0:¬z<0:=fun h=>by have:=hneg.2 h;rw[this]at hb;exact absurd hb (by decide)
   simp only[go_sem,e6];refine aA (fun hb=>?_) (fun hb=>?_)
   ·have hb:=eq_of_beq hb;have:=h4 z (fun h=>by unfold bH at h;omega) hzz;subst this;simp only[go_sem];exact .refl _
   ·have hb:¬(-((z.natAbs:Nat):Int)= -9223372036854775808):=by simpa using hb
    have hi:bH z:=by unfold bH;omega
    have:=h0 z hi hzz;subst this;simp only[go_sem,e6];rw[dI (by omega),show 0- -((z.natAbs:Nat):Int)=z by omega];exact .refl _
 by_cases h:∃n,bH n∧s=aH n
 ·obtain⟨n,hn,rfl⟩:=h;refine⟨n,0,main _ (fun h=>?_) (fun m hm e=>?_) (fun z hz e=>?_),.inl ⟨rfl,hn,rfl⟩⟩
  ·rw[fH,qM]at h;cases h
  ·have:=pP ((fH n).symm.trans ((congrArg bs e).trans (fH m)));rw[this]
  ·have:=pP ((fH n).symm.trans ((congrArg bs e).trans (fH z)));exact absurd (this▸hn) hz
 ·have hno:∀m,bH m→s≠aH m:=fun m hm e=>h ⟨m,hm,e⟩
  cases hk:pA (bs s)with
  | false=>refine⟨0,3,main _ (fun _=>rfl) (fun n hn e=>absurd e (hno n hn)) (fun z _ e=>?_),.inr ⟨by decide,hno⟩⟩;rw[e,fH,qM]at hk;cases hk
  | true=>exact⟨0,4,main _ (fun h=>by rw[hk]at h;cases h) (fun n hn e=>absurd e (hno n hn)) (fun z _ e=>rfl),.inr ⟨by decide,hno⟩⟩
end Sp
namespace Sp
open Go.Aw Go.Aw.D Go.Proofs Ty
open Go.Proofs.YthbiheckeoknlaaGreatDoor (cP fG)
open Go.Proofs.YthbiheckeoknlaaGreatDoor.Nw
open Go.Proofs.YthbiheckeoknlaaGreatDoor.Sk
open Go.Proofs.YthbiheckeoknlaaGreatDoor.Sc
theorem AN{s:ByteArray}{n:Nat}{c:UInt8}(hn:n<s.size)(h:s.data.getD n 0=c):(bs s).drop n=c::(bs s).drop (n+1):=by
 have hl:n<(bs s).length:=by rw[bY];exact hn
 rw[List.drop_eq_getElem_cons hl]
 congr 1
 rw[iR,List.getD_eq_getElem?_getD,List.getElem?_eq_getElem hl]at h;exact h
theorem tS(s:ByteArray)(a:Nat):bs (s.extract a s.size)=(bs s).drop a:=by rw[eY];exact Xaj (by rw[List.length_drop,bY];exact Xae _)
theorem LX{s:ByteArray}{a n:Nat}{c:UInt8}(ha:a≤n)(hn:n<s.size)(h:s.data.getD n 0=c):s.extract a s.size=s.extract a n++(⟨#[c]⟩++s.extract (n+1) s.size):=by
 refine gD ?_;rw[dJ,dJ,tS,tS,eY,show bs ⟨#[c]⟩=[c]from rfl];have e:(bs s).drop n=((bs s).drop a).drop (n-a):=by rw[List.drop_drop,show a+(n-a)=n by omega]
 rw[List.singleton_append,←AN hn h,e,List.take_append_drop]
def okc(c:UInt8):Bool:=okC (c.toNat:Int)
def iU(s:ByteArray)(a:Nat):Nat:=a+(((bs s).drop a).takeWhile okc).length
theorem PI{s:ByteArray}{a:Nat}(h:a≤s.size):a≤iU s a∧iU s a≤s.size:=by unfold iU;have h1:(((bs s).drop a).takeWhile okc).length≤((bs s).drop a).length:=(List.takeWhile_sublist _).length_le;rw[List.length_drop,bY]at h1;omega
theorem QV{s:ByteArray}{a:Nat}(hn:a<s.size)(h:okc (s.data.getD a 0)=true):iU s (a+1)=iU s a:=by unfold iU;rw[AN hn rfl,List.takeWhile_cons,if_pos h,Xaa];omega
theorem NH{s:ByteArray}{a:Nat}(h:s.size≤a∨okc (s.data.getD a 0)=false):iU s a=a:=by
 unfold iU;rcases Xbc a s.size with hn|hn
 ·rcases h with h|h
  ·omega
  ·rw[AN hn rfl,List.takeWhile_cons,if_neg (by rw[h];decide)];rfl
 ·rw[List.drop_eq_nil_of_le (by rw[bY];exact hn)];rfl
theorem Lf{α:Type}(p:α→Bool):∀l:List α,l.take (l.takeWhile p).length=l.takeWhile p
 | []=>rfl
 | a::l=>by
  rw[List.takeWhile_cons];split
  ·rw[Xaa,List.take_succ_cons,Lf p l]
  ·rfl
theorem Kb(s:ByteArray)(a:Nat):bs (s.extract a (iU s a))=((bs s).drop a).takeWhile okc:=by rw[eY];unfold iU;rw[show a+(((bs s).drop a).takeWhile okc).length-a=(((bs s).drop a).takeWhile okc).length by omega,Lf]
theorem N4{α:Type}(p:α→Bool):∀l:List α,∀c∈l.takeWhile p,p c=true
 | [],c,h=>by simp at h
 | a::l,c,h=>by
  rw[List.takeWhile_cons]at h;split at h
  ·rcases Xaf.1 h with rfl|h
   ·assumption
   ·exact N4 p l c h
  ·simp at h
theorem Gz{s:ByteArray}{a:Nat}(h:iU s a≠a):aW (s.extract a (iU s a))=true:=by
 refine wO (fun e=>h ?_) fun c hc=>?_
 ·rw[Kb]at e;unfold iU;rw[e];rfl
 ·rw[Kb]at hc;exact N4 okc _ c hc
theorem PK{s:ByteArray}{a:Nat}(h:iU s a≠a)(hn:a≤s.size):s.data.getD (iU s a-1) 0≠32:=by
 have hw:=Gz h;have h1:=PI hn;intro e;have:(32:UInt8)∈bs (s.extract a (iU s a)):=by
  rw[eY];have hl:iU s a-1<(bs s).length:=by rw[bY];omega
  rw[iR,List.getD_eq_getElem?_getD,List.getElem?_eq_getElem hl,Xai]at e;refine List.mem_iff_getElem?.2 ⟨iU s a-1-a,?_⟩;rw[List.getElem?_take_of_lt (by omega),List.getElem?_drop,show a+(iU s a-1-a)=iU s a-1 by omega,List.getElem?_eq_getElem hl,e]
 have:=pF hw 32 this;exact absurd this (by decide)
theorem wH{s:ByteArray}{a:Nat}{w:ByteArray}{r:List ByteArray}(hw:aW w=true)(h:s.extract a s.size=aG spB (w::r))(ha:a≤s.size):
  iU s a≠a∧s.extract a (iU s a)=w∧((r=[]∧iU s a=s.size)∨(r≠[]∧iU s a<s.size∧s.data.getD (iU s a) 0=32∧s.extract (iU s a+1) s.size=aG spB r)):=by
 have hl:(bs s).drop a=bs w++bs (cS spB r):=by rw[←tS,h,aZ,dJ]
 have ht:(bs (cS spB r)).takeWhile okc=[]:=by
  cases r with
  | nil=>rfl
  | cons x r=>rw[bS,dJ,show bs spB=[32]from rfl,List.singleton_append,List.takeWhile_cons,if_neg (by decide)]
 have hrun:((bs s).drop a).takeWhile okc=bs w:=by rw[hl,List.takeWhile_append_of_pos (p:=okc) (fun c hc=>pF hw c hc),ht,Xah]
 have hpos:0<w.size:=iL hw;have hr:iU s a=a+w.size:=by unfold iU;rw[hrun,bY]
 have hsz:s.size-a=w.size+(cS spB r).size:=by have:=congrArg List.length hl;rw[List.length_drop,Xac,bY,bY,bY]at this;exact this
 refine⟨by omega,gD (by rw[Kb,hrun]),?_⟩;cases r with
 | nil=>have:(cS spB []).size=0:=rfl;exact .inl ⟨rfl,by omega⟩
 | cons x r=>
  have h2:(cS spB (x::r)).size=1+(x.size+(cS spB r).size):=by rw[bS,ByteArray.size_append,ByteArray.size_append];rfl
  have hd:(bs s).drop (a+w.size)=32::bs (aG spB (x::r)):=by rw[←List.drop_drop,hl,show w.size=(bs w).length from(bY w).symm,List.drop_left,bS,dJ];rfl
  refine .inr ⟨by simp,by omega,?_,gD ?_⟩
  ·rw[hr,iR,List.getD_eq_getElem?_getD,←Nat.add_zero (a+w.size),←List.getElem?_drop,hd];rfl
  ·rw[tS,hr,←List.drop_drop,hd];rfl
end Sp
end Go.Proofs.YthbiheckeoknlaaGreatDoor
