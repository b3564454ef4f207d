import Derived.Lib.ItoaMem
import Derived.Laws.Strings
import Derived.Shelf.Strings.Builder1
import Derived.Shelf.Strings.Builder2
import Derived.Shelf.Small.Strs
import Derived.Shelf.Small.Wraps
import Derived.Shelf.Strings.BuilderF
import Derived.Shelf.Strings.BuilderK
import Derived.Shelf.Strings.Builder2Cap
import Derived.Shelf.Strconv.Itoa0
import Derived.Shelf.Strconv.Itoa1
import Derived.Shelf.LaysM
import Derived.Shelf.Strconv.Itoa2
import Derived.Shelf.Strconv.Itoa3
import Derived.Shelf.Strings.Search1
import Derived.Shelf.Strings.Search2
import Derived.Shelf.Strings.Search3
import Derived.Shelf.Strings.Cut
import Derived.Shelf.Strings.Shaped
import Derived.Shelf.Strings.Prefix
import Derived.Shelf.Bits.Mul64
import Derived.Shelf.Strings.Repeat
import Derived.Shelf.Strings.BuilderCap
import Derived.Ground.Names2Prog
import Derived.Shelf.Slices.SearchI
import Derived.Test.YtdlijlecpopadaaGreatDoorProg
import Derived.Test.YtdlijlecpopadaaGreatDoorZu06
set_option linter.unusedSimpArgs false
set_option linter.unusedVariables false
set_option maxRecDepth 100000
section
namespace Go.Aw
open Go.RowKit
section
variable{P:Program}{S:Sg}{w:World}{H:aJ}{f:FuncId}{args args':List AV}{K:AV->aJ->Prop}
theorem St.frz(J:St S w H)(l:List Nat):St (S.froze fun k=>if k∈l then H k else none) w (fun k=>if k∈l then none else H k)/\Grow S w (S.froze fun k=>if k∈l then H k else none) w/\St S w fun k=>if k∈l then H k else none:=by
 let Hf:aJ:=fun k=>if k∈l then H k else none
 let Hr:aJ:=fun k=>if k∈l then none else H k
 have X:∀k r',Hf k=some r'->k∈l/\H k=some r':=fun k r' E=>by
   by_cases e:k∈l
   . exact⟨e,by simpa[Hf,e]using E⟩
   . simp[Hf,e]at E
 have I:∀k r',Hr k=some r'->¬k∈l/\H k=some r':=fun k r' E=>by
   by_cases e:k∈l
   . simp[Hr,e]at E
   . exact⟨e,by simpa[Hr,e]using E⟩
 refine⟨⟨?_,?_,fun k r' E=>(J.rows k r' (I k r' E).2).keep (S.le_froze Hf) (fR.refl S w) (fun _ _=>rfl),?_,fun k k' r1 O E Z aa g F Y=>J.disj k k' r1 O (I k r1 E).2 (I k' O Z).2 aa g F Y,J.tabs.keep (S.le_froze Hf) (fR.refl S w)⟩,⟨S.le_froze Hf,fun k E=>.inl E,rfl,rfl,rfl,Nat.le_refl _,fun _ _=>rfl,?_⟩,J.drop fun k r' E=>(X k r' E).2⟩
 . rintro g (F|F)
   . exact .inl (J.ro_fz g F)
   . exact .inr F
 . rintro g (F|⟨k,r',E,F⟩)
   . exact J.fz_lt g F
   . exact(J.rows k r' (X k r' E).2).block_lt F
 . rintro k r' E g F (h1|⟨i,O,hi,h2⟩)
   . exact J.free k r' (I k r' E).2 g F h1
   . exact J.disj k i r' O (I k r' E).2 (X i O hi).2 (fun e=>(I k r' E).1 (e▸(X i O hi).1)) g F h2
 . rintro g (F|⟨k,r',E,F⟩)
   . exact .inl F
   . exact .inr (J.free k r' (X k r' E).2 g F)
theorem bA.frz(l:List Nat)(hc:ConvL (fun k=>if k∈l then H k else none) args args')(h:bA P f args' (fun k=>if k∈l then none else H k) K):bA P f args H K:=by
 intro S w vals I ha;obtain⟨h1,Y,h3⟩:=I.frz l;refine(h _ w vals h1 (hc.rep h3 ha)).mono fun e w' ⟨v,r,H',S',Z,hr,E,F,O,X⟩=>⟨v,r,H',S',Z,hr,E,F,Y.trans O,fun k J h0=>X k J ?_⟩
 by_cases e:k∈l
 . simp[e]
 . simpa[e]using h0
theorem PC.useF{r:AV}(l:List Nat)(E:ConvL (fun k=>if k∈l then H k else none) args args')(h:PC P f args' r)(F:K r (fun k=>if k∈l then none else H k)):bA P f args H K:=bA.frz l E (PC.use h F)
theorem PC.lib{a:List Value}{r:AV}{v:Value}(Z:∀S w,rep S w r v)(h:∀w,(∀t∈Vy,sT w t.1=some t.2)->Calls P f a.toArray w fun e w'=>e=.returned v/\Below w.heap.size w w'):PC P f (a.map .v) r:=by
 intro S w vals F hf J;obtain rfl:vals=a:=by
   clear h;induction a generalizing vals with
   | nil=>
     cases vals with
     | nil=>rfl
     | cons x r=>simp[bC]at J
   | cons x a ih=>
     simp only[List.map_cons,bC]at J;obtain⟨u,t,rfl,h1,X⟩:=J;simp only[rep]at h1;subst h1;rw[ih t X]
 refine(h w fun t O=>(F.tabs t O).2).mono fun e w' ⟨Y,E⟩=>?_
 exact⟨v,r,bS,S,Y,rfl,F.after E.size fun k I=>E.block k I,Z S w',F.grow E.os E.tape E.output E.size fun k I=>E.block k I,fM.refl _ _⟩
end
end Go.Aw
end
section
namespace Go.Nu
open Go Go.Lib
def ofL(b:Nat):List Nat->Nat
 | []=>0
 | x::r=>x+b*ofL b r
def Lim(b:Nat)(l:List Nat):Prop:=∀x∈l,x<b
def bK(b:Nat)(n:Nat):List Nat:=if h:n=0\/b<2 then[]else n%b::bK b (n/b)
termination_by n
decreasing_by exact Nat.div_lt_self (by omega) (by omega)
def mS:List Nat->List Nat
 | []=>[]
 | x::r=>match mS r with
   | []=>if x=0 then[]else[x]
   | y::t=>x::y::t
theorem pS(b:Nat):∀l r:List Nat,ofL b (l++r)=ofL b l+b^l.length*ofL b r
 | [],r=>by simp[ofL]
 | x::l,r=>by
   simp only[List.cons_append,ofL,pS b l r,List.length_cons,Nat.pow_succ,Nat.mul_add,Nat.add_assoc];rw[Nat.mul_comm (b^l.length) b,Nat.mul_assoc]
theorem vL(b:Nat)(l:List Nat)(x:Nat):ofL b (l++[x])=ofL b l+b^l.length*x:=by rw[pS];simp[ofL]
theorem oH{b:Nat}(F:0<b):∀{l:List Nat},Lim b l->ofL b l<b^l.length
 | [],_=>by simp[ofL]
 | x::l,h=>by
   have h1:=h x (by simp);have I:=oH F (l:=l) fun y E=>h y (by simp[E])
   simp only[ofL,List.length_cons,Nat.pow_succ];have:b*(ofL b l+1)<=b*b^l.length:=Nat.mul_le_mul_left _ I;rw[Nat.mul_add]at this;rw[Nat.mul_comm (b^l.length) b];omega
theorem lH(b:Nat){l:List Nat}{k x:Nat}(h:l[k]?=some x):ofL b (l.take (k+1))=ofL b (l.take k)+b^k*x:=by
 rw[List.take_add_one,h];simp only[Option.toList];rw[vL,List.length_take,Nat.min_eq_left (Nat.le_of_lt (List.getElem?_eq_some_iff.1 h).1)]
theorem KR(b:Nat):∀(l:List Nat) (k x v:Nat),l[k]?=some x->ofL b (l.set k v)+b^k*x=ofL b l+b^k*v
 | [],k,x,v,h=>by simp at h
 | y::l,0,x,v,h=>by
   simp only[List.getElem?_cons_zero,Option.some.injEq]at h;subst h;simp only[List.set_cons_zero,ofL,Nat.pow_zero,Nat.one_mul];omega
 | y::l,k+1,x,v,h=>by
   have:=KR b l k x v (by simpa using h);have E:b*(ofL b (l.set k v)+b^k*x)=b*(ofL b l+b^k*v):=by rw[this]
   simp only[List.set_cons_succ,ofL,Nat.pow_succ];rw[Nat.mul_add,Nat.mul_add,<-Nat.mul_assoc,<-Nat.mul_assoc]at E;rw[Nat.mul_comm (b^k) b];omega
theorem WG(b n:Nat):ofL b (List.replicate n 0)=0:=by
 induction n with
 | zero=>rfl
 | succ n ih=>simp[List.replicate_succ,ofL,ih]
theorem eZ(b:Nat):bK b 0=[]:=by rw[bK];simp
theorem sG{b n:Nat}(E:2<=b)(F:n≠0):bK b n=n%b::bK b (n/b):=by
 rw[bK,dif_neg (by omega)]
theorem eF{b:Nat}(I:2<=b)(n:Nat):Lim b (bK b n):=by
 induction n using Nat.strongRecOn with
 | _ n ih=>
   by_cases F:n=0
   . subst F;rw[eZ];intro x E;cases E
   . rw[sG I F]
     intro x E;rcases List.mem_cons.1 E with rfl|E
     . exact Nat.mod_lt _ (by omega)
     . exact ih (n/b) (Nat.div_lt_self (by omega) (by omega)) x E
theorem eO{b:Nat}(F:2<=b)(n:Nat):ofL b (bK b n)=n:=by
 induction n using Nat.strongRecOn with
 | _ n ih=>
   by_cases E:n=0
   . subst E;rw[eZ];rfl
   . rw[sG F E,ofL,ih (n/b) (Nat.div_lt_self (by omega) (by omega))]
     exact Nat.mod_add_div n b
theorem rZ{b n:Nat}(E:2<=b):bK b n=[]↔n=0:=by
 constructor
 . intro h
   have:=eO E n;rw[h]at this;exact this.symm
 . rintro rfl;exact eZ b
theorem FZ{b x m:Nat}(F:2<=b)(E:x<b)(h:x+b*m≠0):bK b (x+b*m)=x::bK b m:=by
 rw[sG F h,Nat.add_mul_mod_self_left,Nat.mod_eq_of_lt E,Nat.add_mul_div_left _ _ (by omega),Nat.div_eq_of_lt E,Nat.zero_add]
theorem Gn{b:Nat}(F:2<=b):∀{l:List Nat},Lim b l->mS l=bK b (ofL b l)
 | [],_=>by rw[ofL,eZ];rfl
 | x::l,h=>by
   have ih:=Gn F (l:=l) fun y O=>h y (by simp[O])
   have J:=h x (by simp);rw[mS,ih];by_cases h0:ofL b l=0
   . simp only[ofL,h0,eZ]
     by_cases E:x=0
     . subst E;simp[eZ]
     . rw[if_neg E,FZ F J (by omega),eZ]
   . have I:bK b (ofL b l)≠[]:=fun e=>h0 ((rZ F).1 e)
     rw[ofL,FZ F J (by have:0<b*ofL b l:=Nat.mul_pos (by omega) (by omega);omega)];split
     . rename_i e;exact absurd e I
     . rename_i e;rw[e]
theorem J1{b:Nat}(F:2<=b){l:List Nat}{n:Nat}(h:Lim b l)(E:ofL b l=n):mS l=bK b n:=by rw[Gn F h,E]
theorem mN{b:Nat}(F:2<=b){n k:Nat}(h:n<b^k):(bK b n).length<=k:=by
 induction k generalizing n with
 | zero => have : n = 0 := by simpa using h
           subst this;rw[eZ];exact Nat.le_refl _
 | succ k ih=>
   by_cases E:n=0
   . subst E;rw[eZ];exact Nat.zero_le _
   . rw[sG F E,List.length_cons]
     refine Nat.succ_le_succ (ih ?_);rw[Nat.div_lt_iff_lt_mul (by omega)]
     rwa [Nat.pow_succ]at h
theorem Kb{b:Nat}(E:2<=b){n k:Nat}(h:b^k<=n):k<(bK b n).length:=by
 have h1:=oH (b:=b) (by omega) (eF E n);rw[eO E]at h1;exact(Nat.pow_lt_pow_iff_right (by omega)).1 (Nat.lt_of_le_of_lt h h1)
theorem fL{b:Nat}(E:2<=b){m n:Nat}(h:m<=n):(bK b m).length<=(bK b n).length:=by
 refine mN E ?_;have h1:=oH (b:=b) (by omega) (eF E n);rw[eO E]at h1;omega
theorem Ru{b:Nat}(E:2<=b){n:Nat}(I:n≠0):b^((bK b n).length-1)<=n:=by
 induction n using Nat.strongRecOn with
 | _ n ih=>
   rw[sG E I,List.length_cons,Nat.add_sub_cancel];by_cases h0:n/b=0
   . rw[h0,eZ];simp;omega
   . have:=ih (n/b) (Nat.div_lt_self (by omega) (by omega)) h0
     have F:(bK b (n/b)).length=((bK b (n/b)).length-1)+1:=by
       have:bK b (n/b)≠[]:=fun e=>h0 ((rZ E).1 e)
       have:=List.length_pos_iff.2 this;omega
     rw[F,Nat.pow_succ];exact Nat.le_trans (Nat.mul_le_mul_right b this) (Nat.div_mul_le_self n b)
theorem JD{b:Nat}(hb:0<b){l r:List Nat}(J:Lim b l)(hr:Lim b r)(F:l.length=r.length){k x y:Nat}(I:l[k]?=some x)(hy:r[k]?=some y)(E:x<y)(X:l.drop (k+1)=r.drop (k+1)):ofL b l<ofL b r:=by
 have hk:k<l.length:=(List.getElem?_eq_some_iff.1 I).1;have O:l=l.take (k+1)++l.drop (k+1):=(List.take_append_drop _ _).symm;have Y:r=r.take (k+1)++r.drop (k+1):=(List.take_append_drop _ _).symm;rw[O,Y,pS,pS,X,lH b I,lH b hy,List.length_take,List.length_take,Nat.min_eq_left (by omega),Nat.min_eq_left (by omega)];have h1:=oH hb (l:=l.take k) fun z hz=>J z (List.mem_of_mem_take hz)
 rw[List.length_take,Nat.min_eq_left (by omega)]at h1;have Z:b^k*(x+1)<=b^k*y:=Nat.mul_le_mul_left _ E;rw[Nat.mul_add]at Z;omega
theorem Iy{b:Nat}(E:2<=b){m n:Nat}(h:(bK b m).length<(bK b n).length):m<n:=by
 rcases Nat.lt_or_ge m n with h1|h1
 . exact h1
 . have:=fL E h1;omega
theorem EJ{α:Type}{p:List α->Prop}(h0:p [])(h1:∀l c,p l->p (l++[c]))(l:List α):p l:=by
 have:∀r:List α,p r.reverse:=fun r=>by
   induction r with
   | nil=>exact h0
   | cons c r ih=>rw[List.reverse_cons];exact h1 _ _ ih
 rw[<-List.reverse_reverse l];exact this _
def isD(c:UInt8):Bool:=decide (48<=c.toNat)&&decide (c.toNat<=57)
def gN(l:List UInt8):Nat:=l.foldl (fun a c=>10*a+(c.toNat-48)) 0
def eK(l:List UInt8):Bool:=l != []&&(l.length == 1||l.getD 0 0 != 48)&&l.all isD
def dec(n:Nat):ByteArray:=⟨(decDigits n).toArray⟩
theorem mR(l:List UInt8)(c:UInt8):gN (l++[c])=10*gN l+(c.toNat-48):=by simp[gN]
theorem Dw{α:Type}{l r:List α}{k:Nat}{d:α}(h:k<l.length):(l++r).getD k d=l.getD k d:=by
 simp only[List.getD,List.getElem?_append_left h]
theorem mQ{d:Nat}(h:d<10):(UInt8.ofNat (48+d)).toNat=48+d:=by
 rw[UInt8.toNat_ofNat'];omega
theorem oG(n:Nat):gN (decDigits n)=n:=by
 induction n using Nat.strongRecOn with
 | _ n ih=>
   rw[decDigits];split
   . rename_i h
     simp only[gN,List.foldl_cons,List.foldl_nil,mQ h];omega
   . rename_i h
     rw[mR,ih (n/10) (by omega),mQ (by omega)];omega
theorem tZ(n:Nat):(decDigits n).all isD=true:=by
 induction n using Nat.strongRecOn with
 | _ n ih=>
   rw[decDigits];split
   . rename_i h
     simp only[List.all_cons,List.all_nil,Bool.and_true,isD,mQ h,Bool.and_eq_true,decide_eq_true_eq];omega
   . rename_i h
     rw[List.all_append,ih (n/10) (by omega)];simp only[List.all_cons,List.all_nil,Bool.and_true,Bool.true_and,isD,mQ (show n%10<10 by omega),Bool.and_eq_true,decide_eq_true_eq];omega
theorem RF(n:Nat):decDigits n≠[]:=by
 rw[decDigits];split <;> simp
theorem iE(n:Nat):0<(decDigits n).length:=List.length_pos_iff.2 (RF n)
theorem Yz{n:Nat}(h:n≠0):(decDigits n).getD 0 0≠48:=by
 induction n using Nat.strongRecOn with
 | _ n ih=>
   rw[decDigits];split
   . rename_i h1
     simp only[List.getD_cons_zero];intro e;have:=mQ h1;rw[e]at this;simp at this;omega
   . rename_i h1
     have F:=ih (n/10) (by omega) (by omega);have E:=iE (n/10);rw[Dw E];exact F
theorem yK{n:Nat}:(decDigits n).length=1↔n<10:=by
 rw[decDigits];split
 . simp_all
 . rename_i h
   have:=iE (n/10);simp only[List.length_append,List.length_cons,List.length_nil];omega
theorem Wl(n:Nat):eK (decDigits n)=true:=by
 unfold eK;simp only[Bool.and_eq_true,bne_iff_ne,ne_eq,Bool.or_eq_true,beq_iff_eq];refine⟨⟨RF n,?_⟩,tZ n⟩;by_cases h:n=0
 . left;rw[yK];omega
 . right;exact Yz h
theorem lM{c:UInt8}:isD c=true↔48<=c.toNat/\c.toNat<=57:=by simp[isD]
theorem Zi{c:UInt8}(h:isD c=true):UInt8.ofNat (48+(c.toNat-48))=c:=by
 rw[lM]at h;rw[show 48+(c.toNat-48)=c.toNat by omega];exact UInt8.ofNat_toNat
theorem YN:∀{l:List UInt8},l.all isD=true->l≠[]->l.getD 0 0≠48->10^(l.length-1)<=gN l:=by
 intro l;induction l using EJ with
 | h0=>intro _ h;exact absurd rfl h
 | h1 l c ih=>
   intro E _ h0;rw[List.all_append]at E;simp only[Bool.and_eq_true,List.all_cons,List.all_nil,Bool.and_true]at E;rw[mR];by_cases F:l=[]
   . subst F
     simp only[List.nil_append,List.getD_cons_zero]at h0;simp only[List.nil_append,List.length_cons,List.length_nil,Nat.zero_add,Nat.sub_self,Nat.pow_zero];have:=lM.1 E.2;have h1:c.toNat≠48:=fun e=>h0 (UInt8.toNat.inj e)
     omega
   . have I:=List.length_pos_iff.2 F
     rw[Dw I]at h0;have:=ih E.1 F h0;simp only[List.length_append,List.length_cons,List.length_nil,Nat.zero_add,Nat.add_sub_cancel];rw[show l.length=(l.length-1)+1 by omega,Nat.pow_succ];omega
theorem J0:∀{l:List UInt8},eK l=true->decDigits (gN l)=l:=by
 intro l;induction l using EJ with
 | h0=>intro h;simp[eK]at h
 | h1 l c ih=>
   intro h;unfold eK at h;simp only[Bool.and_eq_true,bne_iff_ne,ne_eq,Bool.or_eq_true,beq_iff_eq,List.all_append,List.all_cons,List.all_nil,Bool.and_true]at h;obtain⟨⟨_,h1⟩,I,F⟩:=h;have Y:=lM.1 F;by_cases E:l=[]
   . subst E
     rw[List.nil_append];rw[show gN [c]=c.toNat-48 by simp[gN],decDigits_one (by omega),Zi F]
   . have X:=List.length_pos_iff.2 E
     have h0:l.getD 0 0≠48:=by
       rcases h1 with h1|h1
       . simp only[List.length_append,List.length_cons,List.length_nil]at h1;omega
       . rwa [Dw X]at h1
     have J:=YN I E h0;have O:1<=gN l:=Nat.le_trans (Nat.one_le_pow _ _ (by omega)) J;rw[mR,decDigits,dif_neg (by omega)];rw[show(10*gN l+(c.toNat-48))/10=gN l by omega,show(10*gN l+(c.toNat-48))%10=c.toNat-48 by omega,Zi F,ih];unfold eK;simp only[Bool.and_eq_true,bne_iff_ne,ne_eq,Bool.or_eq_true,beq_iff_eq];exact⟨⟨E,.inr h0⟩,I⟩
theorem iK{n k:Nat}(I:1<=k):(decDigits n).length<=k↔n<10^k:=by
 rw[decDigits_length];constructor
 . intro h
   exact Nat.lt_of_lt_of_le (lt_pow_nDigits n) (Nat.pow_le_pow_right (by omega) h)
 . intro h
   by_cases h0:n<10
   . rw[nDigits_small h0];exact I
   . induction k generalizing n with
     | zero=>omega
     | succ k ih=>
       by_cases E:k=0
       . subst E;simp at h;omega
       . rw[nDigits_big h0]
         rw[Nat.pow_succ]at h;have:=Nat.succ_le_succ (show nDigits (n/10)<=k from by
           by_cases F:n/10<10
           . rw[nDigits_small F];omega
           . exact ih (by omega) (by omega) F)
         exact this
def bl(s:ByteArray):List UInt8:=s.data.toList
theorem lB{a b:ByteArray}(h:bl a=bl b):a=b:=by
 cases a;cases b;simp only[bl]at h;rw[Array.toList_inj.1 h]
theorem cF(s:ByteArray):(bl s).length=s.size:=by unfold bl;rw[Array.length_toList];rfl
def eqB(a b:ByteArray):Bool:=bl a == bl b
theorem nJ{a b:ByteArray}:eqB a b=true↔a=b:=by
 unfold eqB;rw[beq_iff_eq];exact⟨lB,fun h=>by rw[h]⟩
theorem pJ{a b:ByteArray}:eqB a b=false↔a≠b:=by rw[<-Bool.not_eq_true,nJ]
theorem jE(l:List UInt8):bl ⟨l.toArray⟩=l:=by simp[bl]
theorem mJ(a b:ByteArray):bl (a++b)=bl a++bl b:=by unfold bl;rw[ByteArray.data_append,Array.toList_append]
theorem apV(s:ByteArray):(⟨(bl s).toArray⟩:ByteArray)=s:=lB (jE _)
def emp:ByteArray:=ByteArray.empty
theorem amA:bl emp=[]:=rfl
theorem fQ(s:ByteArray)(a b:Nat):bl (s.extract a b)=((bl s).take b).drop a:=by
 simp[bl,ByteArray.data_extract,Array.toList_extract,List.extract_eq_take_drop,List.drop_take]
def ZH:Nat:=4096
def cO:Nat:=10^ZH
theorem K0{n k:Nat}(h:n<10^k)(E:k<=4096):n<cO:=Nat.lt_of_lt_of_le h (Nat.pow_le_pow_right (show 0<10 by omega) (show k<=ZH from E))
theorem aiS:0<cO:=Nat.pow_pos (show 0<10 by omega)
def dK(s:ByteArray):Bool:=eK (bl s)
def eH(s:ByteArray):Nat:=gN (bl s)
theorem gZ(n:Nat):bl (dec n)=decDigits n:=jE _
theorem lC(n:Nat):dK (dec n)=true:=by unfold dK;rw[gZ];exact Wl n
theorem bW(n:Nat):eH (dec n)=n:=by unfold eH;rw[gZ];exact oG n
theorem jC{s:ByteArray}(h:dK s=true):dec (eH s)=s:=lB (by rw[gZ];exact J0 h)
theorem gY(n:Nat):(dec n).size=(decDigits n).length:=by rw[<-cF,gZ]
theorem iB(n:Nat):(dec n).size<=4096↔n<cO:=by rw[gY];exact iK (k:=ZH) (by decide)
theorem vW{s:ByteArray}(h:dK s=true):s.size<=4096↔eH s<cO:=by
 have:=iB (eH s)
 rwa [jC h]at this
theorem rC{m n:Nat}:dec m=dec n↔m=n:=⟨fun h=>by rw[<-bW m,h,bW],fun h=>by rw[h]⟩
def szN(n:Nat):ByteArray×Int:=if n<cO then(dec n,0)else(emp,4)
def jD(a b:ByteArray):Int:=if(!dK a|| !dK b)=true then 3 else if(decide (a.size>4096)||decide (b.size>4096))=true then 4 else 0
def RE(a b:ByteArray):ByteArray×Int:=if jD a b=0 then szN (eH a+eH b)else(emp,jD a b)
def Rv(a b:ByteArray):ByteArray×Int:=if jD a b=0 then(if eH a<eH b then(emp,2)else szN (eH a-eH b))else(emp,jD a b)
def PQ(a b:ByteArray):ByteArray×Int:=if jD a b=0 then szN (eH a*eH b)else(emp,jD a b)
def Bw(a b:ByteArray):ByteArray×ByteArray×Int:=if jD a b=0 then(if eH b=0 then(emp,emp,10)else(dec (eH a/eH b),dec (eH a%eH b),0))else(emp,emp,jD a b)
def Av(a b:ByteArray):ByteArray×Int:=if jD a b=0 then szN (Nat.gcd (eH a) (eH b))else(emp,jD a b)
theorem EM{a b:ByteArray}(E:dK a=true)(F:dK b=true)(I:a.size<=4096)(sb:b.size<=4096):jD a b=0:=by
 unfold jD;rw[E,F];simp;omega
theorem zO{m n:Nat}(E:m<cO)(F:n<cO):jD (dec m) (dec n)=0:=EM (lC m) (lC n) ((iB m).2 E) ((iB n).2 F)
theorem pY{a b:ByteArray}(h:jD a b=0):∃m n,a=dec m/\b=dec n/\m<cO/\n<cO:=by
 unfold jD at h;split at h
 . cases h
 . rename_i h1
   split at h
   . cases h
   . rename_i E
     simp only[Bool.or_eq_true,Bool.not_eq_true',not_or,Bool.not_eq_false,decide_eq_true_eq,Nat.not_lt]at h1 E;exact⟨eH a,eH b,(jC h1.1).symm,(jC h1.2).symm,(vW h1.1).1 E.1,(vW h1.2).1 E.2⟩
theorem yM{n:Nat}(h:n<cO):szN n=(dec n,0):=if_pos h
def fJ(s:ByteArray):Bool:=(bl s).head? == some 45
def dS(s:ByteArray):ByteArray:=if fJ s=true then⟨((bl s).drop 1).toArray⟩else s
def fZ(s:ByteArray):Bool:=dK (dS s)&& !(fJ s&&eqB (dS s) (dec 0))
def kL(s:ByteArray):Int:=if fJ s=true then -(eH (dS s):Int)else eH (dS s)
def zed(n:Int):ByteArray:=⟨(itoa n).toArray⟩
theorem gW(n:Nat):zed n=dec n:=by unfold zed;rw[itoa_nonneg];rfl
theorem Ct{n:Nat}(h:1<=n):zed (-(n:Int))=⟨((45:UInt8)::decDigits n).toArray⟩:=by unfold zed;rw[itoa_neg n h]
theorem BJ(n:Nat):fJ (dec n)=false:=by
 unfold fJ;rw[gZ];have h1:=tZ n;have E:=RF n;cases h:decDigits n with
 | nil=>exact absurd h E
 | cons c r=>
   rw[h]at h1;simp only[List.all_cons,Bool.and_eq_true]at h1;have:=lM.1 h1.1;simp only[List.head?_cons,beq_eq_false_iff_ne,ne_eq,Option.some.injEq];intro e;rw[e]at this;simp at this
theorem LL(n:Nat):dS (dec n)=dec n:=by unfold dS;rw[BJ];rfl
theorem Gd(l:List UInt8):fJ ⟨((45:UInt8)::l).toArray⟩=true:=by unfold fJ;rw[jE];rfl
theorem V6(l:List UInt8):dS ⟨((45:UInt8)::l).toArray⟩=⟨l.toArray⟩:=by unfold dS;rw[Gd,if_pos rfl,jE];rfl
theorem wX(n:Int):fJ (zed n)=decide (n<0):=by
 rcases Int.lt_or_le n 0 with h|h
 . obtain⟨m,rfl⟩:∃m:Nat,n= -(m:Int):=⟨n.natAbs,by omega⟩
   rw[Ct (by omega),Gd];simp;omega
 . obtain⟨m,rfl⟩:∃m:Nat,n=m:=⟨n.toNat,by omega⟩
   rw[gW,BJ];simp
theorem jY(n:Int):dS (zed n)=dec n.natAbs:=by
 rcases Int.lt_or_le n 0 with h|h
 . obtain⟨m,rfl⟩:∃m:Nat,n= -(m:Int):=⟨n.natAbs,by omega⟩
   rw[Ct (by omega),V6,Int.natAbs_neg,Int.natAbs_natCast];rfl
 . obtain⟨m,rfl⟩:∃m:Nat,n=m:=⟨n.toNat,by omega⟩
   rw[gW,LL,Int.natAbs_natCast]
theorem sZ(n:Int):fZ (zed n)=true:=by
 unfold fZ;rw[jY,wX,lC];simp only[Bool.true_and,Bool.not_eq_true',Bool.and_eq_false_iff,decide_eq_false_iff_not];by_cases h:n<0
 . right
   refine pJ.2 fun e=>?_
   rw[rC]at e;omega
 . left;exact h
theorem dM(n:Int):kL (zed n)=n:=by
 unfold kL;rw[jY,wX,bW];split
 . rename_i h;simp only[decide_eq_true_eq]at h;omega
 . rename_i h;simp only[decide_eq_true_eq]at h;omega
theorem Bt{s:ByteArray}(h:fZ s=true):zed (kL s)=s:=by
 unfold fZ at h;simp only[Bool.and_eq_true,Bool.not_eq_true',Bool.and_eq_false_iff]at h;obtain⟨h1,F⟩:=h;have I:=jC h1;unfold kL;by_cases E:fJ s=true
 . have Y : dS s ≠ dec 0 := by
     rcases F with F|F
     . rw[E]at F;cases F
     . exact pJ.1 F
   rw[if_pos E];have X:1<=eH (dS s):=by
     rcases Nat.eq_zero_or_pos (eH (dS s))with J|J
     . exact absurd (by rw[<-I,J]) Y
     . exact J
   rw[Ct X];refine lB ?_;rw[jE,<-gZ,I];unfold dS;rw[if_pos E,jE];unfold fJ at E;cases O:bl s with
   | nil=>rw[O]at E;cases E
   | cons c r=>
     rw[O]at E;simp only[List.head?_cons,beq_iff_eq,Option.some.injEq]at E;subst E;rfl
 . rw[if_neg E,gW,I]
   unfold dS;rw[if_neg E]
theorem Yn{m n:Int}:zed m=zed n↔m=n:=⟨fun h=>by rw[<-dM m,h,dM],fun h=>by rw[h]⟩
def szZ(n:Int):ByteArray×Int:=if n.natAbs<cO then(zed n,0)else(emp,4)
def lR(a b:ByteArray):Int:=if(!fZ a|| !fZ b)=true then 3 else if(decide ((dS a).size>4096)||decide ((dS b).size>4096))=true then 4 else 0
def UV(a b:ByteArray):ByteArray×Int:=if lR a b=0 then szZ (kL a+kL b)else(emp,lR a b)
def UD(a b:ByteArray):ByteArray×Int:=if lR a b=0 then szZ (kL a-kL b)else(emp,lR a b)
def zH(a b:ByteArray):ByteArray×Int:=if lR a b=0 then szZ (kL a*kL b)else(emp,lR a b)
def Ej(a b:ByteArray):ByteArray×ByteArray×Int:=if lR a b=0 then(if kL b=0 then(emp,emp,10)else(zed ((kL a).fdiv (kL b)),zed ((kL a).fmod (kL b)),0))else(emp,emp,lR a b)
def iQ(a b:Int):Int:=if a<b then -1 else if b<a then 1 else 0
def Y5(a b:ByteArray):Int:=if fZ a=true/\fZ b=true then iQ (kL a) (kL b)else 0
theorem vC{m n:Int}(E:m.natAbs<cO)(F:n.natAbs<cO):lR (zed m) (zed n)=0:=by
 unfold lR;rw[sZ,sZ,jY,jY];have:=(iB m.natAbs).2 E;have:=(iB n.natAbs).2 F;simp;omega
theorem vI{a b:ByteArray}(h:lR a b=0):∃m n:Int,a=zed m/\b=zed n/\m.natAbs<cO/\n.natAbs<cO:=by
 unfold lR at h;split at h
 . cases h
 . rename_i h1
   split at h
   . cases h
   . rename_i E
     simp only[Bool.or_eq_true,Bool.not_eq_true',not_or,Bool.not_eq_false,decide_eq_true_eq,Nat.not_lt]at h1 E;have I:=Bt h1.1;have F:=Bt h1.2;refine⟨kL a,kL b,I.symm,F.symm,?_,?_⟩
     . have:=E.1
       rw[<-I,jY]at this;exact(iB _).1 this
     . have:=E.2
       rw[<-F,jY]at this;exact(iB _).1 this
def dL:UInt8:=47
def kK(s:ByteArray):Bool:=(bl s).any (· == dL)
def gU(s:ByteArray):ByteArray:=⟨((bl s).takeWhile (· != dL)).toArray⟩
def gJ(s:ByteArray):ByteArray:=if kK s=true then⟨(((bl s).dropWhile (· != dL)).drop 1).toArray⟩else dec 1
def cV(s:ByteArray):Bool:=(fZ (gU s)&&dK (gJ s)&&decide ((dS (gU s)).size<=4096)&&decide ((gJ s).size<=4096)) &&
 (!kK s||(!eqB (gJ s) (dec 0)&& !eqB (gJ s) (dec 1)&& !eqB (gU s) (dec 0)&&Nat.gcd (kL (gU s)).natAbs (eH (gJ s)) == 1))
def jI(s:ByteArray):Rat:=mkRat (kL (gU s)) (eH (gJ s))
def slB:ByteArray:=⟨#[47]⟩
def oE(x:Rat):ByteArray:=if x.den=1 then zed x.num else zed x.num++slB++dec x.den
def sJ(x:Rat):Prop:=x.num.natAbs<cO/\x.den<cO
theorem wL{α:Type}{p:α->Bool}:∀{l:List α},(∀c∈l,p c=true)->l.takeWhile p=l
 | [],_=>rfl
 | a::l,h=>by rw[List.takeWhile_cons,if_pos (h a (by simp)),wL fun c E=>h c (by simp[E])]
theorem Do{α:Type}{p:α->Bool}:∀{l:List α} {c:α},c∈l.takeWhile p->p c=true
 | [],c,h=>by simp at h
 | a::l,c,h=>by
   rw[List.takeWhile_cons]at h;split at h
   . rename_i E
     rcases List.mem_cons.1 h with rfl|h
     . exact E
     . exact Do h
   . cases h
theorem Mo{c:UInt8}(h:isD c=true):(c != dL)=true:=by
 have:=lM.1 h;simp only[bne_iff_ne,ne_eq];intro e;rw[e]at this;simp[dL]at this
theorem DT(n:Nat):∀c∈decDigits n,(c != dL)=true:=fun c E=>Mo (List.all_eq_true.1 (tZ n) c E)
theorem rN(n:Int):∀c∈itoa n,(c != dL)=true:=by
 intro c E;unfold itoa at E;split at E
 . rcases List.mem_cons.1 E with rfl|E
   . decide
   . exact DT _ c E
 . exact DT _ c E
theorem Kt(n:Int):bl (zed n)=itoa n:=jE _
theorem anN:bl slB=[dL]:=rfl
theorem I7{l r:List UInt8}(h:∀c∈l,(c != dL)=true):(l++dL::r).takeWhile (· != dL)=l:=by
 rw[List.takeWhile_append_of_pos h];simp
theorem Hd{l r:List UInt8}(h:∀c∈l,(c != dL)=true):(l++dL::r).dropWhile (· != dL)=dL::r:=by
 rw[List.dropWhile_append_of_pos h];simp
theorem Bj{l:List UInt8}(h:∀c∈l,(c != dL)=true):l.any (· == dL)=false:=by
 rw[List.any_eq_false];intro c E e;have:=h c E;simp at this e;exact this e
theorem Ez(x:Rat):bl (oE x)=if x.den=1 then itoa x.num else itoa x.num++dL::decDigits x.den:=by
 unfold oE;split
 . exact Kt _
 . rw[mJ,mJ,Kt,gZ,anN];simp
theorem Fw(x:Rat):kK (oE x)= !(x.den == 1):=by
 unfold kK;rw[Ez];split
 . rename_i h;rw[Bj (rN _),h];rfl
 . rename_i h
   rw[List.any_append];simp[h]
theorem IU(x:Rat):gU (oE x)=zed x.num:=by
 refine lB ?_;unfold gU;rw[jE,Ez,Kt];split
 . exact wL (rN _)
 . exact I7 (rN _)
theorem Ik(x:Rat):gJ (oE x)=dec x.den:=by
 unfold gJ;rw[Fw,Ez];by_cases h:x.den=1
 . simp[h]
 . simp only[h,beq_eq_false_iff_ne.2 h,Bool.not_false,if_true,if_false]
   rw[Hd (rN _)];rfl
theorem kR(x:Rat):jI (oE x)=x:=by
 unfold jI;rw[IU,Ik,dM,bW,Rat.mkRat_self]
theorem sF(n:Int):(dS (zed n)).size<=4096↔n.natAbs<cO:=by rw[jY];exact iB _
theorem oB{x:Rat}(h:sJ x):cV (oE x)=true:=by
 unfold cV;rw[IU,Ik,sZ,lC,Fw,dM,bW];simp only[Bool.true_and,Bool.and_eq_true,decide_eq_true_eq,Bool.or_eq_true,Bool.not_not,beq_iff_eq,Bool.not_eq_true',pJ,ne_eq];refine⟨⟨(sF _).2 h.1,(iB _).2 h.2⟩,?_⟩;by_cases h1:x.den=1
 . exact .inl h1
 . refine .inr ⟨⟨⟨?_,?_⟩,?_⟩,x.reduced⟩
   . rw[rC];exact x.den_nz
   . rw[rC];exact h1
   . rw[<-gW,Yn]
     intro h0;apply h1;have:=x.reduced;rw[h0]at this;simpa[Nat.Coprime]using this
theorem lV{s:ByteArray}(h:cV s=true):∃x:Rat,s=oE x/\sJ x/\gU s=zed x.num/\gJ s=dec x.den:=by
 unfold cV at h;simp only[Bool.and_eq_true,decide_eq_true_eq,Bool.or_eq_true,Bool.not_eq_true',pJ,ne_eq,beq_iff_eq]at h;obtain⟨⟨⟨⟨h1,h2⟩,h3⟩,h4⟩,I⟩:=h;have ep:=Bt h1;have eq:=jC h2;have F:(kL (gU s)).natAbs.Coprime (eH (gJ s))/\eH (gJ s)≠0:=by
   rcases I with I|⟨⟨⟨h6,_⟩,_⟩,h7⟩
   . have J:gJ s=dec 1:=by unfold gJ;rw[if_neg (by rw[I];simp)]
     rw[J,bW];exact⟨Nat.coprime_one_right _,by omega⟩
   . exact⟨h7,fun e=>h6 (by rw[<-eq,e])⟩
 let x:Rat:=⟨kL (gU s),eH (gJ s),F.2,F.1⟩
 have J:gU s=zed x.num:=ep.symm;have O:gJ s=dec x.den:=eq.symm;refine⟨x,lB ?_,⟨?_,?_⟩,J,O⟩
 . rw[Ez]
   have Z:bl (gU s)=(bl s).takeWhile (· != dL):=jE _;rw[J,Kt]at Z;by_cases E:kK s=true
   . have hd:bl (gJ s)=((bl s).dropWhile (· != dL)).drop 1:=by unfold gJ;rw[if_pos E,jE]
     rw[O,gZ]at hd;have hx:x.den≠1:=fun e=>by
       rcases I with I|⟨⟨⟨_,h6⟩,_⟩,_⟩
       . rw[E]at I;cases I
       . exact h6 (by rw[O,e])
     rw[if_neg hx,Z,hd]
     conv=>lhs;rw[<-List.takeWhile_append_dropWhile (p:=(· != dL)) (l:=bl s)]
     congr 1
     cases hw:(bl s).dropWhile (· != dL)with
     | nil=>
       exfalso
       unfold kK at E;obtain⟨c,Y,X⟩:=List.any_eq_true.1 E;rw[<-List.takeWhile_append_dropWhile (p:=(· != dL)) (l:=bl s),hw,List.append_nil]at Y;have:=Do Y;simp at this X;exact this X
     | cons c r=>
       have h0:(c != dL)=false:=by
         have:=List.head?_dropWhile_not (p:=(· != dL)) (l:=bl s);rw[hw]at this;simpa using this
       have:c=dL:=by simpa using h0
       rw[this];rfl
   . have E:kK s=false:=by simpa using E
     have hx:x.den=1:=by
       have:gJ s=dec 1:=by unfold gJ;rw[E];rfl
       rw[O]at this;exact rC.1 this
     rw[if_pos hx,Z]
     symm
     refine wL ?_;intro c Y;unfold kK at E;rw[List.any_eq_false]at E;have:=E c Y;simp at this |-;exact this
 . rw[J]at h3;exact(sF _).1 h3
 . rw[O]at h4;exact(iB _).1 h4
theorem Ws{s:ByteArray}(h:cV s=true):oE (jI s)=s:=by
 obtain⟨x,rfl,_⟩:=lV h;rw[kR]
def rB(n:Int):Bool:= !decide (n.natAbs<cO)
def pB(x y:Rat):ByteArray×Int:=if(rB (x.num*y.den)||rB (y.num*x.den)||rB (x.num*y.den+y.num*x.den)||rB (x.den*y.den))=true then(emp,4)else(oE (x+y),0)
def Bb(a b:ByteArray):ByteArray×Int:=if(cV a&&cV b)=true then pB (jI a) (jI b)else(emp,3)
def yS(a b:ByteArray):ByteArray×Int:=if(cV a&&cV b)=true then pB (jI a) (-jI b)else(emp,3)
def VS(x y:Rat):Int:=if x<y then -1 else if y<x then 1 else 0
def xW(a b:ByteArray):Int:=if(cV a&&cV b)=true then VS (jI a) (jI b)else 0
theorem Tr{n:Int}{d:Nat}(E:d≠0):n.fdiv (Nat.gcd n.natAbs d:Nat)=(mkRat n d).num:=by
 rw[Rat.num_mkRat,if_neg E,Nat.gcd_comm];exact Int.fdiv_eq_ediv_of_nonneg _ (by omega)
theorem SQ{n:Int}{d:Nat}(E:d≠0):(d:Int).fdiv (Nat.gcd n.natAbs d:Nat)=((mkRat n d).den:Int):=by
 rw[Rat.den_mkRat,if_neg E,Nat.gcd_comm,Int.fdiv_eq_ediv_of_nonneg _ (by omega)];rfl
theorem MI{n:Int}{d:Nat}(F:d≠0)(I:n.natAbs<cO)(E:d<cO):sJ (mkRat n d):=by
 constructor
 . rw[Rat.num_mkRat,if_neg F]
   have:(n/((d.gcd n.natAbs:Nat):Int)).natAbs<=n.natAbs:=by
     rw[Int.natAbs_ediv_of_dvd]
     . exact Nat.div_le_self _ _
     . exact Int.ofNat_dvd_left.2 (Nat.gcd_dvd_right _ _)
   omega
 . rw[Rat.den_mkRat,if_neg F]
   exact Nat.lt_of_le_of_lt (Nat.div_le_self _ _) E
theorem Ug{n:Int}{d:Nat}(E:d≠0):0<Nat.gcd n.natAbs d:=Nat.gcd_pos_of_pos_right _ (by omega)
theorem Vc{n:Int}{d:Nat}(E:d≠0)(h:d<cO):Nat.gcd n.natAbs d<cO:=Nat.lt_of_le_of_lt (Nat.gcd_le_right _ (by omega)) h
theorem qN{n:Int}:rB n=false↔n.natAbs<cO:=by simp[rB]
theorem Kf(x y:Rat):x+y=mkRat (x.num*y.den+y.num*x.den) (x.den*y.den):=Rat.add_def' x y
theorem Ku(x y:Rat):((x.den:Int)*y.den).natAbs=x.den*y.den:=by rw[Int.natAbs_mul,Int.natAbs_natCast,Int.natAbs_natCast]
theorem PT(x y:Rat):x.den*y.den≠0:=Nat.mul_ne_zero x.den_nz y.den_nz
theorem QW{x y:Rat}(h:(pB x y).2=0):pB x y=(oE (x+y),0)/\sJ (x+y):=by
 unfold pB at h |-;split at h
 . cases h
 . rename_i E
   rw[if_neg E];simp only[Bool.or_eq_true,not_or,Bool.not_eq_true,qN]at E;exact⟨rfl,by rw[Kf];exact MI (PT x y) E.1.2 (by rw[<-Ku];exact E.2)⟩
theorem TU{x y:Rat}(h1:(x.num*y.den).natAbs<cO)(I:(y.num*x.den).natAbs<cO)(F:(x.num*y.den+y.num*x.den).natAbs<cO)(E:x.den*y.den<cO):pB x y=(oE (x+y),0):=by
 unfold pB;rw[if_neg];simp only[Bool.or_eq_true,not_or,Bool.not_eq_true,qN];exact⟨⟨⟨h1,I⟩,F⟩,by rw[Ku];exact E⟩
def KN(p q r s:Int):Int:=iQ (p*s) (r*q)
theorem sP{p q:Int}(E:0<q):p=p.fdiv q*q+p.fmod q/\0<=p.fmod q/\p.fmod q<q:=
 ⟨by rw[Int.mul_comm];exact(Int.mul_fdiv_add_fmod p q).symm,Int.fmod_nonneg_of_pos _ E,Int.fmod_lt_of_pos _ E⟩
theorem kP{a b:Int}(h:a<b):iQ a b= -1:=if_pos h
theorem kO{a b:Int}(h:b<a):iQ a b=1:=by unfold iQ;rw[if_neg (by omega),if_pos h]
theorem rX{a b:Int}(h:a=b):iQ a b=0:=by unfold iQ;rw[if_neg (by omega),if_neg (by omega)]
theorem Jm{a b:Int}:iQ a b=0↔a=b:=by
 unfold iQ;constructor
 . intro h
   split at h
   . cases h
   . split at h
     . cases h
     . omega
 . intro h;rw[if_neg (by omega),if_neg (by omega)]
theorem Vw(a b:Int):iQ b a= -iQ a b:=by
 rcases Int.lt_trichotomy a b with h|h|h
 . rw[kP h,kO h];rfl
 . rw[rX h,rX h.symm];rfl
 . rw[kO h,kP h]
theorem O3{p q r s:Int}(F:0<q)(E:0<s)(h:p.fdiv q<r.fdiv s):p*s<r*q:=by
 obtain⟨I,a1,O⟩:=sP (p:=p) F;obtain⟨J,a2,X⟩:=sP (p:=r) E;have h1:p*s<(p.fdiv q+1)*q*s:=by
   refine Int.mul_lt_mul_of_pos_right ?_ E;rw[Int.add_mul];omega
 have Z:(p.fdiv q+1)*q*s<=r.fdiv s*q*s:=Int.mul_le_mul_of_nonneg_right (Int.mul_le_mul_of_nonneg_right (by omega) (by omega)) (by omega);have Y:r.fdiv s*q*s<=r*q:=by
   rw[Int.mul_right_comm];exact Int.mul_le_mul_of_nonneg_right (by omega) (by omega)
 omega
theorem Sl{p q r s:Int}(F:0<q)(E:0<s)(h:p.fdiv q≠r.fdiv s):KN p q r s=iQ (p.fdiv q) (r.fdiv s):=by
 unfold KN;rcases Int.lt_or_gt_of_ne h with h|h
 . rw[kP h,kP (O3 F E h)]
 . rw[kO h,kO (O3 E F h)]
theorem Wy{p q r s:Int}(I:0<q)(E:0<s)(h:p.fdiv q=r.fdiv s):KN p q r s=iQ (p.fmod q*s) (r.fmod s*q):=by
 obtain⟨J,_,_⟩:=sP (p:=p) I;obtain⟨O,_,_⟩:=sP (p:=r) E;unfold KN;have h1:p*s=p.fdiv q*q*s+p.fmod q*s:=by
   conv=>lhs;rw[J]
   rw[Int.add_mul]
 have Y:r*q=p.fdiv q*q*s+r.fmod s*q:=by
   conv=>lhs;rw[O]
   rw[Int.add_mul,<-h,Int.mul_right_comm]
 rw[h1,Y];unfold iQ;have X:(p.fdiv q*q*s+p.fmod q*s<p.fdiv q*q*s+r.fmod s*q)↔p.fmod q*s<r.fmod s*q:=by omega
 have F:(p.fdiv q*q*s+r.fmod s*q<p.fdiv q*q*s+p.fmod q*s)↔r.fmod s*q<p.fmod q*s:=by omega
 simp only[X,F]
theorem WI(x q y s:Int):iQ (x*s) (y*q)= -KN q x s y:=by
 unfold KN;rw[Int.mul_comm q y,Int.mul_comm s x];exact Vw _ _
theorem alB(x y:Rat):VS x y=KN x.num x.den y.num y.den:=by
 unfold VS KN iQ;simp only[Rat.lt_iff]
theorem Al(b:Nat)(l:List Nat)(k:Nat):ofL b (l.take (k+1))=ofL b (l.take k)+b^k*l.getD k 0:=by
 cases h:l[k]? with
 | none=>
   have E:=List.getElem?_eq_none_iff.1 h;rw[List.take_of_length_le (by omega),List.take_of_length_le (by omega)];simp[List.getD,h]
 | some x=>rw[lH b h];simp[List.getD,h]
theorem Lim.getD{b:Nat}(F:0<b){l:List Nat}(h:Lim b l)(k:Nat):l.getD k 0<b:=by
 cases E:l[k]? with
 | none=>simpa[List.getD,E]using F
 | some x=>simpa[List.getD,E]using h x (List.mem_of_getElem? E)
theorem Lim.snoc{b:Nat}{l:List Nat}(h:Lim b l){x:Nat}(F:x<b):Lim b (l++[x]):=fun y E=>by
 rcases List.mem_append.1 E with E|E
 . exact h y E
 . rw[List.mem_singleton.1 E];exact F
theorem Lim.set{b:Nat}{l:List Nat}(h:Lim b l){x k:Nat}(F:x<b):Lim b (l.set k x):=fun y E=>by
 rcases List.mem_or_eq_of_mem_set E with E|rfl
 . exact h y E
 . exact F
theorem Lim.take{b:Nat}{l:List Nat}(h:Lim b l)(k:Nat):Lim b (l.take k):=fun y E=>h y (List.mem_of_mem_take E)
theorem Lim.drop{b:Nat}{l:List Nat}(h:Lim b l)(k:Nat):Lim b (l.drop k):=fun y E=>h y (List.mem_of_mem_drop E)
theorem Lim.zeros{b:Nat}(F:0<b)(n:Nat):Lim b (List.replicate n 0):=fun y E=>by
 rw[(List.mem_replicate.1 E).2];exact F
theorem yD(b:Nat){l:List Nat}{k x:Nat}(h:l[k]?=some x):ofL b (l.drop k)=x+b*ofL b (l.drop (k+1)):=by
 obtain⟨F,E⟩:=List.getElem?_eq_some_iff.1 h;rw[List.drop_eq_getElem_cons F,E,ofL]
theorem Rr{b:Nat}(J:0<b){l o:List Nat}{i n k c:Nat}(F:l[i]?=some n)(E:o.length=i)(h:ofL b o+b^i*c=ofL b (l.take i)*k):
   ofL b (o++[(n*k+c)%b])+b^(i+1)*((n*k+c)/b)=ofL b (l.take (i+1))*k:=by
 rw[vL,lH b F,E,Nat.pow_succ];have e:=Nat.mod_add_div (n*k+c) b;have I:b^i*((n*k+c)%b+b*((n*k+c)/b))=b^i*(n*k+c):=by rw[e]
 grind
theorem W0{b:Nat}(I:0<b){x y o:List Nat}{i c:Nat}(E:o.length=i)(h:ofL b o+b^i*c=ofL b (x.take i)+ofL b (y.take i)):
   ofL b (o++[(x.getD i 0+y.getD i 0+c)%b])+b^(i+1)*((x.getD i 0+y.getD i 0+c)/b)=ofL b (x.take (i+1))+ofL b (y.take (i+1)):=by
 rw[vL,Al,Al,E,Nat.pow_succ];have e:=Nat.mod_add_div (x.getD i 0+y.getD i 0+c) b;have F:b^i*((x.getD i 0+y.getD i 0+c)%b+b*((x.getD i 0+y.getD i 0+c)/b))=b^i*(x.getD i 0+y.getD i 0+c):=by rw[e]
 grind
theorem FI{b:Nat}{x y o:List Nat}{i c c' d:Nat}(E:o.length=i)(h:ofL b o+ofL b (y.take i)=ofL b (x.take i)+b^i*c)(F:d+y.getD i 0+c=x.getD i 0+b*c'):
   ofL b (o++[d])+ofL b (y.take (i+1))=ofL b (x.take (i+1))+b^(i+1)*c':=by
 rw[vL,Al,Al,E,Nat.pow_succ];have I:b^i*(d+y.getD i 0+c)=b^i*(x.getD i 0+b*c'):=by rw[F]
 grind
theorem D9{b x y c:Nat}(E:x<b)(I:y<b)(F:c<=1):(if(x:Int)-y-c<0 then(x:Int)-y-c+b else(x:Int)-y-c)=((if x<y+c then x+b-(y+c)else x-(y+c):Nat):Int):=by
 split <;> split <;> omega
theorem Bx{b x y c:Nat}(E:x<b)(I:y<b)(F:c<=1):(if x<y+c then x+b-(y+c)else x-(y+c))+y+c=x+b*(if x<y+c then 1 else 0)/\(if x<y+c then x+b-(y+c)else x-(y+c))<b:=by
 split <;> constructor <;> omega
theorem He{b:Nat}(Z:2<=b){x y o:List Nat}{c:Nat}(O:Lim b o)(X:Lim b x)(I:o.length=x.length)(F:y.length<=x.length)(J:ofL b y<=ofL b x)(Y:c<=1)(h:ofL b o+ofL b (y.take x.length)=ofL b (x.take x.length)+b^x.length*c):
   c=0/\ofL b o=ofL b x-ofL b y:=by
 rw[List.take_of_length_le F,List.take_length]at h;have h1:=oH (by omega) O;rw[I]at h1;rcases Nat.eq_zero_or_pos c with E|E
 . subst E;rw[Nat.mul_zero]at h;omega
 . have:c=1:=by omega
   subst this;rw[Nat.mul_one]at h;omega
theorem X0{b:Nat}(Y:0<b){y out F:List Nat}{i k x c v E:Nat}(I:out[i+k]?=some v)(J:y[k]?=some E)(h:ofL b out+b^(i+k)*c=ofL b F+b^i*(x*ofL b (y.take k))):
   ofL b (out.set (i+k) ((v+x*E+c)%b))+b^(i+(k+1))*((v+x*E+c)/b)=ofL b F+b^i*(x*ofL b (y.take (k+1))):=by
 have h1:=KR b out (i+k) v ((v+x*E+c)%b) I;have e:=Nat.mod_add_div (v+x*E+c) b;have X:b^(i+k)*((v+x*E+c)%b+b*((v+x*E+c)/b))=b^(i+k)*(v+x*E+c):=by rw[e]
 rw[lH b J,show i+(k+1)=(i+k)+1 by omega,Nat.pow_succ];have O:b^(i+k)=b^i*b^k:=Nat.pow_add b i k
 grind
theorem agR{b:Nat}{y out E:List Nat}{i x c:Nat}(F:out[i+y.length]?=some 0)(h:ofL b out+b^(i+y.length)*c=ofL b E+b^i*(x*ofL b (y.take y.length))):
   ofL b (out.set (i+y.length) c)=ofL b E+b^i*(x*ofL b y):=by
 have h1:=KR b out (i+y.length) 0 c F;rw[List.take_length]at h;rw[<-h];omega
theorem Yg{b r a:Nat}(Z:2<=b){l:List Nat}{i x:Nat}{E:List Nat}(O:l[i]?=some x)(I:x<b)(Y:r<a)(X:i<E.length)(h:ofL b (l.drop (i+1))=ofL b (E.drop (i+1))*a+r):
   ofL b (l.drop i)=ofL b ((E.set i ((x+b*r)/a)).drop i)*a+(x+b*r)%a/\(x+b*r)/a<b/\(x+b*r)%a<a:=by
 have F:0<a:=by omega
 have J:(E.set i ((x+b*r)/a))[i]?=some ((x+b*r)/a):=by simp[X]
 refine⟨?_,?_,Nat.mod_lt _ F⟩
 . rw[yD b O,yD b J,h,List.drop_set_of_lt (by omega)]
   have e:=Nat.mod_add_div (x+b*r) a
   grind
 . rw[Nat.div_lt_iff_lt_mul F]
   have:b*(r+1)<=b*a:=Nat.mul_le_mul_left _ Y;rw[Nat.mul_add]at this;omega
theorem acZ{q r a n:Nat}(E:r<a)(h:n=q*a+r):q=n/a/\r=n%a:=by
 subst h;have F:0<a:=by omega
 constructor
 . rw[Nat.add_comm,Nat.add_mul_div_right _ _ F,Nat.div_eq_of_lt E,Nat.zero_add]
 . rw[Nat.add_comm,Nat.add_mul_mod_self_right,Nat.mod_eq_of_lt E]
theorem YH(l:List UInt8):∀a:Nat,l.foldl (fun a c=>10*a+(c.toNat-48)) a=a*10^l.length+gN l:=by
 induction l with
 | nil=>intro a;simp[gN]
 | cons c l ih=>
   intro a;have h1:=ih (10*a+(c.toNat-48));have E:=ih (10*0+(c.toNat-48));simp only[List.foldl_cons,gN]at h1 E |-;rw[h1,E,List.length_cons,Nat.pow_succ]
   grind
theorem tM(a b:List UInt8):gN (a++b)=gN a*10^b.length+gN b:=by
 rw[gN,List.foldl_append];exact YH b _
theorem EG{l:List UInt8}(h:l.all isD=true):gN l<10^l.length:=by
 induction l using EJ with
 | h0=>simp[gN]
 | h1 l c ih=>
   rw[List.all_append]at h;simp only[Bool.and_eq_true,List.all_cons,List.all_nil,Bool.and_true]at h;have:=ih h.1;have E:=lM.1 h.2;rw[mR,List.length_append,List.length_cons,List.length_nil,Nat.pow_succ];omega
def Oj:Nat->Nat->List UInt8
 | 0,_=>[]
 | k+1,x=>Oj k (x/10)++[UInt8.ofNat (48+x%10)]
theorem Hq:∀(k x m:Nat),x<10^k->m≠0->decDigits (x+10^k*m)=decDigits m++Oj k x
 | 0,x,m,hx,hm=>by
   have:x=0:=by simpa using hx
   subst this;simp[Oj]
 | k+1,x,m,hx,hm=>by
   rw[Nat.pow_succ]at hx;have h1:10^(k+1)*m=10*(10^k*m):=by rw[Nat.pow_succ,Nat.mul_comm (10^k) 10,Nat.mul_assoc]
   have E:0<10^k*m:=Nat.mul_pos (Nat.pow_pos (by omega)) (by omega);rw[h1,decDigits,dif_neg (by omega),show(x+10*(10^k*m))/10=x/10+10^k*m by omega,show(x+10*(10^k*m))%10=x%10 by omega,Hq k (x/10) m (by omega) hm,Oj,List.append_assoc]
theorem VG(k:Nat):Oj k 0=List.replicate k 48:=by
 induction k with
 | zero=>rfl
 | succ k ih=>
   rw[Oj,Nat.zero_div,ih,List.replicate_succ'];rfl
theorem SP:∀(k x:Nat),1<=k->x<10^k->Oj k x=List.replicate (k-(decDigits x).length) 48++decDigits x
 | 0,x,hk,hx=>by omega
 | k+1,x,hk,hx=>by
   rw[Oj];by_cases F:x<10
   . rw[show x/10=0 by omega,VG,decDigits_one F]
     simp[Nat.mod_eq_of_lt F]
   . have E : 1 <= k := by
       rcases Nat.eq_zero_or_pos k with h|h
       . subst h;simp at hx;omega
       . exact h
     rw[Nat.pow_succ]at hx;rw[SP k (x/10) E (by omega)]
     conv=>rhs;rw[decDigits,dif_neg F]
     rw[List.length_append,List.length_cons,List.length_nil,List.append_assoc,show k+1-((decDigits (x/10)).length+(0+1))=k-(decDigits (x/10)).length by omega]
def aBb(x:Nat):List UInt8:=List.replicate (9-(decDigits x).length) 48++decDigits x
theorem Zk{x m:Nat}(E:x<1000000000)(F:m≠0):decDigits (x+1000000000*m)=decDigits m++aBb x:=by
 have:=Hq 9 x m E F;rw[SP 9 x (by omega) E]at this;exact this
theorem Ya{b:Nat}(E:2<=b){n k:Nat}(F:k<(bK b n).length):ofL b ((bK b n).drop k)≠0:=by
 intro h;have O:n≠0:=fun e=>by subst e;rw[eZ]at F;simp at F
 have h1:=Ru E O;have I:ofL b (bK b n)=ofL b ((bK b n).take k)+b^k*ofL b ((bK b n).drop k):=by
   have:=pS b ((bK b n).take k) ((bK b n).drop k);rw[List.take_append_drop,List.length_take,Nat.min_eq_left (by omega)]at this;exact this
 rw[eO E,h,Nat.mul_zero,Nat.add_zero]at I;have J:=oH (b:=b) (by omega) ((eF E n).take k);rw[List.length_take,Nat.min_eq_left (by omega),<-I]at J;have:b^k<=b^((bK b n).length-1):=Nat.pow_le_pow_right (by omega) (by omega);omega
def dl(l:List UInt8):List Nat:=(l.map fun c=>c.toNat-48).reverse
theorem Gx(l:List UInt8):(dl l).length=l.length:=by simp[dl]
theorem Q3(l:List UInt8):ofL 10 (dl l)=gN l:=by
 induction l using EJ with
 | h0=>rfl
 | h1 l c ih=>
   rw[mR,<-ih];simp only[dl,List.map_append,List.map_cons,List.map_nil,List.reverse_append,List.reverse_cons,List.reverse_nil,List.nil_append,List.singleton_append,ofL];omega
theorem Q0{l:List UInt8}(h:l.all isD=true):Lim 10 (dl l):=by
 intro x E;simp only[dl,List.mem_reverse,List.mem_map]at E;obtain⟨c,F,rfl⟩:=E;have:=lM.1 (List.all_eq_true.1 h c F);omega
def txt(l:List Nat):List UInt8:=(l.map fun x=>UInt8.ofNat (48+x)).reverse
theorem adM{l:List Nat}(h:Lim 10 l):(txt l).all isD=true:=by
 rw[List.all_eq_true];intro c E;simp only[txt,List.mem_reverse,List.mem_map]at E;obtain⟨x,F,rfl⟩:=E;have:=h x F;rw[lM,mQ this];omega
theorem amT{l:List Nat}(h:Lim 10 l):dl (txt l)=l:=by
 simp only[dl,txt,List.map_reverse,List.reverse_reverse,List.map_map]
 conv=>rhs;rw[<-List.map_id l]
 refine List.map_congr_left fun x E=>?_
 simp only[Function.comp,mQ (h x E),id];omega
theorem Xu{l:List Nat}(h:Lim 10 l):gN (txt l)=ofL 10 l:=by rw[<-Q3,amT h]
theorem HF{n:Nat}(E:n≠0):txt (bK 10 n)=decDigits n:=by
 induction n using Nat.strongRecOn with
 | _ n ih=>
   rw[sG (by omega) E,decDigits];simp only[txt,List.map_cons,List.reverse_cons];split
   . rename_i h
     rw[show n/10=0 by omega,eZ,Nat.mod_eq_of_lt h];rfl
   . rename_i h
     rw[<-ih (n/10) (by omega) (by omega)];rfl
end Go.Nu
end
section
namespace Go.Proofs.YtdlijlecpopadaaGreatDoor.Nu
open Go.Proofs.Tryz(prog)
open Go.Aw Go.Aw.D Go.Proofs Ty Go.Nu
abbrev bas:Nat:=1000000000
def jN(n:Nat):List AV:=[int n]
theorem LS(n:Nat):(jN n).length=1:=(rfl)
theorem amN(n:Nat):(jN n).getD 0 .any=int n:=(rfl)
attribute [go_sem] LS amN
theorem cI{H:aJ}{k:IntKind}{a b:Int}(h:a=b):Conv H (.v (.int k a)) (.v (.int k b)):=h▸.refl _
theorem cB{H:aJ}{a b:Bool}(h:a=b):Conv H (.v (.bool a)) (.v (.bool b)):=h▸.refl _
theorem cS{H:aJ}{a b:ByteArray}(h:a=b):Conv H (.v (.string a)) (.v (.string b)):=h▸.refl _
theorem ltB{k n:Nat}(h:decide ((k:Int)<(n:Int))=true):k<n:=by simpa using h
theorem geB{k n:Nat}(E:k<=n)(h:decide ((k:Int)<(n:Int))=false):k=n:=by
 have:¬k<n:=by simpa using h
 omega
theorem awV(s:ByteArray):s.toList=bl s:=ByteArray.toList_eq s
theorem allN(l:List Nat):cZ 1 (l.map jN):=AY LS l
theorem axV(s:ByteArray)(k:Nat):s.data.getD k 0=(bl s).getD k 0:=by simp[bl,Array.getD_eq_getD_getElem?,List.getD]
theorem aoB(a:Array UInt8):bl ⟨a⟩=a.toList:=rfl
attribute [go_sem] awV axV aoB
theorem SB{α:Type}{q:α->Bool}{l:List α}{k:Nat}{c:α}(h:l[k]?=some c)(E:q c=false):l.all q=false:=by
 cases F:l.all q with
 | false=>rfl
 | true=>
   have:=Xao.1 F c (Xad h);rw[E]at this;cases this
theorem Kx{α:Type}{q:α->Bool}{l:List α}(h:∀c∈l,q c=true):l.all q=true:=Xao.2 h
theorem vF{α:Type}{p:α->Prop}{l:List α}{k:Nat}{x:α}(I:l[k]?=some x)(F:p x)(h:∀x∈l.take k,p x):∀x∈l.take (k+1),p x:=by
 rw[bX I];intro y E;rcases Xaq.1 E with E|E
 . exact h y E
 . rw[Xak.1 E];exact F
theorem aAE{c:UInt8}{n:Nat}(E:n<256):(((c.toNat:Int) == (n:Int))=true)↔c=UInt8.ofNat n:=by
 rw[Xas];constructor
 . intro h
   have:c.toNat=n:=by omega
   rw[<-this,UInt8.ofNat_toNat]
 . intro h
   rw[h,UInt8.toNat_ofNat'];omega
theorem Sh(l:List UInt8):(l == []||(((l.getD 0 0).toNat:Int) == 48&& !(l == [48])))= !(l != []&&(l.length == 1||l.getD 0 0 != 48)):=by
 cases l with
 | nil=>rfl
 | cons c r=>
   have E:(((c.toNat:Int) == 48)=true)↔c=48:=aAE (n:=48) (by omega);by_cases h:c=48
   . subst h
     cases r <;> rfl
   . have h1 : ((c.toNat : Int) == 48) = false := by
       rw[<-Xch,E];exact h
     simp[h1,h]
theorem K9(c:UInt8):(decide ((c.toNat:Int)<48)||decide ((c.toNat:Int)>57))= !isD c:=by
 unfold isD;rw[Xar];simp only[Xbc,decide_eq_true_eq,Xbh,Bool.and_eq_false_iff,decide_eq_false_iff_not];omega
theorem u8w{n:Nat}(h:48<=n)(E:n<256):IntKind.u8.wrap ((n:Int)-48)=((n-48:Nat):Int):=by
 have e:IntKind.u8.wrap ((n:Int)-48)=((n:Int)-48)%256:=rfl;rw[e];omega
theorem qC{l:List UInt8}{k:Nat}{c:UInt8}(h:l[k]?=some c):l.getD k 0=c:=by simp[List.getD,h]
theorem B7(s:ByteArray)(h:s.size<=4611686018427387904):PC prog 85 [str s] (boo (dK s)):=by
 have hs:=cF s;refine pcd Tryz.func85 ?_;unfold Tryz.f85;simp only[gdS];simp only[go_sem];refine⟨fun h0=>⟨by omega,?_⟩,?_⟩
 . have:bl s≠[]:=by simpa using h0
   have:=Xcy.2 this;omega
 rw[Sh];refine aB (fun X=>?_) (fun X=>?_)
 . simp only[go_sem]
   refine cB ?_;unfold dK eK;rw[Xbh]at X;rw[X];rfl
 rw[Xcb]at X;simp only[go_sem];refine⟨fun ρ _=>∃k:Nat,k<=(bl s).length/\ρ 0=str s/\ρ 16=int s.size/\ρ 17=int k/\∀c∈(bl s).take k,isD c=true,fun ρ _=>(bl s).length-aX (ρ 17),⟨0,Xab _,rfl,rfl,rfl,by simp⟩,?_⟩;rintro ρ H ⟨k,hk,h0,O,J,Y⟩;simp only[go_sem,h0,O,J];refine aB (fun E=>?_) (fun F=>?_)
 . have E:k<(bl s).length:=by have:=ltB E;omega
   obtain⟨c,Z⟩:=aQ E;have hi:=qC Z;simp only[go_sem,h0,O,J,hi,K9];refine⟨⟨by omega,by omega⟩,fun _=>⟨by omega,by omega⟩,aB (fun I=>?_) (fun I=>?_)⟩
   . simp only[go_sem]
     refine cB ?_;unfold dK eK;rw[SB Z (by simpa using I),Bool.and_false]
   . simp only[go_sem,h0,O,J,aS (show k<=4611686018427387904 by omega)]
     exact⟨⟨k+1,E,rfl,vF Z (by simpa using I) Y⟩,by simp only[aG];omega⟩
 . have F:k=(bl s).length:=by rw[<-hs]at F;exact geB hk F
   subst F;rw[Xaf]at Y;simp only[go_sem];refine cB ?_;unfold dK eK;rw[X,Kx Y];rfl
theorem vU:∀(l:List Nat) (x:Nat),mS (l++[x])=if x=0 then mS l else l++[x]
 | [],x=>by simp only[Xbd,mS]
 | y::l,x=>by
   rw[List.cons_append,mS,vU l x];by_cases h:x=0
   . rw[if_pos h,if_pos h,mS]
   . rw[if_neg h,if_neg h]
     cases l <;> rfl
theorem apC(l:List Nat)(h:l.length<=4611686018427387904):PC prog 185 [.sl (l.map jN)] (.sl ((mS l).map jN)):=by
 refine pcd Tryz.func185 ?_;unfold Tryz.f185;simp only[gdS];simp only[go_sem];refine⟨fun ρ _=>∃k:Nat,k<=l.length/\ρ 0=.sl ((l.take k).map jN)/\mS (l.take k)=mS l,fun ρ _=>match ρ 0 with| .sl es=>es.length|_=>0,⟨l.length,Xag _,by rw[Xaf];rfl,by rw[Xaf]⟩,?_⟩;rintro ρ H ⟨k,hk,h0,I⟩;have F:(l.take k).length=k:=by rw[Xax];omega
 cases k with
 | zero=>
   simp only[go_sem,h0,F,show decide (((0:Nat):Int)>0)=false from rfl];refine aB (fun J=>by cases J) (fun _=>?_);simp only[go_sem,h0];have Y:mS l=[]:=by rw[<-I];rfl
   rw[Y];exact .refl _
 | succ k=>
 have Z:IntKind.i64.wrap (((k+1:Nat):Int)-1)=(k:Int):=by rw[aW (by omega)];omega
 obtain⟨x,hx⟩:=aQ (show k<l.length by omega);have X:(l.take (k+1))[k]?=some x:=by rw[List.getElem?_take,if_pos (by omega)];exact hx
 have O:l.take (k+1)=l.take k++[x]:=bX hx;simp only[go_sem,h0,F,Z,aH X,show decide (((k+1:Nat):Int)>0)=true from decide_eq_true (by omega)];refine⟨⟨by omega,by omega⟩,aB (fun J=>?_) (fun J=>?_)⟩
 . have E:x=0:=by simpa using J
   simp only[go_sem,h0,F,Z];refine⟨by omega,⟨⟨k,by omega,?_,?_⟩,?_⟩⟩
   . rw[<-List.map_take,List.take_take,Xci (by omega)]
   . rw[O,vU,if_pos E]at I;exact I
   . rw[<-List.map_take,Xaa,Xax];omega
 . have E:x≠0:=by simpa using J
   simp only[go_sem,h0];rw[O,vU,if_neg E]at I;rw[O,I];exact .refl _
abbrev nl(n:Nat):AV:=.sl ((bK bas n).map jN)
theorem KP:nl 0=.sl []:=by
 simp only[nl,eZ];rfl
theorem Je{l:List Nat}(E:Lim bas l)(h:l.length<=4611686018427387904){n:Nat}(F:ofL bas l=n):PC prog 185 [.sl (l.map jN)] (nl n):=by
 have:=apC l h
 rwa [J1 (by decide) E F]at this
def dA(l:List Nat):Row:=⟨3,1,l.map jN⟩
theorem vE{H:aJ}{k:Nat}{l:List Nat}{x:Nat}:aI H k (some ⟨3,1,l.map jN++[[int (x:Int)]]⟩) k=some (dA (l++[x])):=by
 rw[aA];simp only[dA,Xat,Xbk,List.map_nil];rfl
theorem YJ(s:ByteArray)(hr:(bl s).all isD=true)(h:s.size<=4096):PC prog 184 [str s] (nl (eH s)):=by
 have hs:=cF s;refine pcb (fun t=>t == 3) Tryz.func184 ?_;unfold Tryz.f184;simp only[gdS];simp only[go_sem];refine aN fun j hj=>?_
 simp only[go_sem];refine⟨fun ρ H=>∃(m j:Nat) (o:List Nat),m<=(bl s).length/\ρ 0=str (s.extract 0 m)/\ρ 3=.os j/\H j=some (dA o)/\Lim bas o/\o.length<=(bl s).length-m/\ofL bas o+bas^o.length*gN ((bl s).take m)=eH s,fun ρ _=>match ρ 0 with| .v (.string t)=>t.size|_=>0,⟨(bl s).length,j,[],Xag _,?_,by simp only[go_sem],aA _ _ _,by simp[Lim],by simp,?_⟩,?_⟩
 . rw[show s.extract 0 (bl s).length=s from lB (by rw[fQ,Xaf,Xbr])];rfl
 . rw[Xaf];simp[ofL,eH]
 clear hj j;rintro ρ H ⟨m,j,o,hm,h0,F,X,ho,ad,hv⟩;have E:(s.extract 0 m).size=m:=by rw[<-cF,fQ,Xbr,Xax];omega
 simp only[go_sem,h0,F,E];refine aB (fun hb=>?_) (fun hb=>?_)
 . have Y:0<m:=by simpa using hb
   have e9:gA 0 (IntKind.i64.wrap ((m:Int)-9))=((m-9:Nat):Int):=by
     rw[aW (by omega)];unfold gA;split <;> omega
   simp only[go_sem,h0,F,E];refine⟨fun ρ H=>∃i:Nat,m-9<=i/\i<=m/\ρ 0=str (s.extract 0 m)/\ρ 3=.os j/\ρ 4=int (m-9:Nat)/\ρ 5=int (gN (((bl s).take i).drop (m-9)):Nat)/\ρ 6=int i/\H j=some (dA o),fun ρ _=>m-aX (ρ 6),
     ⟨m-9,Xag _,by omega,by simp only[go_sem,h0],by simp only[go_sem,F],?_,?_,?_,X⟩,?_⟩
   . simp only[go_sem,e9]
   . simp only[go_sem]
     rw[List.drop_eq_nil_of_le (by rw[Xax];omega)];rfl
   . simp only[go_sem,e9]
   clear h0 F X;rintro ρ H ⟨i,ae,ac,h0,F,h4,h5,h6,X⟩;simp only[go_sem,h0,F,h4,h5,h6,E];refine aB (fun J=>?_) (fun O=>?_)
   . have J:i<m:=ltB J
     obtain⟨c,I⟩:=aQ (show i<(bl s).length by omega);have hx:(bl (s.extract 0 m)).getD i 0=c:=by rw[fQ,Xbr];exact qC (by rw[List.getElem?_take,if_pos J];exact I)
     have hd:=lM.1 (Xao.1 hr c (Xad I));have ab:=EG (l:=((bl s).take i).drop (m-9)) (Xao.2 fun c I=>Xao.1 hr c (List.mem_of_mem_take (List.mem_of_mem_drop I)));have aa:10^(((bl s).take i).drop (m-9)).length<=10^9:=Xay (by omega) (by rw[Xbl,Xax];omega);have e1:((bl s).take (i+1)).drop (m-9)=((bl s).take i).drop (m-9)++[c]:=by
       rw[bX I,List.drop_append_of_le_length (by rw[Xax];omega)]
     have e2:IntKind.i64.wrap (IntKind.i64.wrap (10*((gN (((bl s).take i).drop (m-9)):Nat):Int))+IntKind.i64.wrap (IntKind.u8.wrap ((c.toNat:Int)-48)))=((gN (((bl s).take (i+1)).drop (m-9)):Nat):Int):=by
       rw[e1,mR,u8w hd.1 (by omega)];generalize gN (((bl s).take i).drop (m-9))=V at *;rw[show IntKind.i64.wrap (10*(V:Int))=10*(V:Int)from aW (by omega),show IntKind.i64.wrap (((c.toNat-48:Nat):Int))=((c.toNat-48:Nat):Int)from aW (by omega),aW (by omega)];omega
     simp only[go_sem,h0,F,h4,h5,h6,E,hx,e2,aS (show i<=4611686018427387904 by omega)];exact⟨⟨by omega,by omega⟩,⟨i+1,by omega,by omega,rfl,rfl,X⟩,by simp only[aG];omega⟩
   . have O:i=m:=geB ac O
     subst O;simp only[go_sem,h0,F,h4,h5,h6,E];have hL:(((bl s).take i).drop (i-9)).length=i-(i-9):=by rw[Xbl,Xax];omega
     have hA:(((bl s).take i).drop (i-9)).all isD=true:=Xao.2 fun c I=>Xao.1 hr c (List.mem_of_mem_take (List.mem_of_mem_drop I))
     have ab:=EG hA;have aa:10^(((bl s).take i).drop (i-9)).length<=10^9:=Xay (by omega) (by omega);have Z:gN ((bl s).take i)=gN ((bl s).take (i-9))*10^(((bl s).take i).drop (i-9)).length+gN (((bl s).take i).drop (i-9)):=by
       rw[<-tM]
       congr 1
       conv=>lhs;rw[<-Xcz (i-9) ((bl s).take i)]
       rw[List.take_take,Xci (by omega)]
     generalize gN (((bl s).take i).drop (i-9))=x at *;refine bG X ⟨rfl,rfl⟩ ⟨rfl,trivial⟩ (by simp only[dA,Xaa,Xac,List.length_nil];omega) (fun j' af=>?_);simp only[go_sem,h0,F,h4,h5,h6,E];refine⟨⟨by omega,by omega⟩,⟨⟨i-9,j',o++[x],by omega,?_,rfl,vE,ho.snoc (show x<1000000000 by omega),?_,?_⟩,?_⟩⟩
     . congr 2
       refine lB ?_;rw[fQ,fQ,fQ];simp only[Xbr,List.take_take];rw[Xci (by omega)]
     . rw[Xae,Xac,List.length_nil];omega
     . rw[<-hv,Z,vL,Xae,Xac,List.length_nil,Xbs]
       by_cases h9:9<=i
       . rw[hL,show i-(i-9)=9 by omega]
         grind
       . rw[show i-9=0 by omega]
         simp only[List.take_zero,gN,List.foldl_nil]
         grind
     . rw[<-cF,fQ,fQ]
       simp only[Xbr,Xax];omega
 . have Y:m=0:=by simpa using hb
   subst Y;simp only[go_sem,h0,F];refine PC.useF [j] (.cons _ _ _ _ (.row _ _ _ (by simp[X];rfl) (ConvE.refl _)) .nil) (Je ho (by omega) (n:=eH s) (by rw[<-hv];simp[gN])) ?_;simp only[go_sem];exact .refl _
theorem neN{a b:Nat}(h:((a:Int) != (b:Int))=true):a≠b:=by
 rw[bne_iff_ne]at h;omega
theorem eqN{a b:Nat}(h:((a:Int) != (b:Int))=false):a=b:=by
 rw[bne_eq_false_iff_eq]at h;omega
theorem aiD{a b:Int}(h:a<=b):iQ a b<=0:=by
 unfold iQ;split
 . omega
 . rw[if_neg (by omega)];omega
theorem TM(n:Int):PC prog 76 [int n] (boo false):=by
 refine pcd Tryz.func76 ?_;unfold Tryz.f76;simp only[gdS];simp only[go_sem];exact cB (by simp)
theorem Bd(a b:Int):PC prog 38 [int a,int b] (int (iQ a b)):=by
 refine pcd Tryz.func38 ?_;unfold Tryz.f38;simp only[gdS];simp only[go_sem];refine PC.use (TM a) ?_;simp only[go_sem];refine PC.use (TM b) ?_;simp only[go_sem];refine aB (fun h=>by cases h) (fun _=>?_);simp only[go_sem];refine aB (fun h=>by cases h) (fun _=>?_);simp only[go_sem];refine aB (fun h=>?_) (fun h=>?_)
 . simp only[go_sem]
   exact cI (by rw[kP (by simpa using h)])
 . simp only[go_sem]
   refine aB (fun E=>?_) (fun E=>?_)
   . simp only[go_sem]
     exact cI (by rw[kO (by simpa using E)])
   . simp only[go_sem]
     exact cI (by rw[rX (by simp at h E;omega)])
theorem Q6(l:List Nat)(i:Nat)(hi:i<=4611686018427387904):PC prog 166 [.sl (l.map jN),int i] (int (l.getD i 0:Nat)):=by
 refine pcd Tryz.func166 ?_;unfold Tryz.f166;simp only[gdS];simp only[go_sem];refine aB (fun h=>?_) (fun h=>?_)
 . have h:=ltB h
   obtain⟨x,E⟩:=aQ h;have F:=inB h;simp only[go_sem,aH E,F];exact cI (by simp[List.getD,E])
 . simp only[go_sem]
   have h:¬i<l.length:=by simpa using h
   exact cI (by simp[List.getD,List.getElem?_eq_none (by omega:l.length<=i)])
theorem afV{l r:List Nat}(I:Lim bas l)(X:Lim bas r)(E:l.length=r.length){k x y:Nat}(J:l[k]?=some x)(Y:r[k]?=some y)(O:l.drop (k+1)=r.drop (k+1))(F:x≠y):iQ (x:Int) y=iQ (ofL bas l) (ofL bas r):=by
 rcases Nat.lt_or_gt_of_ne F with h|h
 . have:=JD (b:=bas) (by decide) I X E J Y h O
   rw[kP (by omega),kP (by omega)]
 . have:=JD (b:=bas) (by decide) X I E.symm Y J h O.symm
   rw[kO (by omega),kO (by omega)]
theorem Dr(m n:Nat)(hm:(bK bas m).length<=1048576)(hn:(bK bas n).length<=1048576):PC prog 167 [nl m,nl n] (int (iQ m n)):=by
 have om:=eO (b:=bas) (by decide) m;have on:=eO (b:=bas) (by decide) n;have lm:=eF (b:=bas) (by decide) m;have ln:=eF (b:=bas) (by decide) n;have Y:(bK bas m).length<(bK bas n).length->m<n:=Iy (by decide);have Z:(bK bas n).length<(bK bas m).length->n<m:=Iy (by decide);simp only[nl];generalize bK bas m=a at *;generalize bK bas n=b at *;refine pcd Tryz.func167 ?_;unfold Tryz.f167;simp only[gdS];simp only[go_sem];refine aB (fun h=>?_) (fun h=>?_)
 . simp only[go_sem]
   refine PC.use (Bd _ _) ?_;simp only[go_sem];refine cI ?_;have h:a.length≠b.length:=neN h;rcases Nat.lt_or_gt_of_ne h with h|h
   . have:=Y h
     rw[kP (by omega),kP (by omega)]
   . have:=Z h
     rw[kO (by omega),kO (by omega)]
 have I:a.length=b.length:=eqN h;simp only[go_sem];refine⟨fun ρ _=>∃k:Nat,k<=a.length/\ρ 0=.sl (a.map jN)/\ρ 1=.sl (b.map jN)/\ρ 5=int ((k:Int)-1)/\a.drop k=b.drop k,fun ρ _=>match ρ 5 with| .v (.int _ z)=>(z+1).toNat|_=>0,⟨a.length,Xag _,by simp only[go_sem],by simp only[go_sem],by simp only[go_sem,oI (show a.length<=4611686018427387904 by omega)],by rw[List.drop_eq_nil_of_le (Xag _),List.drop_eq_nil_of_le (by omega)]⟩,?_⟩;rintro ρ H ⟨k,hk,h0,h1,F,hd⟩;simp only[go_sem,h0,h1,F];refine aB (fun hb=>?_) (fun hb=>?_)
 . have J:0<k:=by simp at hb;omega
   obtain⟨k,rfl⟩:∃j,k=j+1:=⟨k-1,by omega⟩;rw[show((k+1:Nat):Int)-1=(k:Int)by omega]at F |-;obtain⟨x,O⟩:=aQ (show k<a.length by omega);obtain⟨y,X⟩:=aQ (show k<b.length by omega);have b1:=inB (show k<a.length by omega);have b2:=inB (show k<b.length by omega);simp only[go_sem,h0,h1,F];refine fV (by rfl) (by kernel_rfl) ?_;simp only[go_sem,h0,h1,F,aH O,aH X,b1,b2];refine aB (fun E=>?_) (fun E=>?_)
   . simp only[go_sem,h0,h1,F]
     refine fV (by rfl) (by kernel_rfl) ?_;simp only[go_sem,h0,h1,F,aH O,aH X,b1,b2];refine⟨_,(Bd x y).q rfl,?_⟩;simp only[go_sem];exact cI (by rw[afV lm ln I O X hd (neN E),om,on])
   . have aa:x=y:=eqN E
     simp only[go_sem,h0,h1,F,oI (show k<=4611686018427387904 by omega)];refine⟨⟨k,by omega,rfl,?_⟩,by omega⟩;have e1:a.drop k=x::a.drop (k+1):=by rw[Xcp (by omega)];congr 1;exact(List.getElem?_eq_some_iff.1 O).2
     have e2:b.drop k=y::b.drop (k+1):=by rw[Xcp (by omega)];congr 1;exact(List.getElem?_eq_some_iff.1 X).2
     rw[e1,e2,hd,aa]
 . have J:k=0:=by simp at hb;omega
   subst J;simp only[go_sem];refine cI ?_;have ab:a=b:=by simpa using hd
   rw[rX];rw[<-om,<-on,ab]
def tw(a b:ByteArray)(n:Nat):List (List AV):=if jD a b=0 then(bK bas n).map jN else[]
theorem FV{a b:ByteArray}{n:Nat}(h:jD a b=0):tw a b n=(bK bas n).map jN:=if_pos h
theorem TI{a b:ByteArray}{n:Nat}(h:jD a b≠0):tw a b n=[]:=if_neg h
theorem MH(a b:ByteArray)(O:a.size<=1048576)(X:b.size<=1048576):PC prog 144 [str a,str b] (.tup [.sl (tw a b (eH a)),.sl (tw a b (eH b)),int (jD a b)]):=by
 refine pcd Tryz.func144 ?_;unfold Tryz.f144;simp only[gdS];simp only[go_sem];refine PC.use (B7 a (by omega)) ?_;simp only[go_sem];refine⟨_,fun _=>(B7 b (by omega)).q rfl,?_⟩;simp only[go_sem];refine aB (fun h=>?_) (fun h=>?_)
 . simp only[go_sem]
   have e:jD a b=3:=by unfold jD;rw[if_pos h]
   rw[TI (by rw[e];decide),TI (by rw[e];decide),e];exact .refl _
 have E:dK a=true/\dK b=true:=by simpa using h
 simp only[go_sem];refine aB (fun J=>?_) (fun J=>?_)
 . simp only[go_sem]
   have I:(decide (a.size>4096)||decide (b.size>4096))=true:=by simp at J |-;omega
   have e:jD a b=4:=by unfold jD;rw[if_neg (by rw[h];simp),if_pos I]
   rw[TI (by rw[e];decide),TI (by rw[e];decide),e];exact .refl _
 have F:a.size<=4096/\b.size<=4096:=by simp at J;omega
 have e:jD a b=0:=EM E.1 E.2 F.1 F.2;have d:∀{s:ByteArray},dK s=true->(bl s).all isD=true:=fun h=>by
   unfold dK eK at h;simp only[Xam]at h;exact h.2
 simp only[go_sem];refine PC.use (YJ a (d E.1) F.1) ?_;simp only[go_sem];refine PC.use (YJ b (d E.2) F.2) ?_;simp only[go_sem];rw[FV e,FV e,e];exact .refl _
theorem JU{H:aJ}{j:Nat}:aI H j (some ⟨3,1,[]⟩) j=some (dA []):=aA _ _ _
theorem Te(m k:Nat)(hm:(bK bas m).length<=1048576)(hk:k<bas):PC prog 187 [nl m,int k] (nl (m*k)):=by
 have hk:k<1000000000:=hk;have om:=eO (b:=bas) (by decide) m;have lm:=eF (b:=bas) (by decide) m;simp only[nl];generalize bK bas m=l at *;have ad:IntKind.i64.wrap ((l.length:Int)+1)=((l.length+1:Nat):Int):=aS (by omega);refine pcb (fun t=>t == 5) Tryz.func187 ?_;unfold Tryz.f187;simp only[gdS];simp only[go_sem];refine⟨by omega,aN fun j hj=>?_⟩;simp only[go_sem];refine⟨fun ρ H=>∃(i j c:Nat) (o:List Nat),i<=l.length/\ρ 1=int k/\ρ 13=.sl (l.map jN)/\ρ 14=int l.length/\ρ 5=.os j/\ρ 6=int c/\ρ 15=int i/\H j=some (dA o)/\Lim bas o/\o.length=i/\c<1000000000/\ofL bas o+bas^i*c=ofL bas (l.take i)*k,fun ρ _=>l.length-aX (ρ 15),
   ⟨0,j,0,[],Xab _,by simp only[go_sem],by simp only[go_sem],by simp only[go_sem,Xaa],by simp only[go_sem],by simp only[go_sem];rfl,by simp only[go_sem];rfl,JU,by simp[Lim],rfl,by omega,by simp[ofL]⟩,?_⟩
 clear hj j;rintro ρ H ⟨i,j,c,o,hi,h1,O,X,Z,Y,I,Rj,ho,F,hc,hv⟩;simp only[go_sem,h1,O,X,Z,Y,I];refine aB (fun E=>?_) (fun J=>?_)
 . have E:=ltB E
   obtain⟨n,hn⟩:=aQ E;have b1:=inB E;have ae:n<1000000000:=lm n (Xad hn);have ac:n*k<=999999999*999999999:=Nat.mul_le_mul (by omega) (by omega);have e1:IntKind.i64.wrap (IntKind.i64.wrap ((n:Int)*(k:Int))+(c:Int))=((n*k+c:Nat):Int):=by
     rw[show(n:Int)*(k:Int)=((n*k:Nat):Int)from(Int.natCast_mul n k).symm];generalize n*k=p at *;rw[show IntKind.i64.wrap (p:Int)=(p:Int)from aW (by omega),aW (by omega)];omega
   have ab:=Rr (b:=bas) (by decide) hn F hv;simp only[go_sem,h1,O,X,Z,Y,I,aH hn,b1,e1];have hq:(n*k+c)/1000000000<1000000000:=by omega
   have e2:IntKind.i64.wrap ((((n*k+c:Nat):Int)).tdiv 1000000000)=(((n*k+c)/1000000000:Nat):Int):=by
     generalize n*k+c=p at *;rw[Xbp (by omega),aW (by omega)];omega
   have e3:(((n*k+c:Nat):Int)).tmod 1000000000=(((n*k+c)%1000000000:Nat):Int):=by
     rw[Xda (by omega)];omega
   simp only[e2,e3];refine⟨by decide,?_⟩;refine bG Rj ⟨rfl,rfl⟩ ⟨rfl,trivial⟩ (by simp only[dA,Xaa,Xac,List.length_nil];omega) (fun j' aa=>?_);simp only[go_sem,h1,O,X,Z,Y,I,e2,aS (show i<=4611686018427387904 by omega)];refine⟨by decide,⟨i+1,j',_,o++[(n*k+c)%bas],E,rfl,rfl,rfl,vE,ho.snoc (Nat.mod_lt _ (by decide)),by simp[F],hq,ab⟩,by simp only[aG];omega⟩
 . have J:=geB hi J
   subst J;simp only[go_sem,Z,Y];refine bG Rj ⟨rfl,rfl⟩ ⟨rfl,trivial⟩ (by simp only[dA,Xaa,Xac,List.length_nil];omega) (fun j' aa=>?_);simp only[go_sem];have hT:Lim bas (o++[c]):=ho.snoc hc;have hV:ofL bas (o++[c])=m*k:=by rw[vL,F,hv,Xaf,om]
   refine PC.useF [j'] (.cons _ _ _ _ (.row _ _ _ (by simp only[Xak,if_true];exact vE) (ConvE.refl _)) .nil) (Je hT (by simp;omega) hV) ?_;simp only[go_sem];exact .refl _
theorem EA(m n:Nat)(hm:(bK bas m).length<=1048576)(ag:n<=m):PC prog 168 [nl m,nl n] (nl (m-n)):=by
 have om:=eO (b:=bas) (by decide) m;have on:=eO (b:=bas) (by decide) n;have lm:=eF (b:=bas) (by decide) m;have ln:=eF (b:=bas) (by decide) n;have af:=fL (b:=bas) (by decide) ag;simp only[nl];generalize bK bas m=x at *;generalize bK bas n=y at *;refine pcb (fun t=>t == 5) Tryz.func168 ?_;unfold Tryz.f168;simp only[gdS];simp only[go_sem];refine⟨by omega,aN fun j hj=>?_⟩;simp only[go_sem];refine⟨fun ρ H=>∃(i j c:Nat) (o:List Nat),i<=x.length/\ρ 0=.sl (x.map jN)/\ρ 1=.sl (y.map jN)/\ρ 13=int x.length/\ρ 5=.os j/\ρ 6=int c/\ρ 14=int i/\H j=some (dA o)/\Lim bas o/\o.length=i/\c<=1/\ofL bas o+ofL bas (y.take i)=ofL bas (x.take i)+bas^i*c,fun ρ _=>x.length-aX (ρ 14),
   ⟨0,j,0,[],Xab _,by simp only[go_sem],by simp only[go_sem],by simp only[go_sem,Xaa],by simp only[go_sem],by simp only[go_sem];rfl,by simp only[go_sem];rfl,JU,by simp[Lim],rfl,by omega,by simp[ofL]⟩,?_⟩
 clear hj j;rintro ρ H ⟨i,j,c,o,hi,h0,h1,E,J,X,F,Rj,ho,Z,hc,hv⟩;simp only[go_sem,h0,h1,E,J,X,F];refine aB (fun O=>?_) (fun aa=>?_)
 . have O:=ltB O
   obtain⟨a,ha⟩:=aQ O;have ae:x.getD i 0=a:=by simp[List.getD,ha]
   have b1:=inB O;have ab:a<1000000000:=lm a (Xad ha);have ac:y.getD i 0<1000000000:=ln.getD (by decide) i;simp only[go_sem,h0,h1,E,J,X,F];refine fV (by rfl) (by kernel_rfl) ?_;simp only[go_sem,h0,h1,E,J,X,F,aH ha,b1];refine⟨_,(Q6 y i (by omega)).q rfl,?_⟩;have ai:=D9 (b:=1000000000) ab ac hc;have ad:=Bx (b:=1000000000) ab ac hc;have ah:=FI (b:=bas) (x:=x) (y:=y) (c':=if a<y.getD i 0+c then 1 else 0) (d:=if a<y.getD i 0+c then a+1000000000-(y.getD i 0+c)else a-(y.getD i 0+c)) Z hv (by rw[ae];exact ad.1);generalize y.getD i 0=yi at *;have e1:IntKind.i64.wrap (IntKind.i64.wrap ((a:Int)-(yi:Int))-(c:Int))=(a:Int)-yi-c:=by
     rw[show IntKind.i64.wrap ((a:Int)-(yi:Int))=(a:Int)-yi from aW (by omega),aW (by omega)]
   simp only[go_sem,h0,h1,E,J,X,F,e1];refine bH (fun I H'=>I 0=.sl (x.map jN)/\I 1=.sl (y.map jN)/\I 13=int x.length/\I 5=.os j/\I 14=int i/\H' j=some (dA o)/\I 8=int (if a<yi+c then a+1000000000-(yi+c)else a-(yi+c):Nat)/\I 6=int (if a<yi+c then 1 else 0:Nat)) ?_ fun K hK=>aB (fun Y=>?_) (fun Y=>?_)
   rotate_left
   . have Y:a<yi+c:=by simp at Y;omega
     have e2:IntKind.i64.wrap ((a:Int)-yi-c+1000000000)=((a+1000000000-(yi+c):Nat):Int):=by rw[aW (by omega)];omega
     simp only[go_sem,h0,h1,E,J,X,F,e2];exact hK _ _ ⟨by simp only[go_sem,h0],by simp only[go_sem,h1],by simp only[go_sem,E],by simp only[go_sem,J],by simp only[go_sem,F],Rj,by simp only[go_sem,if_pos Y],by simp only[go_sem,if_pos Y];rfl⟩
   . have Y:¬a<yi+c:=by simp at Y;omega
     simp only[go_sem,h0,h1,E,J,X,F];refine hK _ _ ⟨by simp only[go_sem,h0],by simp only[go_sem,h1],by simp only[go_sem,E],by simp only[go_sem,J],by simp only[go_sem,F],Rj,?_,by simp only[go_sem,if_neg Y];rfl⟩;simp only[go_sem,if_neg Y]
     congr 2
     omega
   clear h0 h1 E J X F Rj;rintro ρ H ⟨h0,h1,E,J,F,Rj,h8,X⟩;simp only[go_sem,h0,h1,E,J,X,F,h8];refine bG Rj ⟨rfl,rfl⟩ ⟨rfl,trivial⟩ (by simp only[dA,Xaa,Xac,List.length_nil];omega) (fun j' aj=>?_);simp only[go_sem,h0,h1,E,J,X,F,aS (show i<=4611686018427387904 by omega)];exact⟨⟨i+1,j',_,_,O,rfl,rfl,rfl,vE,ho.snoc ad.2,by simp[Z],by split <;> omega,ah⟩,by simp only[aG];omega⟩
 . have aa:=geB hi aa
   subst aa;simp only[go_sem,J];obtain⟨_,hV⟩:=He (b:=bas) (by decide) ho lm Z af (by omega) hc hv;refine PC.useF [j] (.cons _ _ _ _ (.row _ _ _ (by simp only[Xak,if_true];exact Rj) (ConvE.refl _)) .nil) (Je ho (by omega) (hV.trans (by rw[om,on]))) ?_;simp only[go_sem];exact .refl _
theorem half{d r q:Nat}(h1:d*q<=r)(F:r<d*(q+1))(E:0<d):q=r/d:=by
 symm
 exact(Nat.div_eq_iff E).2 ⟨by rw[Nat.mul_comm];exact h1,by rw[Nat.mul_add,Nat.mul_one]at F;rw[Nat.mul_comm q d];omega⟩
theorem Ey(r d:Nat)(hr:(bK bas r).length<=1048576)(hd:0<d)(ad:(bK bas d).length<=1048575)(h:r<d*bas):PC prog 186 [nl r,nl d] (int (r/d:Nat)):=by
 refine pcd Tryz.func186 ?_;unfold Tryz.f186;simp only[gdS];simp only[go_sem];refine⟨fun ρ _=>∃a b:Nat,a<=b/\b<1000000000/\ρ 0=nl r/\ρ 1=nl d/\ρ 5=int a/\ρ 6=int b/\d*a<=r/\r<d*(b+1),fun ρ _=>aX (ρ 6)-aX (ρ 5),⟨0,999999999,by omega,by omega,by simp only[go_sem],by simp only[go_sem],by simp only[go_sem];rfl,by simp only[go_sem];rfl,by simp,h⟩,?_⟩;rintro ρ H ⟨a,b,Z,hb,h0,h1,I,J,O,Y⟩;simp only[go_sem,h0,h1,I,J];refine aB (fun X=>?_) (fun F=>?_)
 . have X:=ltB X
   have e1:IntKind.i64.wrap ((IntKind.i64.wrap (IntKind.i64.wrap ((a:Int)+(b:Int))+1)).tdiv 2)=(((a+b+1)/2:Nat):Int):=by
     rw[show IntKind.i64.wrap ((a:Int)+(b:Int))=((a+b:Nat):Int)by rw[aW (by omega)];omega,aS (by omega),Xbp (by omega),aW (by omega)];omega
   simp only[go_sem,h0,h1,I,J,e1];refine⟨by decide,?_⟩;have hm:(a+b+1)/2<bas:=show _<1000000000 by omega
   have ab:a<(a+b+1)/2:=by omega
   have ac:(a+b+1)/2<=b:=by omega
   generalize (a+b+1)/2=m at *;refine PC.use (Te d m (by omega) hm) ?_;simp only[go_sem,h0,h1,I,J];have aa:(bK bas (d*m)).length<=1048576:=by
     have h1:=oH (b:=bas) (by decide) (eF (b:=bas) (by decide) d);rw[eO (by decide)]at h1;have h2:d*m<bas^((bK bas d).length+1):=by
       rw[Xbs];exact Xcc (Nat.mul_lt_mul_of_pos_left hm hd) (Xbm _ (Nat.le_of_lt h1))
     have:=mN (b:=bas) (by decide) h2;omega
   refine PC.use (Dr (d*m) r aa hr) ?_;simp only[go_sem,h0,h1,I,J];refine aB (fun E=>?_) (fun E=>?_)
   . have E : d * m <= r := by
       rcases Xbe r (d*m)with h|h
       . rw[kO (by omega)]at E;simp at E
       . exact h
     simp only[go_sem,h0,h1,I,J];exact⟨⟨m,b,by omega,hb,rfl,rfl,E,Y⟩,by simp only[aG];omega⟩
   . have E : r < d * m := by
       rcases Xbe r (d*m)with h|h
       . exact h
       . exfalso
         exact of_decide_eq_false E (aiD (by omega))
     simp only[go_sem,h0,h1,I,J];refine⟨⟨a,m-1,by omega,by omega,rfl,?_,O,?_⟩,?_⟩
     . rw[oI (by omega)];congr 2;omega
     . rw[show m-1+1=m by omega];exact E
     . rw[oI (by omega)];simp only[aG];omega
 . have F:=geB Z F
   subst F;simp only[go_sem,I];exact cI (by rw[half O Y hd])
theorem EH{E:List Nat}{k v q:Nat}(h:E[k]?=some v):({ dA E with es:=(dA E).es.set k (mH ((dA E).es.getD k []) 0 [int (q:Int)]) }:Row)=dA (E.set k q):=by
 simp only[dA,aH h,List.map_set];rfl
theorem O1(m n:Nat)(hm:(bK bas m).length<=1048570)(hn:0<n)(ar:(bK bas n).length<=1048570):PC prog 145 [nl m,nl n] (.tup [nl (m/n),nl (m%n)]):=by
 have om:=eO (b:=bas) (by decide) m;have lm:=eF (b:=bas) (by decide) m;rw[show nl m=.sl ((bK bas m).map jN)from rfl];generalize bK bas m=l at *;refine pcb (fun t=>t == 6||t == 23) Tryz.func145 ?_;unfold Tryz.f145;simp only[gdS];simp only[go_sem];refine⟨by omega,aN fun j hj=>?_⟩;simp only[go_sem];refine⟨fun ρ H=>∃(k r:Nat) (E:List Nat),k<=l.length/\ρ 0=.sl (l.map jN)/\ρ 1=nl n/\ρ 6=.os j/\ρ 7=nl r/\ρ 8=int ((k:Int)-1)/\H j=some (dA E)/\Lim bas E/\E.length=l.length/\r<n/\ofL bas (l.drop k)=ofL bas (E.drop k)*n+r/\E.take k=List.replicate k 0,fun ρ _=>match ρ 8 with| .v (.int _ z)=>(z+1).toNat|_=>0,
   ⟨l.length,0,List.replicate l.length 0,Xag _,by simp only[go_sem],by simp only[go_sem],by simp only[go_sem],?_,?_,?_,Lim.zeros (by decide) _,by simp,hn,by simp[ofL],by simp⟩,?_⟩
 . simp only[go_sem]
   exact KP.symm
 . simp only[go_sem,oI (show l.length<=4611686018427387904 by omega)]
 . rw[aA]
   simp only[dA,List.map_replicate];rfl
 clear hj;rintro ρ H ⟨k,r,E,hk,h0,h1,J,F,I,Rj,hq,Z,hr,hv,hz⟩;simp only[go_sem,h0,h1,J,F,I];refine aB (fun hb=>?_) (fun hb=>?_)
 . have ai:0<k:=by simp at hb;omega
   obtain⟨k,rfl⟩:∃j,k=j+1:=⟨k-1,by omega⟩;rw[show((k+1:Nat):Int)-1=(k:Int)by omega]at I |-;obtain⟨x,hx⟩:=aQ (show k<l.length by omega);have aj:x<bas:=lm x (Xad hx);have b1:=inB (show k<l.length by omega);have b2:=inB (show k<E.length by omega);have ad:E[k]?=some 0:=by
     have h1:(E.take (k+1))[k]?=(List.replicate (k+1) 0)[k]?:=by rw[hz]
     rw[List.getElem?_take,if_pos (by omega)]at h1;rw[h1];simp
   obtain⟨hV,hQ,hR⟩:=Yg (b:=bas) (a:=n) (by decide) hx aj hr (show k<E.length by omega) hv;have ay:(bK bas r).length<=1048570:=Xah (fL (by decide) (Nat.le_of_lt hr)) ar;have au:x+bas*r<n*bas:=by
     have:bas*(r+1)<=bas*n:=Xdb _ hr;rw[Nat.mul_add]at this;rw[Nat.mul_comm n bas];omega
   have Y:(E.set k ((x+bas*r)/n)).take k=List.replicate k 0:=by
     rw[List.take_set_of_le (by omega)];have h1:(E.take (k+1)).take k=(List.replicate (k+1) 0).take k:=by rw[hz]
     rw[List.take_take,Xci (by omega)]at h1;rw[h1];simp
   have ae:ofL bas (x::bK bas r)=x+bas*r:=by rw[ofL,eO (by decide)]
   have am:Lim bas (x::bK bas r):=fun y hy=>by
     rcases Xbi.1 hy with rfl|hy
     . exact aj
     . exact eF (by decide) r y hy
   have av:(bK bas (x+bas*r)).length<=1048575:=by
     refine Xah (mN (b:=bas) (k:=(bK bas r).length+1) (by decide) ?_) (by omega);have h1:=oH (b:=bas) (by decide) am;rw[ae]at h1;simpa using h1
   generalize aw:x+bas*r=R at *;have ah:R-n*(R/n)=R%n:=by have:=Nat.mod_add_div R n;omega
   have ax:(bK bas (n*(R/n))).length<=1048576:=Xah (fL (by decide) (Nat.mul_div_le R n)) (by omega);simp only[go_sem,h0,h1,J,F,I,aH hx,b1];refine aN fun i hi=>?_
   simp only[go_sem,h0,h1,J,F,I];have ab:=lF (r':=⟨3,1,[[int (x:Int)]]⟩) Rj hi;refine bG (aA _ _ _) ⟨rfl,rfl⟩ (allN _) (by simp only[Xaa,Xac,List.length_nil];omega) (fun i2 ag=>?_);have af:=dN ab (aO Rj hi).symm ag (r':=⟨3,1,[[int (x:Int)]]++(bK bas r).map jN⟩);have ap:j≠i2:=aO ab ag;simp only[go_sem,h0,h1,J,F,I];refine PC.useF [i2] (.cons _ _ _ _ (.row _ _ _ (by simp only[Xak,if_true];exact aA _ _ _) (ConvE.refl _)) .nil) (Je am (by simp;omega) ae) ?_;generalize ak:(fun k=>if k∈[i2]then none else _)=HN;have O:HN j=some (dA E):=by rw[<-ak];simp only[Xak,if_neg ap];exact af
   clear ak af ab Rj;simp only[go_sem,h0,h1,J,F,I];refine PC.use (Dr R n (by omega) (by omega)) ?_;simp only[go_sem,h0,h1,J,F,I];refine aB (fun hc=>?_) (fun hc=>?_)
   . have ac : R < n := by
       rcases Nat.lt_trichotomy R n with h|h|h
       . exact h
       . rw[rX (by omega)]at hc;cases hc
       . rw[kO (by omega)]at hc;cases hc
     simp only[go_sem,h0,h1,J,F,I,oI (show k<=4611686018427387904 by omega)];have X:E.set k (R/n)=E:=by
       rw[Nat.div_eq_of_lt ac];obtain⟨h1,h2⟩:=List.getElem?_eq_some_iff.1 ad;rw[<-h2];exact List.set_getElem_self h1
     rw[X,Xbn ac]at hV;rw[X]at Y;exact⟨⟨k,R,E,by omega,rfl,rfl,O,hq,Z,ac,hV,Y⟩,by omega⟩
   simp only[go_sem,h0,h1,J,F,I];refine aB (fun an=>?_) (fun an=>?_)
   . have al : R = n := by
       have:=Jm.1 (by simpa using an);omega
     simp only[go_sem,h0,h1,J,F,I,O,show(dA E).es.length=E.length from Xaa _,b2];refine⟨rfl,cE so3 O (by simp only[dA,Xaa];exact⟨by simpa using b2.2,rfl,Xag 1⟩) ?_⟩;simp only[go_sem,h0,h1,J,F,I,oI (show k<=4611686018427387904 by omega)];have X:R/n=1:=by rw[al];exact Nat.div_self hn
     have ao:R%n=0:=by rw[al];exact Nat.mod_self n
     rw[X,ao]at hV;rw[X]at Y;refine⟨⟨k,0,E.set k 1,by omega,KP.symm,rfl,?_,hq.set (by decide),by simp[Z],hn,hV,Y⟩,by omega⟩;exact congrArg some (EH (q:=1) ad)
   simp only[go_sem,h0,h1,J,F,I,O];refine PC.use (Ey R n (by omega) hn (by omega) au) ?_;simp only[go_sem,h0,h1,J,F,I,O,show(dA E).es.length=E.length from Xaa _,b2];refine⟨rfl,cE so3 O (by simp only[dA,Xaa];exact⟨by simpa using b2.2,rfl,Xag 1⟩) ?_⟩;generalize hP:aI HN j _=HP;have aa:HP j=some (dA (E.set k (R/n))):=by
     rw[<-hP,aA];exact congrArg some (EH (q:=R/n) ad)
   have hg:(E.set k (R/n))[k]?=some (R/n):=List.getElem?_set_self (by omega);clear hP O;simp only[go_sem,h0,h1,J,F,I,aa];have aq:(dA (E.set k (R/n))).es.getD k []=jN (R/n):=aH hg;have b3:0<=(k:Int)/\(k:Int)<((dA (E.set k (R/n))).es.length:Nat):=by
     simp only[dA,Xaa,List.length_set];exact b2
   simp only[go_sem,aq,b3];refine⟨rfl,⟨by omega,Nat.zero_lt_one⟩,?_⟩;refine PC.use (Te n (R/n) (by omega) hQ) ?_;simp only[go_sem,h0,h1,J,F,I,aa];refine PC.use (EA R (n*(R/n)) (by omega) (Nat.mul_div_le R n)) ?_;simp only[go_sem,h0,h1,J,F,I,oI (show k<=4611686018427387904 by omega),ah];exact⟨⟨k,R%n,E.set k (R/n),by omega,rfl,rfl,aa,hq.set hQ,by simp[Z],hR,hV,Y⟩,by omega⟩
 . have ai:k=0:=by simp at hb;omega
   subst ai;simp only[go_sem,h0,h1,J,F,I];obtain⟨e1,e2⟩:=acZ hr hv;rw[Xbr,Xbr,om]at e1;rw[Xbr,om]at e2;refine PC.useF [j] (.cons _ _ _ _ (.row _ _ _ (by simp only[Xak,if_true];exact Rj) (ConvE.refl _)) .nil) (Je hq (by omega) e1) ?_;simp only[go_sem,F,e2];exact .refl _
end Go.Proofs.YtdlijlecpopadaaGreatDoor.Nu
end
section
namespace Go.Proofs
open Go.Shelf
def Tryz.lays169_ren:Go.Shelf.Ren:=⟨fun|169=>211|n=>n,fun|70=>263|9=>9|0=>0|72=>265|37=>206|127=>297|3=>3|5=>5|n=>n,fun|n=>n⟩
theorem Tryz.lays169:Go.Proofs.Lays.n169 Tryz.prog Tryz.lays169_ren:={
 mixed:=by kernel_rfl
 f169:=Tryz.func211.trans (congrArg some (by kernel_rfl))
 t0:=Tryz.underlying0
 a0:=Tryz.isAgg0
 z0:=Tryz.sizeOf0
 v0:=Tryz.zeroValue0
 t3:=Tryz.underlying3
 a3:=Tryz.isAgg3
 z3:=Tryz.sizeOf3
 v3:=Tryz.zeroValue3
 t9:=Tryz.underlying9
 a9:=Tryz.isAgg9
 z9:=Tryz.sizeOf9
 v9:=Tryz.zeroValue9
 t37:=Tryz.underlying206
 a37:=Tryz.isAgg206
 z37:=Tryz.sizeOf206
 v37:=Tryz.zeroValue206
 t70:=Tryz.underlying263
 a70:=Tryz.isAgg263
 z70:=Tryz.sizeOf263
 v70:=Tryz.zeroValue263
 t72:=Tryz.underlying265
 a72:=Tryz.isAgg265
 z72:=Tryz.sizeOf265
 v72:=Tryz.zeroValue265
 t127:=Tryz.underlying297
 a127:=Tryz.isAgg297
 z127:=Tryz.sizeOf297
 v127:=Tryz.zeroValue297 }
theorem Tryz.Builder_Extra_169:Builder.Extra Tryz.prog Tryz.lays169_ren:={
 sizeBuilder:=by kernel_rfl
 liesBuilder:=by kernel_rfl
 t5:=Tryz.underlying5
 a5:=Tryz.isAgg5
 z5:=Tryz.sizeOf5
 v5:=Tryz.zeroValue5
 infoByte:=by kernel_rfl
 cellsByte:=by kernel_rfl
 sizeByte:=by kernel_rfl
 neB5:=by decide }
open Go.RowKit in
theorem Tryz.Builder_String_any (B b:Nat) (l:List UInt8) (w:World) (h:Lib.IsBuilder 265 5 B b (Lib.byteCells l) w) (hBw:B<=w.heap.size):
    Calls Tryz.prog 211 #[.pointer (some ⟨b,0,none⟩)] w fun e w'=>e=.returned (.string ⟨l.toArray⟩)/\Below B w w':=Any.Builder_String_any Tryz.lays169 Tryz.Builder_Extra_169 B b l w h hBw
def Tryz.lays106_ren:Go.Shelf.Ren:=⟨fun|106=>170|213=>213|265=>244|n=>n,fun|9=>9|3=>3|n=>n,fun|n=>n⟩
theorem Tryz.lays106:Go.Proofs.Lays.n106 Tryz.prog Tryz.lays106_ren:={
 mixed:=by kernel_rfl
 f106:=Tryz.func170.trans (congrArg some (by kernel_rfl))
 f213:=Tryz.func213.trans (congrArg some (by kernel_rfl))
 f265:=Tryz.func244.trans (congrArg some (by kernel_rfl))
 t3:=Tryz.underlying3
 a3:=Tryz.isAgg3
 z3:=Tryz.sizeOf3
 v3:=Tryz.zeroValue3
 t9:=Tryz.underlying9
 a9:=Tryz.isAgg9
 z9:=Tryz.sizeOf9
 v9:=Tryz.zeroValue9 }
open Go.RowKit in
theorem Tryz.strings_Compare (a b:ByteArray) (w:World):
    Calls Tryz.prog 170 #[.string a,.string b] w fun e w'=>e=.returned (.int .i64 (Lib.compareBytes a.data.toList b.data.toList))/\w'=w:=Any.strings_Compare Tryz.lays106 a b w
def Tryz.lays103_ren:Go.Shelf.Ren:=⟨fun|103=>169|210=>212|206=>188|n=>n,fun|9=>9|4=>4|24=>232|3=>3|n=>n,fun|n=>n⟩
theorem Tryz.lays103:Go.Proofs.Lays.n103 Tryz.prog Tryz.lays103_ren:={
 mixed:=by kernel_rfl
 f103:=Tryz.func169.trans (congrArg some (by kernel_rfl))
 f206:=Tryz.func188.trans (congrArg some (by kernel_rfl))
 f210:=Tryz.func212.trans (congrArg some (by kernel_rfl))
 t3:=Tryz.underlying3
 a3:=Tryz.isAgg3
 z3:=Tryz.sizeOf3
 v3:=Tryz.zeroValue3
 t4:=Tryz.underlying4
 a4:=Tryz.isAgg4
 z4:=Tryz.sizeOf4
 v4:=Tryz.zeroValue4
 t9:=Tryz.underlying9
 a9:=Tryz.isAgg9
 z9:=Tryz.sizeOf9
 v9:=Tryz.zeroValue9
 t24:=Tryz.underlying232
 a24:=Tryz.isAgg232
 z24:=Tryz.sizeOf232
 v24:=Tryz.zeroValue232 }
open Go.RowKit in
theorem Tryz.strings_CutPrefix (s p:ByteArray) (w:World):
    Calls Tryz.prog 169 #[.string s,.string p] w fun e w'=>e=.returned (.tuple #[.string ⟨(Lib.trimPrefix s.data.toList p.data.toList).toArray⟩,.bool (Lib.hasPrefix s.data.toList p.data.toList)])/\w'=w:=Any.strings_CutPrefix Tryz.lays103 s p w
def Tryz.laysM171_ren:Go.Shelf.Ren:=⟨fun|171=>120|243=>173|246=>215|283=>245|284=>246|285=>247|286=>248|129=>286|317=>285|318=>287|319=>288|320=>289|337=>316|338=>317|n=>n,fun|3=>3|9=>9|2=>2|4=>4|171=>298|0=>0|53=>299|37=>206|5=>5|173=>302|212=>341|51=>329|20=>20|213=>342|46=>40|232=>367|233=>368|n=>n,fun|17=>1|18=>2|19=>3|n=>n⟩
theorem Tryz.laysM171:Go.Proofs.LaysM.n171 Tryz.prog Tryz.laysM171_ren:={
 mixed:=by kernel_rfl
 f129:=Tryz.func286.trans (congrArg some (by kernel_rfl))
 f171:=Tryz.func120.trans (congrArg some (by kernel_rfl))
 f243:=Tryz.func173.trans (congrArg some (by kernel_rfl))
 f246:=Tryz.func215.trans (congrArg some (by kernel_rfl))
 f283:=Tryz.func245.trans (congrArg some (by kernel_rfl))
 f284:=Tryz.func246.trans (congrArg some (by kernel_rfl))
 f285:=Tryz.func247.trans (congrArg some (by kernel_rfl))
 f286:=Tryz.func248.trans (congrArg some (by kernel_rfl))
 f317:=Tryz.func285.trans (congrArg some (by kernel_rfl))
 f318:=Tryz.func287.trans (congrArg some (by kernel_rfl))
 f319:=Tryz.func288.trans (congrArg some (by kernel_rfl))
 f320:=Tryz.func289.trans (congrArg some (by kernel_rfl))
 f337:=Tryz.func316.trans (congrArg some (by kernel_rfl))
 f338:=Tryz.func317.trans (congrArg some (by kernel_rfl))
 t0:=Tryz.underlying0
 a0:=Tryz.isAgg0
 z0:=Tryz.sizeOf0
 v0:=Tryz.zeroValue0
 t2:=Tryz.underlying2
 a2:=Tryz.isAgg2
 z2:=Tryz.sizeOf2
 v2:=Tryz.zeroValue2
 t3:=Tryz.underlying3
 a3:=Tryz.isAgg3
 z3:=Tryz.sizeOf3
 v3:=Tryz.zeroValue3
 t4:=Tryz.underlying4
 a4:=Tryz.isAgg4
 z4:=Tryz.sizeOf4
 v4:=Tryz.zeroValue4
 t5:=Tryz.underlying5
 a5:=Tryz.isAgg5
 z5:=Tryz.sizeOf5
 v5:=Tryz.zeroValue5
 t9:=Tryz.underlying9
 a9:=Tryz.isAgg9
 z9:=Tryz.sizeOf9
 v9:=Tryz.zeroValue9
 t20:=Tryz.underlying20
 a20:=Tryz.isAgg20
 z20:=Tryz.sizeOf20
 v20:=Tryz.zeroValue20
 t37:=Tryz.underlying206
 a37:=Tryz.isAgg206
 z37:=Tryz.sizeOf206
 v37:=Tryz.zeroValue206
 t46:=Tryz.underlying40
 a46:=Tryz.isAgg40
 z46:=Tryz.sizeOf40
 v46:=Tryz.zeroValue40
 t51:=Tryz.underlying329
 a51:=Tryz.isAgg329
 z51:=Tryz.sizeOf329
 v51:=Tryz.zeroValue329
 t53:=Tryz.underlying299
 a53:=Tryz.isAgg299
 z53:=Tryz.sizeOf299
 v53:=Tryz.zeroValue299
 t171:=Tryz.underlying298
 a171:=Tryz.isAgg298
 z171:=Tryz.sizeOf298
 v171:=Tryz.zeroValue298
 t173:=Tryz.underlying302
 a173:=Tryz.isAgg302
 z173:=Tryz.sizeOf302
 v173:=Tryz.zeroValue302
 t212:=Tryz.underlying341
 a212:=Tryz.isAgg341
 z212:=Tryz.sizeOf341
 v212:=Tryz.zeroValue341
 t213:=Tryz.underlying342
 a213:=Tryz.isAgg342
 z213:=Tryz.sizeOf342
 t232:=Tryz.underlying367
 a232:=Tryz.isAgg367
 z232:=Tryz.sizeOf367
 v232:=Tryz.zeroValue367
 t233:=Tryz.underlying368
 a233:=Tryz.isAgg368
 z233:=Tryz.sizeOf368
 v233:=Tryz.zeroValue368
 g17:=by kernel_rfl
 g18:=by kernel_rfl
 g19:=by kernel_rfl
 i0:=by kernel_rfl
 i2:=by kernel_rfl
 i3:=by kernel_rfl
 i4:=by kernel_rfl
 i5:=by kernel_rfl
 i9:=by kernel_rfl
 i20:=by kernel_rfl
 i37:=by kernel_rfl
 i46:=by kernel_rfl
 i51:=by kernel_rfl
 i53:=by kernel_rfl
 i171:=by kernel_rfl
 i173:=by kernel_rfl
 i212:=by kernel_rfl
 i232:=by kernel_rfl
 i233:=by kernel_rfl
 m17:=by kernel_rfl
 m18:=by kernel_rfl
 m19:=by kernel_rfl }
open Go.RowKit Go.Sort Go.Lib in
theorem Tryz.strconv_Itoa (n:Int) (h0: -9223372036854775808<=n) (h1:n<=9223372036854775807) (w:World) (htab:Lib.TabIs Tryz.prog w "internal/strconv.uint64pow10" .u64 Lib.pow10Tab):
    Calls Tryz.prog 120 #[.int .i64 n] w fun e w'=>e=.returned (.string ⟨(Lib.itoa n).toArray⟩)/\∃k os,w'=grow (w.drewN k) os:=Any.strconv_Itoa Tryz.laysM171 n h0 h1 w htab
def Tryz.lays219_ren:Go.Shelf.Ren:=⟨fun|219=>183|217=>227|225=>228|224=>229|267=>230|266=>267|314=>268|n=>n,fun|9=>9|3=>3|4=>4|5=>5|46=>40|146=>330|51=>329|n=>n,fun|1=>0|n=>n⟩
theorem Tryz.lays219:Go.Proofs.Lays.n219 Tryz.prog Tryz.lays219_ren:={
 mixed:=by kernel_rfl
 f217:=Tryz.func227.trans (congrArg some (by kernel_rfl))
 f219:=Tryz.func183.trans (congrArg some (by kernel_rfl))
 f224:=Tryz.func229.trans (congrArg some (by kernel_rfl))
 f225:=Tryz.func228.trans (congrArg some (by kernel_rfl))
 f266:=Tryz.func267.trans (congrArg some (by kernel_rfl))
 f267:=Tryz.func230.trans (congrArg some (by kernel_rfl))
 f314:=Tryz.func268.trans (congrArg some (by kernel_rfl))
 t3:=Tryz.underlying3
 a3:=Tryz.isAgg3
 z3:=Tryz.sizeOf3
 v3:=Tryz.zeroValue3
 t4:=Tryz.underlying4
 a4:=Tryz.isAgg4
 z4:=Tryz.sizeOf4
 v4:=Tryz.zeroValue4
 t5:=Tryz.underlying5
 a5:=Tryz.isAgg5
 z5:=Tryz.sizeOf5
 v5:=Tryz.zeroValue5
 t9:=Tryz.underlying9
 a9:=Tryz.isAgg9
 z9:=Tryz.sizeOf9
 v9:=Tryz.zeroValue9
 t46:=Tryz.underlying40
 a46:=Tryz.isAgg40
 z46:=Tryz.sizeOf40
 v46:=Tryz.zeroValue40
 t51:=Tryz.underlying329
 a51:=Tryz.isAgg329
 z51:=Tryz.sizeOf329
 v51:=Tryz.zeroValue329
 t146:=Tryz.underlying330
 a146:=Tryz.isAgg330
 z146:=Tryz.sizeOf330
 v146:=Tryz.zeroValue330
 g1:=by kernel_rfl }
open Go.RowKit Go.Lib in
theorem Tryz.stringslite_Index_one (s:ByteArray) (c:UInt8) (w:World):
    Calls Tryz.prog 183 #[.string s,.string ⟨#[c]⟩] w fun e w'=>e=.returned (.int .i64 (Lib.indexByte s.data.toList c))/\w'=w:=Any.stringslite_Index_one Tryz.lays219 s c w
def Tryz.lays144_ren:Go.Shelf.Ren:=⟨fun|144=>84|143=>143|219=>183|217=>227|225=>228|224=>229|267=>230|266=>267|314=>268|n=>n,fun|9=>9|4=>4|3=>3|5=>5|46=>40|146=>330|51=>329|n=>n,fun|1=>0|n=>n⟩
theorem Tryz.lays144:Go.Proofs.Lays.n144 Tryz.prog Tryz.lays144_ren:={
 mixed:=by kernel_rfl
 f143:=Tryz.func143.trans (congrArg some (by kernel_rfl))
 f144:=Tryz.func84.trans (congrArg some (by kernel_rfl))
 f217:=Tryz.func227.trans (congrArg some (by kernel_rfl))
 f219:=Tryz.func183.trans (congrArg some (by kernel_rfl))
 f224:=Tryz.func229.trans (congrArg some (by kernel_rfl))
 f225:=Tryz.func228.trans (congrArg some (by kernel_rfl))
 f266:=Tryz.func267.trans (congrArg some (by kernel_rfl))
 f267:=Tryz.func230.trans (congrArg some (by kernel_rfl))
 f314:=Tryz.func268.trans (congrArg some (by kernel_rfl))
 t3:=Tryz.underlying3
 a3:=Tryz.isAgg3
 z3:=Tryz.sizeOf3
 v3:=Tryz.zeroValue3
 t4:=Tryz.underlying4
 a4:=Tryz.isAgg4
 z4:=Tryz.sizeOf4
 v4:=Tryz.zeroValue4
 t5:=Tryz.underlying5
 a5:=Tryz.isAgg5
 z5:=Tryz.sizeOf5
 v5:=Tryz.zeroValue5
 t9:=Tryz.underlying9
 a9:=Tryz.isAgg9
 z9:=Tryz.sizeOf9
 v9:=Tryz.zeroValue9
 t46:=Tryz.underlying40
 a46:=Tryz.isAgg40
 z46:=Tryz.sizeOf40
 v46:=Tryz.zeroValue40
 t51:=Tryz.underlying329
 a51:=Tryz.isAgg329
 z51:=Tryz.sizeOf329
 v51:=Tryz.zeroValue329
 t146:=Tryz.underlying330
 a146:=Tryz.isAgg330
 z146:=Tryz.sizeOf330
 v146:=Tryz.zeroValue330
 g1:=by kernel_rfl }
open Go.RowKit Go.Lib in
theorem Tryz.strings_Contains_one (s:ByteArray) (c:UInt8) (w:World):
    Calls Tryz.prog 84 #[.string s,.string ⟨#[c]⟩] w fun e w'=>e=.returned (.bool (decide (0<=Lib.indexByte s.data.toList c)))/\w'=w:=Any.strings_Contains_one Tryz.lays144 s c w
def Tryz.lays101_ren:Go.Shelf.Ren:=⟨fun|101=>87|208=>147|206=>188|n=>n,fun|9=>9|4=>4|3=>3|n=>n,fun|n=>n⟩
theorem Tryz.lays101:Go.Proofs.Lays.n101 Tryz.prog Tryz.lays101_ren:={
 mixed:=by kernel_rfl
 f101:=Tryz.func87.trans (congrArg some (by kernel_rfl))
 f206:=Tryz.func188.trans (congrArg some (by kernel_rfl))
 f208:=Tryz.func147.trans (congrArg some (by kernel_rfl))
 t3:=Tryz.underlying3
 a3:=Tryz.isAgg3
 z3:=Tryz.sizeOf3
 v3:=Tryz.zeroValue3
 t4:=Tryz.underlying4
 a4:=Tryz.isAgg4
 z4:=Tryz.sizeOf4
 v4:=Tryz.zeroValue4
 t9:=Tryz.underlying9
 a9:=Tryz.isAgg9
 z9:=Tryz.sizeOf9
 v9:=Tryz.zeroValue9 }
open Go.RowKit Go.Lib in
theorem Tryz.strings_TrimPrefix (s p:ByteArray) (w:World):
    Calls Tryz.prog 87 #[.string s,.string p] w fun e w'=>e=.returned (.string ⟨(Lib.trimPrefix s.data.toList p.data.toList).toArray⟩)/\w'=w:=Any.strings_TrimPrefix Tryz.lays101 s p w
def Tryz.lays105_ren:Go.Shelf.Ren:=⟨fun|105=>210|212=>240|99=>241|165=>242|166=>209|170=>243|169=>211|263=>282|264=>283|206=>188|240=>239|241=>284|276=>281|277=>315|n=>n,fun|9=>9|3=>3|4=>4|20=>20|0=>0|46=>40|109=>293|5=>5|72=>265|76=>268|51=>329|146=>330|53=>299|148=>338|70=>263|37=>206|75=>267|127=>297|164=>335|80=>184|n=>n,fun|n=>n⟩
theorem Tryz.lays105:Go.Proofs.Lays.n105 Tryz.prog Tryz.lays105_ren:={
 mixed:=by kernel_rfl
 f99:=Tryz.func241.trans (congrArg some (by kernel_rfl))
 f105:=Tryz.func210.trans (congrArg some (by kernel_rfl))
 f165:=Tryz.func242.trans (congrArg some (by kernel_rfl))
 f166:=Tryz.func209.trans (congrArg some (by kernel_rfl))
 f169:=Tryz.func211.trans (congrArg some (by kernel_rfl))
 f170:=Tryz.func243.trans (congrArg some (by kernel_rfl))
 f206:=Tryz.func188.trans (congrArg some (by kernel_rfl))
 f212:=Tryz.func240.trans (congrArg some (by kernel_rfl))
 f240:=Tryz.func239.trans (congrArg some (by kernel_rfl))
 f241:=Tryz.func284.trans (congrArg some (by kernel_rfl))
 f263:=Tryz.func282.trans (congrArg some (by kernel_rfl))
 f264:=Tryz.func283.trans (congrArg some (by kernel_rfl))
 f276:=Tryz.func281.trans (congrArg some (by kernel_rfl))
 f277:=Tryz.func315.trans (congrArg some (by kernel_rfl))
 t0:=Tryz.underlying0
 a0:=Tryz.isAgg0
 z0:=Tryz.sizeOf0
 v0:=Tryz.zeroValue0
 t3:=Tryz.underlying3
 a3:=Tryz.isAgg3
 z3:=Tryz.sizeOf3
 v3:=Tryz.zeroValue3
 t4:=Tryz.underlying4
 a4:=Tryz.isAgg4
 z4:=Tryz.sizeOf4
 v4:=Tryz.zeroValue4
 t5:=Tryz.underlying5
 a5:=Tryz.isAgg5
 z5:=Tryz.sizeOf5
 v5:=Tryz.zeroValue5
 t9:=Tryz.underlying9
 a9:=Tryz.isAgg9
 z9:=Tryz.sizeOf9
 v9:=Tryz.zeroValue9
 t20:=Tryz.underlying20
 a20:=Tryz.isAgg20
 z20:=Tryz.sizeOf20
 v20:=Tryz.zeroValue20
 t37:=Tryz.underlying206
 a37:=Tryz.isAgg206
 z37:=Tryz.sizeOf206
 v37:=Tryz.zeroValue206
 t46:=Tryz.underlying40
 a46:=Tryz.isAgg40
 z46:=Tryz.sizeOf40
 v46:=Tryz.zeroValue40
 t51:=Tryz.underlying329
 a51:=Tryz.isAgg329
 z51:=Tryz.sizeOf329
 v51:=Tryz.zeroValue329
 t53:=Tryz.underlying299
 a53:=Tryz.isAgg299
 z53:=Tryz.sizeOf299
 v53:=Tryz.zeroValue299
 t70:=Tryz.underlying263
 a70:=Tryz.isAgg263
 z70:=Tryz.sizeOf263
 v70:=Tryz.zeroValue263
 t72:=Tryz.underlying265
 a72:=Tryz.isAgg265
 z72:=Tryz.sizeOf265
 v72:=Tryz.zeroValue265
 t75:=Tryz.underlying267
 a75:=Tryz.isAgg267
 z75:=Tryz.sizeOf267
 v75:=Tryz.zeroValue267
 t76:=Tryz.underlying268
 a76:=Tryz.isAgg268
 z76:=Tryz.sizeOf268
 v76:=Tryz.zeroValue268
 t109:=Tryz.underlying293
 a109:=Tryz.isAgg293
 z109:=Tryz.sizeOf293
 v109:=Tryz.zeroValue293
 t127:=Tryz.underlying297
 a127:=Tryz.isAgg297
 z127:=Tryz.sizeOf297
 v127:=Tryz.zeroValue297
 t146:=Tryz.underlying330
 a146:=Tryz.isAgg330
 z146:=Tryz.sizeOf330
 v146:=Tryz.zeroValue330
 t148:=Tryz.underlying338
 a148:=Tryz.isAgg338
 z148:=Tryz.sizeOf338
 v148:=Tryz.zeroValue338
 t164:=Tryz.underlying335
 a164:=Tryz.isAgg335
 z164:=Tryz.sizeOf335
 v164:=Tryz.zeroValue335 }
theorem Tryz.Builder_Extra_105:Builder.Extra Tryz.prog Tryz.lays105_ren:={
 sizeBuilder:=by kernel_rfl
 liesBuilder:=by kernel_rfl
 t5:=Tryz.underlying5
 a5:=Tryz.isAgg5
 z5:=Tryz.sizeOf5
 v5:=Tryz.zeroValue5
 infoByte:=by kernel_rfl
 cellsByte:=by kernel_rfl
 sizeByte:=by kernel_rfl
 neB5:=by decide }
open Go.RowKit Go.Lib in
theorem Tryz.strings_Repeat (s:ByteArray) (c:Nat) (w:World) (hc:c<=9223372036854775807) (hlen:s.size*c<=140737488355328):
    Calls Tryz.prog 210 #[.string s,.int .i64 c] w fun e w'=>e=.returned (.string ⟨(Lib.repeatL s.data.toList c).toArray⟩)/\Below w.heap.size w w':=Any.strings_Repeat Tryz.lays105 Tryz.Builder_Extra_105 s c w hc hlen
end Go.Proofs
end
