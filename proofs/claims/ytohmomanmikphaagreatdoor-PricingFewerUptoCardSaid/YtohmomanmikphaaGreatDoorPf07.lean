import Derived.Lib.ItoaMem
import Derived.Laws.Strings
import Derived.Shelf.Strings.Builder1
import Derived.Shelf.Strings.Builder2
import Derived.Shelf.Small.Strs
import Derived.Shelf.Small.Wraps
import Derived.Shelf.Strings.BuilderF
import Derived.Shelf.Strings.BuilderK
import Derived.Shelf.Strings.Builder2Cap
import Derived.Shelf.Strconv.Itoa0
import Derived.Shelf.Strconv.Itoa1
import Derived.Shelf.LaysM
import Derived.Shelf.Strconv.Itoa2
import Derived.Shelf.Strconv.Itoa3
import Derived.Shelf.Strings.Search1
import Derived.Shelf.Strings.Search2
import Derived.Shelf.Strings.Search3
import Derived.Shelf.Strings.Cut
import Derived.Shelf.Strings.Shaped
import Derived.Shelf.Strings.Prefix
import Derived.Shelf.Bits.Mul64
import Derived.Shelf.Strings.Repeat
import Derived.Shelf.Strings.BuilderCap
import Derived.Ground.Names2Prog
import Derived.Shelf.Slices.SearchI
import Derived.Test.YtohmomanmikphaaGreatDoorProg
import Derived.Test.YtohmomanmikphaaGreatDoorPf06
set_option linter.unusedSimpArgs false
set_option linter.unusedVariables false
set_option maxRecDepth 100000
section
namespace Go.Aw
open Go.RowKit
section
variable{P:Program}{S:Sg}{w:World}{H:aG}{f:FuncId}{args args':List AV}{K:AV->aG->Prop}
theorem St.frz(I:St S w H)(l:List Nat):St (S.froze fun k=>if k∈l then H k else none) w (fun k=>if k∈l then none else H k)/\Grow S w (S.froze fun k=>if k∈l then H k else none) w/\St S w fun k=>if k∈l then H k else none:=by
 let Hf:aG:=fun k=>if k∈l then H k else none
 let Hr:aG:=fun k=>if k∈l then none else H k
 have M:∀k r',Hf k=some r'->k∈l/\H k=some r':=fun k r' u=>by
   by_cases e:k∈l
   . exact⟨e,by simpa[Hf,e]using u⟩
   . simp[Hf,e]at u
 have F:∀k r',Hr k=some r'->¬k∈l/\H k=some r':=fun k r' u=>by
   by_cases e:k∈l
   . simp[Hr,e]at u
   . exact⟨e,by simpa[Hr,e]using u⟩
 refine⟨⟨?_,?_,fun k r' u=>(I.rows k r' (F k r' u).2).keep (S.le_froze Hf) (eL.refl S w) (fun _ _=>rfl),?_,fun k k' r1 J u T Z g E O=>I.disj k k' r1 J (F k r1 u).2 (F k' J T).2 Z g E O,I.tabs.keep (S.le_froze Hf) (eL.refl S w)⟩,⟨S.le_froze Hf,fun k u=>.inl u,rfl,rfl,rfl,Nat.le_refl _,fun _ _=>rfl,?_⟩,I.drop fun k r' u=>(M k r' u).2⟩
 . rintro g (E|E)
   . exact .inl (I.ro_fz g E)
   . exact .inr E
 . rintro g (E|⟨k,r',u,E⟩)
   . exact I.fz_lt g E
   . exact(I.rows k r' (M k r' u).2).block_lt E
 . rintro k r' u g E (h1|⟨i,J,hi,h2⟩)
   . exact I.free k r' (F k r' u).2 g E h1
   . exact I.disj k i r' J (F k r' u).2 (M i J hi).2 (fun e=>(F k r' u).1 (e▸(M i J hi).1)) g E h2
 . rintro g (E|⟨k,r',u,E⟩)
   . exact .inl E
   . exact .inr (I.free k r' (M k r' u).2 g E)
theorem aX.frz(l:List Nat)(M:ConvL (fun k=>if k∈l then H k else none) args args')(h:aX P f args' (fun k=>if k∈l then none else H k) K):aX P f args H K:=by
 intro S w vals O I;obtain⟨h1,h2,J⟩:=O.frz l;refine(h _ w vals h1 (M.rep J I)).mono fun e w' ⟨v,r,H',S',E,T,u,hv,F,Z⟩=>⟨v,r,H',S',E,T,u,hv,h2.trans F,fun k hk h0=>Z k hk ?_⟩
 by_cases e:k∈l
 . simp[e]
 . simpa[e]using h0
theorem PC.useF{r:AV}(l:List Nat)(u:ConvL (fun k=>if k∈l then H k else none) args args')(h:PC P f args' r)(E:K r (fun k=>if k∈l then none else H k)):aX P f args H K:=aX.frz l u (PC.use h E)
theorem PC.lib{a:List Value}{r:AV}{v:Value}(T:∀S w,rep S w r v)(h:∀w,(∀t∈SA,pI w t.1=some t.2)->Calls P f a.toArray w fun e w'=>e=.returned v/\Below w.heap.size w w'):PC P f (a.map .v) r:=by
 intro S w vals I hf F;obtain rfl:vals=a:=by
   clear h;induction a generalizing vals with
   | nil=>
     cases vals with
     | nil=>rfl
     | cons x r=>simp[bF]at F
   | cons x a ih=>
     simp only[List.map_cons,bF]at F;obtain⟨u,t,rfl,h1,Z⟩:=F;simp only[rep]at h1;subst h1;rw[ih t Z]
 refine(h w fun t M=>(I.tabs t M).2).mono fun e w' ⟨O,E⟩=>?_
 exact⟨v,r,bT,S,O,rfl,I.after E.size fun k J=>E.block k J,T S w',I.grow E.os E.tape E.output E.size fun k J=>E.block k J,eH.refl _ _⟩
end
end Go.Aw
end
section
namespace Go.Nu
open Go Go.Lib
def ofL(b:Nat):List Nat->Nat
 | []=>0
 | x::r=>x+b*ofL b r
def Lim(b:Nat)(l:List Nat):Prop:=∀x∈l,x<b
def bI(b:Nat)(n:Nat):List Nat:=if h:n=0\/b<2 then[]else n%b::bI b (n/b)
termination_by n
decreasing_by exact Nat.div_lt_self (by omega) (by omega)
def kP:List Nat->List Nat
 | []=>[]
 | x::r=>match kP r with
   | []=>if x=0 then[]else[x]
   | y::t=>x::y::t
theorem nP(b:Nat):∀l r:List Nat,ofL b (l++r)=ofL b l+b^l.length*ofL b r
 | [],r=>by simp[ofL]
 | x::l,r=>by
   simp only[List.cons_append,ofL,nP b l r,List.length_cons,Nat.pow_succ,Nat.mul_add,Nat.add_assoc];rw[Nat.mul_comm (b^l.length) b,Nat.mul_assoc]
theorem pP(b:Nat)(l:List Nat)(x:Nat):ofL b (l++[x])=ofL b l+b^l.length*x:=by rw[nP];simp[ofL]
theorem mE{b:Nat}(F:0<b):∀{l:List Nat},Lim b l->ofL b l<b^l.length
 | [],_=>by simp[ofL]
 | x::l,h=>by
   have h1:=h x (by simp);have E:=mE F (l:=l) fun y u=>h y (by simp[u])
   simp only[ofL,List.length_cons,Nat.pow_succ];have:b*(ofL b l+1)<=b*b^l.length:=Nat.mul_le_mul_left _ E;rw[Nat.mul_add]at this;rw[Nat.mul_comm (b^l.length) b];omega
theorem jN(b:Nat){l:List Nat}{k x:Nat}(h:l[k]?=some x):ofL b (l.take (k+1))=ofL b (l.take k)+b^k*x:=by
 rw[List.take_add_one,h];simp only[Option.toList];rw[pP,List.length_take,Nat.min_eq_left (Nat.le_of_lt (List.getElem?_eq_some_iff.1 h).1)]
theorem Ie(b:Nat):∀(l:List Nat) (k x v:Nat),l[k]?=some x->ofL b (l.set k v)+b^k*x=ofL b l+b^k*v
 | [],k,x,v,h=>by simp at h
 | y::l,0,x,v,h=>by
   simp only[List.getElem?_cons_zero,Option.some.injEq]at h;subst h;simp only[List.set_cons_zero,ofL,Nat.pow_zero,Nat.one_mul];omega
 | y::l,k+1,x,v,h=>by
   have:=Ie b l k x v (by simpa using h);have u:b*(ofL b (l.set k v)+b^k*x)=b*(ofL b l+b^k*v):=by rw[this]
   simp only[List.set_cons_succ,ofL,Nat.pow_succ];rw[Nat.mul_add,Nat.mul_add,<-Nat.mul_assoc,<-Nat.mul_assoc]at u;rw[Nat.mul_comm (b^k) b];omega
theorem SU(b n:Nat):ofL b (List.replicate n 0)=0:=by
 induction n with
 | zero=>rfl
 | succ n ih=>simp[List.replicate_succ,ofL,ih]
theorem dW(b:Nat):bI b 0=[]:=by rw[bI];simp
theorem nN{b n:Nat}(u:2<=b)(E:n≠0):bI b n=n%b::bI b (n/b):=by
 rw[bI,dif_neg (by omega)]
theorem dP{b:Nat}(F:2<=b)(n:Nat):Lim b (bI b n):=by
 induction n using Nat.strongRecOn with
 | _ n ih=>
   by_cases E:n=0
   . subst E;rw[dW];intro x u;cases u
   . rw[nN F E]
     intro x u;rcases List.mem_cons.1 u with rfl|u
     . exact Nat.mod_lt _ (by omega)
     . exact ih (n/b) (Nat.div_lt_self (by omega) (by omega)) x u
theorem dU{b:Nat}(E:2<=b)(n:Nat):ofL b (bI b n)=n:=by
 induction n using Nat.strongRecOn with
 | _ n ih=>
   by_cases u:n=0
   . subst u;rw[dW];rfl
   . rw[nN E u,ofL,ih (n/b) (Nat.div_lt_self (by omega) (by omega))]
     exact Nat.mod_add_div n b
theorem oY{b n:Nat}(u:2<=b):bI b n=[]↔n=0:=by
 constructor
 . intro h
   have:=dU u n;rw[h]at this;exact this.symm
 . rintro rfl;exact dW b
theorem Ec{b x m:Nat}(E:2<=b)(u:x<b)(h:x+b*m≠0):bI b (x+b*m)=x::bI b m:=by
 rw[nN E h,Nat.add_mul_mod_self_left,Nat.mod_eq_of_lt u,Nat.add_mul_div_left _ _ (by omega),Nat.div_eq_of_lt u,Nat.zero_add]
theorem DB{b:Nat}(E:2<=b):∀{l:List Nat},Lim b l->kP l=bI b (ofL b l)
 | [],_=>by rw[ofL,dW];rfl
 | x::l,h=>by
   have ih:=DB E (l:=l) fun y J=>h y (by simp[J])
   have I:=h x (by simp);rw[kP,ih];by_cases h0:ofL b l=0
   . simp only[ofL,h0,dW]
     by_cases u:x=0
     . subst u;simp[dW]
     . rw[if_neg u,Ec E I (by omega),dW]
   . have F:bI b (ofL b l)≠[]:=fun e=>h0 ((oY E).1 e)
     rw[ofL,Ec E I (by have:0<b*ofL b l:=Nat.mul_pos (by omega) (by omega);omega)];split
     . rename_i e;exact absurd e F
     . rename_i e;rw[e]
theorem ID{b:Nat}(E:2<=b){l:List Nat}{n:Nat}(h:Lim b l)(u:ofL b l=n):kP l=bI b n:=by rw[DB E h,u]
theorem iZ{b:Nat}(E:2<=b){n k:Nat}(h:n<b^k):(bI b n).length<=k:=by
 induction k generalizing n with
 | zero => have : n = 0 := by simpa using h
           subst this;rw[dW];exact Nat.le_refl _
 | succ k ih=>
   by_cases u:n=0
   . subst u;rw[dW];exact Nat.zero_le _
   . rw[nN E u,List.length_cons]
     refine Nat.succ_le_succ (ih ?_);rw[Nat.div_lt_iff_lt_mul (by omega)]
     rwa [Nat.pow_succ]at h
theorem IK{b:Nat}(u:2<=b){n k:Nat}(h:b^k<=n):k<(bI b n).length:=by
 have h1:=mE (b:=b) (by omega) (dP u n);rw[dU u]at h1;exact(Nat.pow_lt_pow_iff_right (by omega)).1 (Nat.lt_of_le_of_lt h h1)
theorem eC{b:Nat}(u:2<=b){m n:Nat}(h:m<=n):(bI b m).length<=(bI b n).length:=by
 refine iZ u ?_;have h1:=mE (b:=b) (by omega) (dP u n);rw[dU u]at h1;omega
theorem O2{b:Nat}(u:2<=b){n:Nat}(E:n≠0):b^((bI b n).length-1)<=n:=by
 induction n using Nat.strongRecOn with
 | _ n ih=>
   rw[nN u E,List.length_cons,Nat.add_sub_cancel];by_cases h0:n/b=0
   . rw[h0,dW];simp;omega
   . have:=ih (n/b) (Nat.div_lt_self (by omega) (by omega)) h0
     have F:(bI b (n/b)).length=((bI b (n/b)).length-1)+1:=by
       have:bI b (n/b)≠[]:=fun e=>h0 ((oY u).1 e)
       have:=List.length_pos_iff.2 this;omega
     rw[F,Nat.pow_succ];exact Nat.le_trans (Nat.mul_le_mul_right b this) (Nat.div_mul_le_self n b)
theorem Hh{b:Nat}(Z:0<b){l r:List Nat}(M:Lim b l)(hr:Lim b r)(F:l.length=r.length){k x y:Nat}(E:l[k]?=some x)(I:r[k]?=some y)(u:x<y)(hd:l.drop (k+1)=r.drop (k+1)):ofL b l<ofL b r:=by
 have hk:k<l.length:=(List.getElem?_eq_some_iff.1 E).1;have J:l=l.take (k+1)++l.drop (k+1):=(List.take_append_drop _ _).symm;have O:r=r.take (k+1)++r.drop (k+1):=(List.take_append_drop _ _).symm;rw[J,O,nP,nP,hd,jN b E,jN b I,List.length_take,List.length_take,Nat.min_eq_left (by omega),Nat.min_eq_left (by omega)];have h1:=mE Z (l:=l.take k) fun z T=>M z (List.mem_of_mem_take T)
 rw[List.length_take,Nat.min_eq_left (by omega)]at h1;have h2:b^k*(x+1)<=b^k*y:=Nat.mul_le_mul_left _ u;rw[Nat.mul_add]at h2;omega
theorem GN{b:Nat}(u:2<=b){m n:Nat}(h:(bI b m).length<(bI b n).length):m<n:=by
 rcases Nat.lt_or_ge m n with h1|h1
 . exact h1
 . have:=eC u h1;omega
theorem IH{α:Type}{p:List α->Prop}(h0:p [])(h1:∀l c,p l->p (l++[c]))(l:List α):p l:=by
 have:∀r:List α,p r.reverse:=fun r=>by
   induction r with
   | nil=>exact h0
   | cons c r ih=>rw[List.reverse_cons];exact h1 _ _ ih
 rw[<-List.reverse_reverse l];exact this _
def isD(c:UInt8):Bool:=decide (48<=c.toNat)&&decide (c.toNat<=57)
def gI(l:List UInt8):Nat:=l.foldl (fun a c=>10*a+(c.toNat-48)) 0
def eU(l:List UInt8):Bool:=l != []&&(l.length == 1||l.getD 0 0 != 48)&&l.all isD
def dec(n:Nat):ByteArray:=⟨(decDigits n).toArray⟩
theorem tB(l:List UInt8)(c:UInt8):gI (l++[c])=10*gI l+(c.toNat-48):=by simp[gI]
theorem BW{α:Type}{l r:List α}{k:Nat}{d:α}(h:k<l.length):(l++r).getD k d=l.getD k d:=by
 simp only[List.getD,List.getElem?_append_left h]
theorem pG{d:Nat}(h:d<10):(UInt8.ofNat (48+d)).toNat=48+d:=by
 rw[UInt8.toNat_ofNat'];omega
theorem DJ(n:Nat):gI (decDigits n)=n:=by
 induction n using Nat.strongRecOn with
 | _ n ih=>
   rw[decDigits];split
   . rename_i h
     simp only[gI,List.foldl_cons,List.foldl_nil,pG h];omega
   . rename_i h
     rw[tB,ih (n/10) (by omega),pG (by omega)];omega
theorem AX(n:Nat):(decDigits n).all isD=true:=by
 induction n using Nat.strongRecOn with
 | _ n ih=>
   rw[decDigits];split
   . rename_i h
     simp only[List.all_cons,List.all_nil,Bool.and_true,isD,pG h,Bool.and_eq_true,decide_eq_true_eq];omega
   . rename_i h
     rw[List.all_append,ih (n/10) (by omega)];simp only[List.all_cons,List.all_nil,Bool.and_true,Bool.true_and,isD,pG (show n%10<10 by omega),Bool.and_eq_true,decide_eq_true_eq];omega
theorem Nt(n:Nat):decDigits n≠[]:=by
 rw[decDigits];split <;> simp
theorem qL(n:Nat):0<(decDigits n).length:=List.length_pos_iff.2 (Nt n)
theorem Xn{n:Nat}(h:n≠0):(decDigits n).getD 0 0≠48:=by
 induction n using Nat.strongRecOn with
 | _ n ih=>
   rw[decDigits];split
   . rename_i h1
     simp only[List.getD_cons_zero];intro e;have:=pG h1;rw[e]at this;simp at this;omega
   . rename_i h1
     have E:=ih (n/10) (by omega) (by omega);have u:=qL (n/10);rw[BW u];exact E
theorem Mw{n:Nat}:(decDigits n).length=1↔n<10:=by
 rw[decDigits];split
 . simp_all
 . rename_i h
   have:=qL (n/10);simp only[List.length_append,List.length_cons,List.length_nil];omega
theorem Sh(n:Nat):eU (decDigits n)=true:=by
 unfold eU;simp only[Bool.and_eq_true,bne_iff_ne,ne_eq,Bool.or_eq_true,beq_iff_eq];refine⟨⟨Nt n,?_⟩,AX n⟩;by_cases h:n=0
 . left;rw[Mw];omega
 . right;exact Xn h
theorem oV{c:UInt8}:isD c=true↔48<=c.toNat/\c.toNat<=57:=by simp[isD]
theorem WY{c:UInt8}(h:isD c=true):UInt8.ofNat (48+(c.toNat-48))=c:=by
 rw[oV]at h;rw[show 48+(c.toNat-48)=c.toNat by omega];exact UInt8.ofNat_toNat
theorem Uf:∀{l:List UInt8},l.all isD=true->l≠[]->l.getD 0 0≠48->10^(l.length-1)<=gI l:=by
 intro l;induction l using IH with
 | h0=>intro _ h;exact absurd rfl h
 | h1 l c ih=>
   intro u _ h0;rw[List.all_append]at u;simp only[Bool.and_eq_true,List.all_cons,List.all_nil,Bool.and_true]at u;rw[tB];by_cases E:l=[]
   . subst E
     simp only[List.nil_append,List.getD_cons_zero]at h0;simp only[List.nil_append,List.length_cons,List.length_nil,Nat.zero_add,Nat.sub_self,Nat.pow_zero];have:=oV.1 u.2;have h1:c.toNat≠48:=fun e=>h0 (UInt8.toNat.inj e)
     omega
   . have F:=List.length_pos_iff.2 E
     rw[BW F]at h0;have:=ih u.1 E h0;simp only[List.length_append,List.length_cons,List.length_nil,Nat.zero_add,Nat.add_sub_cancel];rw[show l.length=(l.length-1)+1 by omega,Nat.pow_succ];omega
theorem I9:∀{l:List UInt8},eU l=true->decDigits (gI l)=l:=by
 intro l;induction l using IH with
 | h0=>intro h;simp[eU]at h
 | h1 l c ih=>
   intro h;unfold eU at h;simp only[Bool.and_eq_true,bne_iff_ne,ne_eq,Bool.or_eq_true,beq_iff_eq,List.all_append,List.all_cons,List.all_nil,Bool.and_true]at h;obtain⟨⟨_,h1⟩,F,E⟩:=h;have O:=oV.1 E;by_cases u:l=[]
   . subst u
     rw[List.nil_append];rw[show gI [c]=c.toNat-48 by simp[gI],decDigits_one (by omega),WY E]
   . have I:=List.length_pos_iff.2 u
     have h0:l.getD 0 0≠48:=by
       rcases h1 with h1|h1
       . simp only[List.length_append,List.length_cons,List.length_nil]at h1;omega
       . rwa [BW I]at h1
     have J:=Uf F u h0;have M:1<=gI l:=Nat.le_trans (Nat.one_le_pow _ _ (by omega)) J;rw[tB,decDigits,dif_neg (by omega)];rw[show(10*gI l+(c.toNat-48))/10=gI l by omega,show(10*gI l+(c.toNat-48))%10=c.toNat-48 by omega,WY E,ih];unfold eU;simp only[Bool.and_eq_true,bne_iff_ne,ne_eq,Bool.or_eq_true,beq_iff_eq];exact⟨⟨u,.inr h0⟩,F⟩
theorem qA{n k:Nat}(F:1<=k):(decDigits n).length<=k↔n<10^k:=by
 rw[decDigits_length];constructor
 . intro h
   exact Nat.lt_of_lt_of_le (lt_pow_nDigits n) (Nat.pow_le_pow_right (by omega) h)
 . intro h
   by_cases h0:n<10
   . rw[nDigits_small h0];exact F
   . induction k generalizing n with
     | zero=>omega
     | succ k ih=>
       by_cases u:k=0
       . subst u;simp at h;omega
       . rw[nDigits_big h0]
         rw[Nat.pow_succ]at h;have:=Nat.succ_le_succ (show nDigits (n/10)<=k from by
           by_cases E:n/10<10
           . rw[nDigits_small E];omega
           . exact ih (by omega) (by omega) E)
         exact this
def bl(s:ByteArray):List UInt8:=s.data.toList
theorem kV{a b:ByteArray}(h:bl a=bl b):a=b:=by
 cases a;cases b;simp only[bl]at h;rw[Array.toList_inj.1 h]
theorem fE(s:ByteArray):(bl s).length=s.size:=by unfold bl;rw[Array.length_toList];rfl
def eqB(a b:ByteArray):Bool:=bl a == bl b
theorem rC{a b:ByteArray}:eqB a b=true↔a=b:=by
 unfold eqB;rw[beq_iff_eq];exact⟨kV,fun h=>by rw[h]⟩
theorem pH{a b:ByteArray}:eqB a b=false↔a≠b:=by rw[<-Bool.not_eq_true,rC]
theorem iW(l:List UInt8):bl ⟨l.toArray⟩=l:=by simp[bl]
theorem Bv(a b:ByteArray):bl (a++b)=bl a++bl b:=by unfold bl;rw[ByteArray.data_append,Array.toList_append]
theorem akX(s:ByteArray):(⟨(bl s).toArray⟩:ByteArray)=s:=kV (iW _)
def emp:ByteArray:=ByteArray.empty
theorem iI(s:ByteArray)(a b:Nat):bl (s.extract a b)=((bl s).take b).drop a:=by
 simp[bl,ByteArray.data_extract,Array.toList_extract,List.extract_eq_take_drop,List.drop_take]
def XZ:Nat:=4096
def dB:Nat:=10^XZ
theorem Pc{n k:Nat}(h:n<10^k)(u:k<=4096):n<dB:=Nat.lt_of_lt_of_le h (Nat.pow_le_pow_right (show 0<10 by omega) (show k<=XZ from u))
theorem Zy:0<dB:=Nat.pow_pos (show 0<10 by omega)
def fO(s:ByteArray):Bool:=eU (bl s)
def eZ(s:ByteArray):Nat:=gI (bl s)
theorem lI(n:Nat):bl (dec n)=decDigits n:=iW _
theorem pU(n:Nat):fO (dec n)=true:=by unfold fO;rw[lI];exact Sh n
theorem cF(n:Nat):eZ (dec n)=n:=by unfold eZ;rw[lI];exact DJ n
theorem kE{s:ByteArray}(h:fO s=true):dec (eZ s)=s:=kV (by rw[lI];exact I9 h)
theorem EF(n:Nat):(dec n).size=(decDigits n).length:=by rw[<-fE,lI]
theorem hJ(n:Nat):(dec n).size<=4096↔n<dB:=by rw[EF];exact qA (k:=XZ) (by decide)
theorem zD{s:ByteArray}(h:fO s=true):s.size<=4096↔eZ s<dB:=by
 have:=hJ (eZ s)
 rwa [kE h]at this
theorem uU{m n:Nat}:dec m=dec n↔m=n:=⟨fun h=>by rw[<-cF m,h,cF],fun h=>by rw[h]⟩
def szN(n:Nat):ByteArray×Int:=if n<dB then(dec n,0)else(emp,4)
def jD(a b:ByteArray):Int:=if(!fO a|| !fO b)=true then 3 else if(decide (a.size>4096)||decide (b.size>4096))=true then 4 else 0
def NK(a b:ByteArray):ByteArray×Int:=if jD a b=0 then szN (eZ a+eZ b)else(emp,jD a b)
def Nj(a b:ByteArray):ByteArray×Int:=if jD a b=0 then(if eZ a<eZ b then(emp,2)else szN (eZ a-eZ b))else(emp,jD a b)
def OK(a b:ByteArray):ByteArray×Int:=if jD a b=0 then szN (eZ a*eZ b)else(emp,jD a b)
def Js(a b:ByteArray):ByteArray×ByteArray×Int:=if jD a b=0 then(if eZ b=0 then(emp,emp,10)else(dec (eZ a/eZ b),dec (eZ a%eZ b),0))else(emp,emp,jD a b)
def IZ(a b:ByteArray):ByteArray×Int:=if jD a b=0 then szN (Nat.gcd (eZ a) (eZ b))else(emp,jD a b)
theorem Ii{a b:ByteArray}(u:fO a=true)(E:fO b=true)(I:a.size<=4096)(F:b.size<=4096):jD a b=0:=by
 unfold jD;rw[u,E];simp;omega
theorem wT{m n:Nat}(u:m<dB)(E:n<dB):jD (dec m) (dec n)=0:=Ii (pU m) (pU n) ((hJ m).2 u) ((hJ n).2 E)
theorem sO{a b:ByteArray}(h:jD a b=0):∃m n,a=dec m/\b=dec n/\m<dB/\n<dB:=by
 unfold jD at h;split at h
 . cases h
 . rename_i h1
   split at h
   . cases h
   . rename_i u
     simp only[Bool.or_eq_true,Bool.not_eq_true',not_or,Bool.not_eq_false,decide_eq_true_eq,Nat.not_lt]at h1 u;exact⟨eZ a,eZ b,(kE h1.1).symm,(kE h1.2).symm,(zD h1.1).1 u.1,(zD h1.2).1 u.2⟩
theorem Bw{n:Nat}(h:n<dB):szN n=(dec n,0):=if_pos h
def iA(s:ByteArray):Bool:=(bl s).head? == some 45
def eD(s:ByteArray):ByteArray:=if iA s=true then⟨((bl s).drop 1).toArray⟩else s
def fB(s:ByteArray):Bool:=fO (eD s)&& !(iA s&&eqB (eD s) (dec 0))
def iT(s:ByteArray):Int:=if iA s=true then -(eZ (eD s):Int)else eZ (eD s)
def zed(n:Int):ByteArray:=⟨(itoa n).toArray⟩
theorem fD(n:Nat):zed n=dec n:=by unfold zed;rw[itoa_nonneg];rfl
theorem As{n:Nat}(h:1<=n):zed (-(n:Int))=⟨((45:UInt8)::decDigits n).toArray⟩:=by unfold zed;rw[itoa_neg n h]
theorem AG(n:Nat):iA (dec n)=false:=by
 unfold iA;rw[lI];have h1:=AX n;have u:=Nt n;cases h:decDigits n with
 | nil=>exact absurd h u
 | cons c r=>
   rw[h]at h1;simp only[List.all_cons,Bool.and_eq_true]at h1;have:=oV.1 h1.1;simp only[List.head?_cons,beq_eq_false_iff_ne,ne_eq,Option.some.injEq];intro e;rw[e]at this;simp at this
theorem Ma(n:Nat):eD (dec n)=dec n:=by unfold eD;rw[AG];rfl
theorem E1(l:List UInt8):iA ⟨((45:UInt8)::l).toArray⟩=true:=by unfold iA;rw[iW];rfl
theorem Tg(l:List UInt8):eD ⟨((45:UInt8)::l).toArray⟩=⟨l.toArray⟩:=by unfold eD;rw[E1,if_pos rfl,iW];rfl
theorem zM(n:Int):iA (zed n)=decide (n<0):=by
 rcases Int.lt_or_le n 0 with h|h
 . obtain⟨m,rfl⟩:∃m:Nat,n= -(m:Int):=⟨n.natAbs,by omega⟩
   rw[As (by omega),E1];simp;omega
 . obtain⟨m,rfl⟩:∃m:Nat,n=m:=⟨n.toNat,by omega⟩
   rw[fD,AG];simp
theorem mA(n:Int):eD (zed n)=dec n.natAbs:=by
 rcases Int.lt_or_le n 0 with h|h
 . obtain⟨m,rfl⟩:∃m:Nat,n= -(m:Int):=⟨n.natAbs,by omega⟩
   rw[As (by omega),Tg,Int.natAbs_neg,Int.natAbs_natCast];rfl
 . obtain⟨m,rfl⟩:∃m:Nat,n=m:=⟨n.toNat,by omega⟩
   rw[fD,Ma,Int.natAbs_natCast]
theorem nR(n:Int):fB (zed n)=true:=by
 unfold fB;rw[mA,zM,pU];simp only[Bool.true_and,Bool.not_eq_true',Bool.and_eq_false_iff,decide_eq_false_iff_not];by_cases h:n<0
 . right
   refine pH.2 fun e=>?_
   rw[uU]at e;omega
 . left;exact h
theorem cY(n:Int):iT (zed n)=n:=by
 unfold iT;rw[mA,zM,cF];split
 . rename_i h;simp only[decide_eq_true_eq]at h;omega
 . rename_i h;simp only[decide_eq_true_eq]at h;omega
theorem EG{s:ByteArray}(h:fB s=true):zed (iT s)=s:=by
 unfold fB at h;simp only[Bool.and_eq_true,Bool.not_eq_true',Bool.and_eq_false_iff]at h;obtain⟨h1,E⟩:=h;have I:=kE h1;unfold iT;by_cases u:iA s=true
 . have O : eD s ≠ dec 0 := by
     rcases E with E|E
     . rw[u]at E;cases E
     . exact pH.1 E
   rw[if_pos u];have M:1<=eZ (eD s):=by
     rcases Nat.eq_zero_or_pos (eZ (eD s))with F|F
     . exact absurd (by rw[<-I,F]) O
     . exact F
   rw[As M];refine kV ?_;rw[iW,<-lI,I];unfold eD;rw[if_pos u,iW];unfold iA at u;cases J:bl s with
   | nil=>rw[J]at u;cases u
   | cons c r=>
     rw[J]at u;simp only[List.head?_cons,beq_iff_eq,Option.some.injEq]at u;subst u;rfl
 . rw[if_neg u,fD,I]
   unfold eD;rw[if_neg u]
theorem WL{m n:Int}:zed m=zed n↔m=n:=⟨fun h=>by rw[<-cY m,h,cY],fun h=>by rw[h]⟩
def szZ(n:Int):ByteArray×Int:=if n.natAbs<dB then(zed n,0)else(emp,4)
def mV(a b:ByteArray):Int:=if(!fB a|| !fB b)=true then 3 else if(decide ((eD a).size>4096)||decide ((eD b).size>4096))=true then 4 else 0
def Sa(a b:ByteArray):ByteArray×Int:=if mV a b=0 then szZ (iT a+iT b)else(emp,mV a b)
def Te(a b:ByteArray):ByteArray×Int:=if mV a b=0 then szZ (iT a-iT b)else(emp,mV a b)
def xD(a b:ByteArray):ByteArray×Int:=if mV a b=0 then szZ (iT a*iT b)else(emp,mV a b)
def C0(a b:ByteArray):ByteArray×ByteArray×Int:=if mV a b=0 then(if iT b=0 then(emp,emp,10)else(zed ((iT a).fdiv (iT b)),zed ((iT a).fmod (iT b)),0))else(emp,emp,mV a b)
def iK(a b:Int):Int:=if a<b then -1 else if b<a then 1 else 0
def Vp(a b:ByteArray):Int:=if fB a=true/\fB b=true then iK (iT a) (iT b)else 0
def KH(a:ByteArray):Int:=if fB a=true then(iT a).sign else 0
theorem tA{m n:Int}(u:m.natAbs<dB)(E:n.natAbs<dB):mV (zed m) (zed n)=0:=by
 unfold mV;rw[nR,nR,mA,mA];have:=(hJ m.natAbs).2 u;have:=(hJ n.natAbs).2 E;simp;omega
theorem xV{a b:ByteArray}(h:mV a b=0):∃m n:Int,a=zed m/\b=zed n/\m.natAbs<dB/\n.natAbs<dB:=by
 unfold mV at h;split at h
 . cases h
 . rename_i h1
   split at h
   . cases h
   . rename_i u
     simp only[Bool.or_eq_true,Bool.not_eq_true',not_or,Bool.not_eq_false,decide_eq_true_eq,Nat.not_lt]at h1 u;have F:=EG h1.1;have E:=EG h1.2;refine⟨iT a,iT b,F.symm,E.symm,?_,?_⟩
     . have:=u.1
       rw[<-F,mA]at this;exact(hJ _).1 this
     . have:=u.2
       rw[<-E,mA]at this;exact(hJ _).1 this
def dT:UInt8:=47
def jZ(s:ByteArray):Bool:=(bl s).any (· == dT)
def iU(s:ByteArray):ByteArray:=⟨((bl s).takeWhile (· != dT)).toArray⟩
def iB(s:ByteArray):ByteArray:=if jZ s=true then⟨(((bl s).dropWhile (· != dT)).drop 1).toArray⟩else dec 1
def cG(s:ByteArray):Bool:=(fB (iU s)&&fO (iB s)&&decide ((eD (iU s)).size<=4096)&&decide ((iB s).size<=4096)) &&
 (!jZ s||(!eqB (iB s) (dec 0)&& !eqB (iB s) (dec 1)&& !eqB (iU s) (dec 0)&&Nat.gcd (iT (iU s)).natAbs (eZ (iB s)) == 1))
def rQ(s:ByteArray):Rat:=mkRat (iT (iU s)) (eZ (iB s))
def slB:ByteArray:=⟨#[47]⟩
def tO(x:Rat):ByteArray:=if x.den=1 then zed x.num else zed x.num++slB++dec x.den
def By(x:Rat):Prop:=x.num.natAbs<dB/\x.den<dB
theorem tT{α:Type}{p:α->Bool}:∀{l:List α},(∀c∈l,p c=true)->l.takeWhile p=l
 | [],_=>rfl
 | a::l,h=>by rw[List.takeWhile_cons,if_pos (h a (by simp)),tT fun c u=>h c (by simp[u])]
theorem BU{α:Type}{p:α->Bool}:∀{l:List α} {c:α},c∈l.takeWhile p->p c=true
 | [],c,h=>by simp at h
 | a::l,c,h=>by
   rw[List.takeWhile_cons]at h;split at h
   . rename_i u
     rcases List.mem_cons.1 h with rfl|h
     . exact u
     . exact BU h
   . cases h
theorem JV{c:UInt8}(h:isD c=true):(c != dT)=true:=by
 have:=oV.1 h;simp only[bne_iff_ne,ne_eq];intro e;rw[e]at this;simp[dT]at this
theorem CB(n:Nat):∀c∈decDigits n,(c != dT)=true:=fun c u=>JV (List.all_eq_true.1 (AX n) c u)
theorem oR(n:Int):∀c∈itoa n,(c != dT)=true:=by
 intro c u;unfold itoa at u;split at u
 . rcases List.mem_cons.1 u with rfl|u
   . decide
   . exact CB _ c u
 . exact CB _ c u
theorem Jc(n:Int):bl (zed n)=itoa n:=iW _
theorem acM:bl slB=[dT]:=rfl
theorem Ru{l r:List UInt8}(h:∀c∈l,(c != dT)=true):(l++dT::r).takeWhile (· != dT)=l:=by
 rw[List.takeWhile_append_of_pos h];simp
theorem SN{l r:List UInt8}(h:∀c∈l,(c != dT)=true):(l++dT::r).dropWhile (· != dT)=dT::r:=by
 rw[List.dropWhile_append_of_pos h];simp
theorem BA{l:List UInt8}(h:∀c∈l,(c != dT)=true):l.any (· == dT)=false:=by
 rw[List.any_eq_false];intro c u e;have:=h c u;simp at this e;exact this e
theorem Db(x:Rat):bl (tO x)=if x.den=1 then itoa x.num else itoa x.num++dT::decDigits x.den:=by
 unfold tO;split
 . exact Jc _
 . rw[Bv,Bv,Jc,lI,acM];simp
theorem EI(x:Rat):jZ (tO x)= !(x.den == 1):=by
 unfold jZ;rw[Db];split
 . rename_i h;rw[BA (oR _),h];rfl
 . rename_i h
   rw[List.any_append];simp[h]
theorem Gk(x:Rat):iU (tO x)=zed x.num:=by
 refine kV ?_;unfold iU;rw[iW,Db,Jc];split
 . exact tT (oR _)
 . exact Ru (oR _)
theorem Ga(x:Rat):iB (tO x)=dec x.den:=by
 unfold iB;rw[EI,Db];by_cases h:x.den=1
 . simp[h]
 . simp only[h,beq_eq_false_iff_ne.2 h,Bool.not_false,if_true,if_false]
   rw[SN (oR _)];rfl
theorem nH(x:Rat):rQ (tO x)=x:=by
 unfold rQ;rw[Gk,Ga,cY,cF,Rat.mkRat_self]
theorem sU(n:Int):(eD (zed n)).size<=4096↔n.natAbs<dB:=by rw[mA];exact hJ _
theorem qR{x:Rat}(h:By x):cG (tO x)=true:=by
 unfold cG;rw[Gk,Ga,nR,pU,EI,cY,cF];simp only[Bool.true_and,Bool.and_eq_true,decide_eq_true_eq,Bool.or_eq_true,Bool.not_not,beq_iff_eq,Bool.not_eq_true',pH,ne_eq];refine⟨⟨(sU _).2 h.1,(hJ _).2 h.2⟩,?_⟩;by_cases h1:x.den=1
 . exact .inl h1
 . refine .inr ⟨⟨⟨?_,?_⟩,?_⟩,x.reduced⟩
   . rw[uU];exact x.den_nz
   . rw[uU];exact h1
   . rw[<-fD,WL]
     intro h0;apply h1;have:=x.reduced;rw[h0]at this;simpa[Nat.Coprime]using this
theorem iX{s:ByteArray}(h:cG s=true):∃x:Rat,s=tO x/\By x/\iU s=zed x.num/\iB s=dec x.den:=by
 unfold cG at h;simp only[Bool.and_eq_true,decide_eq_true_eq,Bool.or_eq_true,Bool.not_eq_true',pH,ne_eq,beq_iff_eq]at h;obtain⟨⟨⟨⟨h1,h2⟩,h3⟩,h4⟩,F⟩:=h;have ep:=EG h1;have eq:=kE h2;have E:(iT (iU s)).natAbs.Coprime (eZ (iB s))/\eZ (iB s)≠0:=by
   rcases F with F|⟨⟨⟨h6,_⟩,_⟩,h7⟩
   . have I:iB s=dec 1:=by unfold iB;rw[if_neg (by rw[F];simp)]
     rw[I,cF];exact⟨Nat.coprime_one_right _,by omega⟩
   . exact⟨h7,fun e=>h6 (by rw[<-eq,e])⟩
 let x:Rat:=⟨iT (iU s),eZ (iB s),E.2,E.1⟩
 have I:iU s=zed x.num:=ep.symm;have J:iB s=dec x.den:=eq.symm;refine⟨x,kV ?_,⟨?_,?_⟩,I,J⟩
 . rw[Db]
   have Z:bl (iU s)=(bl s).takeWhile (· != dT):=iW _;rw[I,Jc]at Z;by_cases u:jZ s=true
   . have hd:bl (iB s)=((bl s).dropWhile (· != dT)).drop 1:=by unfold iB;rw[if_pos u,iW]
     rw[J,lI]at hd;have T:x.den≠1:=fun e=>by
       rcases F with F|⟨⟨⟨_,h6⟩,_⟩,_⟩
       . rw[u]at F;cases F
       . exact h6 (by rw[J,e])
     rw[if_neg T,Z,hd]
     conv=>lhs;rw[<-List.takeWhile_append_dropWhile (p:=(· != dT)) (l:=bl s)]
     congr 1
     cases hw:(bl s).dropWhile (· != dT)with
     | nil=>
       exfalso
       unfold jZ at u;obtain⟨c,O,M⟩:=List.any_eq_true.1 u;rw[<-List.takeWhile_append_dropWhile (p:=(· != dT)) (l:=bl s),hw,List.append_nil]at O;have:=BU O;simp at this M;exact this M
     | cons c r=>
       have h0:(c != dT)=false:=by
         have:=List.head?_dropWhile_not (p:=(· != dT)) (l:=bl s);rw[hw]at this;simpa using this
       have:c=dT:=by simpa using h0
       rw[this];rfl
   . have u:jZ s=false:=by simpa using u
     have T:x.den=1:=by
       have:iB s=dec 1:=by unfold iB;rw[u];rfl
       rw[J]at this;exact uU.1 this
     rw[if_pos T,Z]
     symm
     refine tT ?_;intro c O;unfold jZ at u;rw[List.any_eq_false]at u;have:=u c O;simp at this |-;exact this
 . rw[I]at h3;exact(sU _).1 h3
 . rw[J]at h4;exact(hJ _).1 h4
def lZ(n:Int):Bool:= !decide (n.natAbs<dB)
def EB(x y:Rat):ByteArray×Int:=if(lZ (x.num*y.den)||lZ (y.num*x.den)||lZ (x.num*y.den+y.num*x.den)||lZ (x.den*y.den))=true then(emp,4)else(tO (x+y),0)
def zJ(a b:ByteArray):ByteArray×Int:=if(cG a&&cG b)=true then EB (rQ a) (rQ b)else(emp,3)
def Ev(a b:ByteArray):ByteArray×Int:=if(cG a&&cG b)=true then EB (rQ a) (-rQ b)else(emp,3)
def LL(x y:Rat):ByteArray×Int:=if(lZ (x.num*y.num)||lZ (x.den*y.den))=true then(emp,4)else(tO (x*y),0)
def yV(a b:ByteArray):ByteArray×Int:=if(cG a&&cG b)=true then LL (rQ a) (rQ b)else(emp,3)
def Og(x y:Rat):Int:=if x<y then -1 else if y<x then 1 else 0
def Fj(a b:ByteArray):Int:=if(cG a&&cG b)=true then Og (rQ a) (rQ b)else 0
def FP(a:ByteArray):Int:=if cG a=true then(rQ a).num.sign else 0
theorem ZS{n:Int}{d:Nat}(u:d≠0):n.fdiv (Nat.gcd n.natAbs d:Nat)=(mkRat n d).num:=by
 rw[Rat.num_mkRat,if_neg u,Nat.gcd_comm];exact Int.fdiv_eq_ediv_of_nonneg _ (by omega)
theorem ZQ{n:Int}{d:Nat}(u:d≠0):(d:Int).fdiv (Nat.gcd n.natAbs d:Nat)=((mkRat n d).den:Int):=by
 rw[Rat.den_mkRat,if_neg u,Nat.gcd_comm,Int.fdiv_eq_ediv_of_nonneg _ (by omega)];rfl
theorem ES{n:Int}{d:Nat}(E:d≠0)(F:n.natAbs<dB)(u:d<dB):By (mkRat n d):=by
 constructor
 . rw[Rat.num_mkRat,if_neg E]
   have:(n/((d.gcd n.natAbs:Nat):Int)).natAbs<=n.natAbs:=by
     rw[Int.natAbs_ediv_of_dvd]
     . exact Nat.div_le_self _ _
     . exact Int.ofNat_dvd_left.2 (Nat.gcd_dvd_right _ _)
   omega
 . rw[Rat.den_mkRat,if_neg E]
   exact Nat.lt_of_le_of_lt (Nat.div_le_self _ _) u
theorem Ya{n:Int}{d:Nat}(u:d≠0):0<Nat.gcd n.natAbs d:=Nat.gcd_pos_of_pos_right _ (by omega)
theorem Rl{n:Int}{d:Nat}(u:d≠0)(h:d<dB):Nat.gcd n.natAbs d<dB:=Nat.lt_of_le_of_lt (Nat.gcd_le_right _ (by omega)) h
theorem lB{n:Int}:lZ n=false↔n.natAbs<dB:=by simp[lZ]
theorem Oz(x y:Rat):x+y=mkRat (x.num*y.den+y.num*x.den) (x.den*y.den):=Rat.add_def' x y
theorem Vf(x y:Rat):x*y=mkRat (x.num*y.num) (x.den*y.den):=Rat.mul_def' x y
theorem Dg(x y:Rat):((x.den:Int)*y.den).natAbs=x.den*y.den:=by rw[Int.natAbs_mul,Int.natAbs_natCast,Int.natAbs_natCast]
theorem I6(x y:Rat):x.den*y.den≠0:=Nat.mul_ne_zero x.den_nz y.den_nz
theorem zG{x y:Rat}(h:(EB x y).2=0):EB x y=(tO (x+y),0)/\By (x+y):=by
 unfold EB at h |-;split at h
 . cases h
 . rename_i u
   rw[if_neg u];simp only[Bool.or_eq_true,not_or,Bool.not_eq_true,lB]at u;exact⟨rfl,by rw[Oz];exact ES (I6 x y) u.1.2 (by rw[<-Dg];exact u.2)⟩
theorem LV{x y:Rat}(h:(LL x y).2=0):LL x y=(tO (x*y),0)/\By (x*y):=by
 unfold LL at h |-;split at h
 . cases h
 . rename_i u
   rw[if_neg u];simp only[Bool.or_eq_true,not_or,Bool.not_eq_true,lB]at u;exact⟨rfl,by rw[Vf];exact ES (I6 x y) u.1 (by rw[<-Dg];exact u.2)⟩
def Fi(p q r s:Int):Int:=iK (p*s) (r*q)
theorem pR{p q:Int}(u:0<q):p=p.fdiv q*q+p.fmod q/\0<=p.fmod q/\p.fmod q<q:=
 ⟨by rw[Int.mul_comm];exact(Int.mul_fdiv_add_fmod p q).symm,Int.fmod_nonneg_of_pos _ u,Int.fmod_lt_of_pos _ u⟩
theorem iP{a b:Int}(h:a<b):iK a b= -1:=if_pos h
theorem iQ{a b:Int}(h:b<a):iK a b=1:=by unfold iK;rw[if_neg (by omega),if_pos h]
theorem qT{a b:Int}(h:a=b):iK a b=0:=by unfold iK;rw[if_neg (by omega),if_neg (by omega)]
theorem G6{a b:Int}:iK a b=0↔a=b:=by
 unfold iK;constructor
 . intro h
   split at h
   . cases h
   . split at h
     . cases h
     . omega
 . intro h;rw[if_neg (by omega),if_neg (by omega)]
theorem SH(a b:Int):iK b a= -iK a b:=by
 rcases Int.lt_trichotomy a b with h|h|h
 . rw[iP h,iQ h];rfl
 . rw[qT h,qT h.symm];rfl
 . rw[iQ h,iP h]
theorem LJ{p q r s:Int}(E:0<q)(u:0<s)(h:p.fdiv q<r.fdiv s):p*s<r*q:=by
 obtain⟨I,a1,F⟩:=pR (p:=p) E;obtain⟨J,a2,M⟩:=pR (p:=r) u;have h1:p*s<(p.fdiv q+1)*q*s:=by
   refine Int.mul_lt_mul_of_pos_right ?_ u;rw[Int.add_mul];omega
 have O:(p.fdiv q+1)*q*s<=r.fdiv s*q*s:=Int.mul_le_mul_of_nonneg_right (Int.mul_le_mul_of_nonneg_right (by omega) (by omega)) (by omega);have T:r.fdiv s*q*s<=r*q:=by
   rw[Int.mul_right_comm];exact Int.mul_le_mul_of_nonneg_right (by omega) (by omega)
 omega
theorem NV{p q r s:Int}(u:0<q)(E:0<s)(h:p.fdiv q≠r.fdiv s):Fi p q r s=iK (p.fdiv q) (r.fdiv s):=by
 unfold Fi;rcases Int.lt_or_gt_of_ne h with h|h
 . rw[iP h,iP (LJ u E h)]
 . rw[iQ h,iQ (LJ E u h)]
theorem TK{p q r s:Int}(M:0<q)(u:0<s)(h:p.fdiv q=r.fdiv s):Fi p q r s=iK (p.fmod q*s) (r.fmod s*q):=by
 obtain⟨E,_,_⟩:=pR (p:=p) M;obtain⟨I,_,_⟩:=pR (p:=r) u;unfold Fi;have h1:p*s=p.fdiv q*q*s+p.fmod q*s:=by
   conv=>lhs;rw[E]
   rw[Int.add_mul]
 have O:r*q=p.fdiv q*q*s+r.fmod s*q:=by
   conv=>lhs;rw[I]
   rw[Int.add_mul,<-h,Int.mul_right_comm]
 rw[h1,O];unfold iK;have J:(p.fdiv q*q*s+p.fmod q*s<p.fdiv q*q*s+r.fmod s*q)↔p.fmod q*s<r.fmod s*q:=by omega
 have F:(p.fdiv q*q*s+r.fmod s*q<p.fdiv q*q*s+p.fmod q*s)↔r.fmod s*q<p.fmod q*s:=by omega
 simp only[J,F]
theorem Tl(x q y s:Int):iK (x*s) (y*q)= -Fi q x s y:=by
 unfold Fi;rw[Int.mul_comm q y,Int.mul_comm s x];exact SH _ _
theorem TM(x y:Rat):Og x y=Fi x.num x.den y.num y.den:=by
 unfold Og Fi iK;simp only[Rat.lt_iff]
theorem Xd(n:Int):n.sign=iK n 0:=by
 rcases Int.lt_trichotomy n 0 with h|h|h
 . rw[iP h,Int.sign_eq_neg_one_of_neg h]
 . subst h;rfl
 . rw[iQ h,Int.sign_eq_one_of_pos h]
theorem Se(x:Rat):Og x 0=x.num.sign:=by
 rw[TM,Xd];unfold Fi;simp
theorem xG(b:Nat)(l:List Nat)(k:Nat):ofL b (l.take (k+1))=ofL b (l.take k)+b^k*l.getD k 0:=by
 cases h:l[k]? with
 | none=>
   have u:=List.getElem?_eq_none_iff.1 h;rw[List.take_of_length_le (by omega),List.take_of_length_le (by omega)];simp[List.getD,h]
 | some x=>rw[jN b h];simp[List.getD,h]
theorem Lim.getD{b:Nat}(E:0<b){l:List Nat}(h:Lim b l)(k:Nat):l.getD k 0<b:=by
 cases u:l[k]? with
 | none=>simpa[List.getD,u]using E
 | some x=>simpa[List.getD,u]using h x (List.mem_of_getElem? u)
theorem Lim.snoc{b:Nat}{l:List Nat}(h:Lim b l){x:Nat}(E:x<b):Lim b (l++[x]):=fun y u=>by
 rcases List.mem_append.1 u with u|u
 . exact h y u
 . rw[List.mem_singleton.1 u];exact E
theorem Lim.set{b:Nat}{l:List Nat}(h:Lim b l){x k:Nat}(E:x<b):Lim b (l.set k x):=fun y u=>by
 rcases List.mem_or_eq_of_mem_set u with u|rfl
 . exact h y u
 . exact E
theorem Lim.take{b:Nat}{l:List Nat}(h:Lim b l)(k:Nat):Lim b (l.take k):=fun y u=>h y (List.mem_of_mem_take u)
theorem Lim.drop{b:Nat}{l:List Nat}(h:Lim b l)(k:Nat):Lim b (l.drop k):=fun y u=>h y (List.mem_of_mem_drop u)
theorem Lim.zeros{b:Nat}(E:0<b)(n:Nat):Lim b (List.replicate n 0):=fun y u=>by
 rw[(List.mem_replicate.1 u).2];exact E
theorem vY(b:Nat){l:List Nat}{k x:Nat}(h:l[k]?=some x):ofL b (l.drop k)=x+b*ofL b (l.drop (k+1)):=by
 obtain⟨E,u⟩:=List.getElem?_eq_some_iff.1 h;rw[List.drop_eq_getElem_cons E,u,ofL]
theorem OJ{b:Nat}(F:0<b){l o:List Nat}{i n k c:Nat}(u:l[i]?=some n)(E:o.length=i)(h:ofL b o+b^i*c=ofL b (l.take i)*k):
   ofL b (o++[(n*k+c)%b])+b^(i+1)*((n*k+c)/b)=ofL b (l.take (i+1))*k:=by
 rw[pP,jN b u,E,Nat.pow_succ];have e:=Nat.mod_add_div (n*k+c) b;have I:b^i*((n*k+c)%b+b*((n*k+c)/b))=b^i*(n*k+c):=by rw[e]
 grind
theorem Ug{b:Nat}(E:0<b){x y o:List Nat}{i c:Nat}(u:o.length=i)(h:ofL b o+b^i*c=ofL b (x.take i)+ofL b (y.take i)):
   ofL b (o++[(x.getD i 0+y.getD i 0+c)%b])+b^(i+1)*((x.getD i 0+y.getD i 0+c)/b)=ofL b (x.take (i+1))+ofL b (y.take (i+1)):=by
 rw[pP,xG,xG,u,Nat.pow_succ];have e:=Nat.mod_add_div (x.getD i 0+y.getD i 0+c) b;have F:b^i*((x.getD i 0+y.getD i 0+c)%b+b*((x.getD i 0+y.getD i 0+c)/b))=b^i*(x.getD i 0+y.getD i 0+c):=by rw[e]
 grind
theorem Nc{b:Nat}{x y o:List Nat}{i c c' d:Nat}(u:o.length=i)(h:ofL b o+ofL b (y.take i)=ofL b (x.take i)+b^i*c)(E:d+y.getD i 0+c=x.getD i 0+b*c'):
   ofL b (o++[d])+ofL b (y.take (i+1))=ofL b (x.take (i+1))+b^(i+1)*c':=by
 rw[pP,xG,xG,u,Nat.pow_succ];have F:b^i*(d+y.getD i 0+c)=b^i*(x.getD i 0+b*c'):=by rw[E]
 grind
theorem Kc{b x y c:Nat}(u:x<b)(E:y<b)(F:c<=1):(if(x:Int)-y-c<0 then(x:Int)-y-c+b else(x:Int)-y-c)=((if x<y+c then x+b-(y+c)else x-(y+c):Nat):Int):=by
 split <;> split <;> omega
theorem IR{b x y c:Nat}(u:x<b)(E:y<b)(F:c<=1):(if x<y+c then x+b-(y+c)else x-(y+c))+y+c=x+b*(if x<y+c then 1 else 0)/\(if x<y+c then x+b-(y+c)else x-(y+c))<b:=by
 split <;> constructor <;> omega
theorem RY{b:Nat}(M:2<=b){x y o:List Nat}{c:Nat}(F:Lim b o)(O:Lim b x)(I:o.length=x.length)(E:y.length<=x.length)(J:ofL b y<=ofL b x)(T:c<=1)(h:ofL b o+ofL b (y.take x.length)=ofL b (x.take x.length)+b^x.length*c):
   c=0/\ofL b o=ofL b x-ofL b y:=by
 rw[List.take_of_length_le E,List.take_length]at h;have h1:=mE (by omega) F;rw[I]at h1;rcases Nat.eq_zero_or_pos c with u|u
 . subst u;rw[Nat.mul_zero]at h;omega
 . have:c=1:=by omega
   subst this;rw[Nat.mul_one]at h;omega
theorem VZ{b:Nat}(J:0<b){y out E:List Nat}{i k x c v u:Nat}(I:out[i+k]?=some v)(F:y[k]?=some u)(h:ofL b out+b^(i+k)*c=ofL b E+b^i*(x*ofL b (y.take k))):
   ofL b (out.set (i+k) ((v+x*u+c)%b))+b^(i+(k+1))*((v+x*u+c)/b)=ofL b E+b^i*(x*ofL b (y.take (k+1))):=by
 have h1:=Ie b out (i+k) v ((v+x*u+c)%b) I;have e:=Nat.mod_add_div (v+x*u+c) b;have M:b^(i+k)*((v+x*u+c)%b+b*((v+x*u+c)/b))=b^(i+k)*(v+x*u+c):=by rw[e]
 rw[jN b F,show i+(k+1)=(i+k)+1 by omega,Nat.pow_succ];have O:b^(i+k)=b^i*b^k:=Nat.pow_add b i k
 grind
theorem aaM{b:Nat}{y out u:List Nat}{i x c:Nat}(E:out[i+y.length]?=some 0)(h:ofL b out+b^(i+y.length)*c=ofL b u+b^i*(x*ofL b (y.take y.length))):
   ofL b (out.set (i+y.length) c)=ofL b u+b^i*(x*ofL b y):=by
 have h1:=Ie b out (i+y.length) 0 c E;rw[List.take_length]at h;rw[<-h];omega
theorem UZ{b r a:Nat}(T:2<=b){l:List Nat}{i x:Nat}{u:List Nat}(O:l[i]?=some x)(F:x<b)(J:r<a)(M:i<u.length)(h:ofL b (l.drop (i+1))=ofL b (u.drop (i+1))*a+r):
   ofL b (l.drop i)=ofL b ((u.set i ((x+b*r)/a)).drop i)*a+(x+b*r)%a/\(x+b*r)/a<b/\(x+b*r)%a<a:=by
 have E:0<a:=by omega
 have I:(u.set i ((x+b*r)/a))[i]?=some ((x+b*r)/a):=by simp[M]
 refine⟨?_,?_,Nat.mod_lt _ E⟩
 . rw[vY b O,vY b I,h,List.drop_set_of_lt (by omega)]
   have e:=Nat.mod_add_div (x+b*r) a
   grind
 . rw[Nat.div_lt_iff_lt_mul E]
   have:b*(r+1)<=b*a:=Nat.mul_le_mul_left _ J;rw[Nat.mul_add]at this;omega
theorem aaT{q r a n:Nat}(u:r<a)(h:n=q*a+r):q=n/a/\r=n%a:=by
 subst h;have E:0<a:=by omega
 constructor
 . rw[Nat.add_comm,Nat.add_mul_div_right _ _ E,Nat.div_eq_of_lt u,Nat.zero_add]
 . rw[Nat.add_comm,Nat.add_mul_mod_self_right,Nat.mod_eq_of_lt u]
theorem Ub(l:List UInt8):∀a:Nat,l.foldl (fun a c=>10*a+(c.toNat-48)) a=a*10^l.length+gI l:=by
 induction l with
 | nil=>intro a;simp[gI]
 | cons c l ih=>
   intro a;have h1:=ih (10*a+(c.toNat-48));have u:=ih (10*0+(c.toNat-48));simp only[List.foldl_cons,gI]at h1 u |-;rw[h1,u,List.length_cons,Nat.pow_succ]
   grind
theorem wJ(a b:List UInt8):gI (a++b)=gI a*10^b.length+gI b:=by
 rw[gI,List.foldl_append];exact Ub b _
theorem Df{l:List UInt8}(h:l.all isD=true):gI l<10^l.length:=by
 induction l using IH with
 | h0=>simp[gI]
 | h1 l c ih=>
   rw[List.all_append]at h;simp only[Bool.and_eq_true,List.all_cons,List.all_nil,Bool.and_true]at h;have:=ih h.1;have u:=oV.1 h.2;rw[tB,List.length_append,List.length_cons,List.length_nil,Nat.pow_succ];omega
def KQ:Nat->Nat->List UInt8
 | 0,_=>[]
 | k+1,x=>KQ k (x/10)++[UInt8.ofNat (48+x%10)]
theorem F5:∀(k x m:Nat),x<10^k->m≠0->decDigits (x+10^k*m)=decDigits m++KQ k x
 | 0,x,m,hx,hm=>by
   have:x=0:=by simpa using hx
   subst this;simp[KQ]
 | k+1,x,m,hx,hm=>by
   rw[Nat.pow_succ]at hx;have h1:10^(k+1)*m=10*(10^k*m):=by rw[Nat.pow_succ,Nat.mul_comm (10^k) 10,Nat.mul_assoc]
   have u:0<10^k*m:=Nat.mul_pos (Nat.pow_pos (by omega)) (by omega);rw[h1,decDigits,dif_neg (by omega),show(x+10*(10^k*m))/10=x/10+10^k*m by omega,show(x+10*(10^k*m))%10=x%10 by omega,F5 k (x/10) m (by omega) hm,KQ,List.append_assoc]
theorem Tq(k:Nat):KQ k 0=List.replicate k 48:=by
 induction k with
 | zero=>rfl
 | succ k ih=>
   rw[KQ,Nat.zero_div,ih,List.replicate_succ'];rfl
theorem Qf:∀(k x:Nat),1<=k->x<10^k->KQ k x=List.replicate (k-(decDigits x).length) 48++decDigits x
 | 0,x,hk,hx=>by omega
 | k+1,x,hk,hx=>by
   rw[KQ];by_cases E:x<10
   . rw[show x/10=0 by omega,Tq,decDigits_one E]
     simp[Nat.mod_eq_of_lt E]
   . have u : 1 <= k := by
       rcases Nat.eq_zero_or_pos k with h|h
       . subst h;simp at hx;omega
       . exact h
     rw[Nat.pow_succ]at hx;rw[Qf k (x/10) u (by omega)]
     conv=>rhs;rw[decDigits,dif_neg E]
     rw[List.length_append,List.length_cons,List.length_nil,List.append_assoc,show k+1-((decDigits (x/10)).length+(0+1))=k-(decDigits (x/10)).length by omega]
def aiM(x:Nat):List UInt8:=List.replicate (9-(decDigits x).length) 48++decDigits x
theorem Wd{x m:Nat}(u:x<1000000000)(E:m≠0):decDigits (x+1000000000*m)=decDigits m++aiM x:=by
 have:=F5 9 x m u E;rw[Qf 9 x (by omega) u]at this;exact this
theorem T5{b:Nat}(u:2<=b){n k:Nat}(F:k<(bI b n).length):ofL b ((bI b n).drop k)≠0:=by
 intro h;have I:n≠0:=fun e=>by subst e;rw[dW]at F;simp at F
 have h1:=O2 u I;have E:ofL b (bI b n)=ofL b ((bI b n).take k)+b^k*ofL b ((bI b n).drop k):=by
   have:=nP b ((bI b n).take k) ((bI b n).drop k);rw[List.take_append_drop,List.length_take,Nat.min_eq_left (by omega)]at this;exact this
 rw[dU u,h,Nat.mul_zero,Nat.add_zero]at E;have J:=mE (b:=b) (by omega) ((dP u n).take k);rw[List.length_take,Nat.min_eq_left (by omega),<-E]at J;have:b^k<=b^((bI b n).length-1):=Nat.pow_le_pow_right (by omega) (by omega);omega
def dl(l:List UInt8):List Nat:=(l.map fun c=>c.toNat-48).reverse
def txt(l:List Nat):List UInt8:=(l.map fun x=>UInt8.ofNat (48+x)).reverse
theorem Tb{n:Nat}(u:n≠0):txt (bI 10 n)=decDigits n:=by
 induction n using Nat.strongRecOn with
 | _ n ih=>
   rw[nN (by omega) u,decDigits];simp only[txt,List.map_cons,List.reverse_cons];split
   . rename_i h
     rw[show n/10=0 by omega,dW,Nat.mod_eq_of_lt h];rfl
   . rename_i h
     rw[<-ih (n/10) (by omega) (by omega)];rfl
end Go.Nu
end
section
namespace Go.Proofs.YtohmomanmikphaaGreatDoor.Nu
open Go.Proofs.Tryz(prog)
open Go.Aw Go.Aw.D Go.Proofs Ty Go.Nu
abbrev bas:Nat:=1000000000
def gS(n:Nat):List AV:=[int n]
theorem KL(n:Nat):(gS n).length=1:=(rfl)
theorem aeK(n:Nat):(gS n).getD 0 .any=int n:=(rfl)
attribute [go_sem] KL aeK
theorem cI{H:aG}{k:IntKind}{a b:Int}(h:a=b):Conv H (.v (.int k a)) (.v (.int k b)):=h▸.refl _
theorem cB{H:aG}{a b:Bool}(h:a=b):Conv H (.v (.bool a)) (.v (.bool b)):=h▸.refl _
theorem cS{H:aG}{a b:ByteArray}(h:a=b):Conv H (.v (.string a)) (.v (.string b)):=h▸.refl _
theorem ltB{k n:Nat}(h:decide ((k:Int)<(n:Int))=true):k<n:=by simpa using h
theorem geB{k n:Nat}(u:k<=n)(h:decide ((k:Int)<(n:Int))=false):k=n:=by
 have:¬k<n:=by simpa using h
 omega
theorem auM(s:ByteArray):s.toList=bl s:=ByteArray.toList_eq s
theorem allN(l:List Nat):cP 1 (l.map gS):=zQ KL l
theorem aiZ(s:ByteArray)(k:Nat):s.data.getD k 0=(bl s).getD k 0:=by simp[bl,Array.getD_eq_getD_getElem?,List.getD]
theorem afD(a:Array UInt8):bl ⟨a⟩=a.toList:=rfl
attribute [go_sem] auM aiZ afD
theorem acZ{α:Type}{q:α->Bool}{l:List α}{k:Nat}{c:α}(h:l[k]?=some c)(u:q c=false):l.all q=false:=by
 cases E:l.all q with
 | false=>rfl
 | true=>
   have:=Xao.1 E c (Xae h);rw[u]at this;cases this
theorem Z7{α:Type}{q:α->Bool}{l:List α}(h:∀c∈l,q c=true):l.all q=true:=Xao.2 h
theorem kK{α:Type}{p:α->Prop}{l:List α}{k:Nat}{x:α}(F:l[k]?=some x)(E:p x)(h:∀x∈l.take k,p x):∀x∈l.take (k+1),p x:=by
 rw[bQ F];intro y u;rcases Xba.1 u with u|u
 . exact h y u
 . rw[Xat.1 u];exact E
theorem ahO{c:UInt8}{n:Nat}(u:n<256):(((c.toNat:Int) == (n:Int))=true)↔c=UInt8.ofNat n:=by
 rw[beq_iff_eq];constructor
 . intro h
   have:c.toNat=n:=by omega
   rw[<-this,UInt8.ofNat_toNat]
 . intro h
   rw[h,UInt8.toNat_ofNat'];omega
theorem OH(l:List UInt8):(l == []||(((l.getD 0 0).toNat:Int) == 48&& !(l == [48])))= !(l != []&&(l.length == 1||l.getD 0 0 != 48)):=by
 cases l with
 | nil=>rfl
 | cons c r=>
   have u:(((c.toNat:Int) == 48)=true)↔c=48:=ahO (n:=48) (by omega);by_cases h:c=48
   . subst h
     cases r <;> rfl
   . have h1 : ((c.toNat : Int) == 48) = false := by
       rw[<-Bool.not_eq_true,u];exact h
     simp[h1,h]
theorem Y7(c:UInt8):(decide ((c.toNat:Int)<48)||decide ((c.toNat:Int)>57))= !isD c:=by
 unfold isD;rw[Xau];simp only[Xbl,decide_eq_true_eq,Xbm,Bool.and_eq_false_iff,decide_eq_false_iff_not];omega
theorem u8w{n:Nat}(h:48<=n)(u:n<256):IntKind.u8.wrap ((n:Int)-48)=((n-48:Nat):Int):=by
 have e:IntKind.u8.wrap ((n:Int)-48)=((n:Int)-48)%256:=rfl;rw[e];omega
theorem PA{l:List UInt8}{k:Nat}{c:UInt8}(h:l[k]?=some c):l.getD k 0=c:=by simp[List.getD,h]
theorem A8(s:ByteArray)(h:s.size<=4611686018427387904):PC prog 110 [str s] (boo (fO s)):=by
 have Z:=fE s;refine pcd Tryz.func110 ?_;unfold Tryz.f110;simp only[gdS];simp only[go_sem];refine⟨fun h0=>⟨by omega,?_⟩,?_⟩
 . have:bl s≠[]:=by simpa using h0
   have:=Xbu.2 this;omega
 rw[OH];refine aB (fun M=>?_) (fun M=>?_)
 . simp only[go_sem]
   refine cB ?_;unfold fO eU;rw[Xbm]at M;rw[M];rfl
 rw[Xbv]at M;simp only[go_sem];refine⟨fun ρ _=>∃k:Nat,k<=(bl s).length/\ρ 0=str s/\ρ 16=int s.size/\ρ 17=int k/\∀c∈(bl s).take k,isD c=true,fun ρ _=>(bl s).length-aV (ρ 17),⟨0,Xac _,rfl,rfl,rfl,by simp⟩,?_⟩;rintro ρ H ⟨k,hk,h0,F,J,O⟩;simp only[go_sem,h0,F,J];refine aB (fun E=>?_) (fun u=>?_)
 . have E:k<(bl s).length:=by have:=ltB E;omega
   obtain⟨c,T⟩:=aN E;have hi:=PA T;simp only[go_sem,h0,F,J,hi,Y7];refine⟨⟨by omega,by omega⟩,fun _=>⟨by omega,by omega⟩,aB (fun I=>?_) (fun I=>?_)⟩
   . simp only[go_sem]
     refine cB ?_;unfold fO eU;rw[acZ T (by simpa using I),Bool.and_false]
   . simp only[go_sem,h0,F,J,aP (show k<=4611686018427387904 by omega)]
     exact⟨⟨k+1,E,rfl,kK T (by simpa using I) O⟩,by simp only[aF];omega⟩
 . have u:k=(bl s).length:=by rw[<-Z]at u;exact geB hk u
   subst u;rw[Xag]at O;simp only[go_sem];refine cB ?_;unfold fO eU;rw[M,Z7 O];rfl
theorem sK:∀(l:List Nat) (x:Nat),kP (l++[x])=if x=0 then kP l else l++[x]
 | [],x=>by simp only[Xax,kP]
 | y::l,x=>by
   rw[List.cons_append,kP,sK l x];by_cases h:x=0
   . rw[if_pos h,if_pos h,kP]
   . rw[if_neg h,if_neg h]
     cases l <;> rfl
theorem acE(l:List Nat)(h:l.length<=4611686018427387904):PC prog 235 [.sl (l.map gS)] (.sl ((kP l).map gS)):=by
 refine pcd Tryz.func235 ?_;unfold Tryz.f235;simp only[gdS];simp only[go_sem];refine⟨fun ρ _=>∃k:Nat,k<=l.length/\ρ 0=.sl ((l.take k).map gS)/\kP (l.take k)=kP l,fun ρ _=>match ρ 0 with| .sl es=>es.length|_=>0,⟨l.length,Xaf _,by rw[Xag];rfl,by rw[Xag]⟩,?_⟩;rintro ρ H ⟨k,hk,h0,F⟩;have u:(l.take k).length=k:=by rw[Xal];omega
 cases k with
 | zero=>
   simp only[go_sem,h0,u,show decide (((0:Nat):Int)>0)=false from rfl];refine aB (fun I=>by cases I) (fun _=>?_);simp only[go_sem,h0];have M:kP l=[]:=by rw[<-F];rfl
   rw[M];exact .refl _
 | succ k=>
 have T:IntKind.i64.wrap (((k+1:Nat):Int)-1)=(k:Int):=by rw[bA (by omega)];omega
 obtain⟨x,Z⟩:=aN (show k<l.length by omega);have O:(l.take (k+1))[k]?=some x:=by rw[List.getElem?_take,if_pos (by omega)];exact Z
 have J:l.take (k+1)=l.take k++[x]:=bQ Z;simp only[go_sem,h0,u,T,aE O,show decide (((k+1:Nat):Int)>0)=true from decide_eq_true (by omega)];refine⟨⟨by omega,by omega⟩,aB (fun I=>?_) (fun I=>?_)⟩
 . have E:x=0:=by simpa using I
   simp only[go_sem,h0,u,T];refine⟨by omega,⟨⟨k,by omega,?_,?_⟩,?_⟩⟩
   . rw[<-List.map_take,List.take_take,Nat.min_eq_left (by omega)]
   . rw[J,sK,if_pos E]at F;exact F
   . rw[<-List.map_take,Xaa,Xal];omega
 . have E:x≠0:=by simpa using I
   simp only[go_sem,h0];rw[J,sK,if_neg E]at F;rw[J,F];exact .refl _
abbrev nl(n:Nat):AV:=.sl ((bI bas n).map gS)
theorem IA:nl 0=.sl []:=by
 simp only[nl,dW];rfl
theorem F0{l:List Nat}(E:Lim bas l)(h:l.length<=4611686018427387904){n:Nat}(u:ofL bas l=n):PC prog 235 [.sl (l.map gS)] (nl n):=by
 have:=acE l h
 rwa [ID (by decide) E u]at this
def cH(l:List Nat):Row:=⟨3,1,l.map gS⟩
theorem sV{H:aG}{k:Nat}{l:List Nat}{x:Nat}:aI H k (some ⟨3,1,l.map gS++[[int (x:Int)]]⟩) k=some (cH (l++[x])):=by
 rw[aA];simp only[cH,Xam,Xar,Xbc];rfl
theorem UW(s:ByteArray)(hr:(bl s).all isD=true)(h:s.size<=4096):PC prog 234 [str s] (nl (eZ s)):=by
 have hs:=fE s;refine pcb (fun t=>t == 3) Tryz.func234 ?_;unfold Tryz.f234;simp only[gdS];simp only[go_sem];refine aM fun j hj=>?_
 simp only[go_sem];refine⟨fun ρ H=>∃(m j:Nat) (o:List Nat),m<=(bl s).length/\ρ 0=str (s.extract 0 m)/\ρ 3=.os j/\H j=some (cH o)/\Lim bas o/\o.length<=(bl s).length-m/\ofL bas o+bas^o.length*gI ((bl s).take m)=eZ s,fun ρ _=>match ρ 0 with| .v (.string t)=>t.size|_=>0,⟨(bl s).length,j,[],Xaf _,?_,by simp only[go_sem],aA _ _ _,by simp[Lim],by simp,?_⟩,?_⟩
 . rw[show s.extract 0 (bl s).length=s from kV (by rw[iI,Xag,Xbi])];rfl
 . rw[Xag];simp[ofL,eZ]
 clear hj j;rintro ρ H ⟨m,j,o,hm,h0,E,M,ho,ad,hv⟩;have u:(s.extract 0 m).size=m:=by rw[<-fE,iI,Xbi,Xal];omega
 simp only[go_sem,h0,E,u];refine aB (fun hb=>?_) (fun hb=>?_)
 . have T:0<m:=by simpa using hb
   have e9:jW 0 (IntKind.i64.wrap ((m:Int)-9))=((m-9:Nat):Int):=by
     rw[bA (by omega)];unfold jW;split <;> omega
   simp only[go_sem,h0,E,u];refine⟨fun ρ H=>∃i:Nat,m-9<=i/\i<=m/\ρ 0=str (s.extract 0 m)/\ρ 3=.os j/\ρ 4=int (m-9:Nat)/\ρ 5=int (gI (((bl s).take i).drop (m-9)):Nat)/\ρ 6=int i/\H j=some (cH o),fun ρ _=>m-aV (ρ 6),
     ⟨m-9,Xaf _,by omega,by simp only[go_sem,h0],by simp only[go_sem,E],?_,?_,?_,M⟩,?_⟩
   . simp only[go_sem,e9]
   . simp only[go_sem]
     rw[List.drop_eq_nil_of_le (by rw[Xal];omega)];rfl
   . simp only[go_sem,e9]
   clear h0 E M;rintro ρ H ⟨i,af,aa,h0,E,Z,h5,h6,M⟩;simp only[go_sem,h0,E,Z,h5,h6,u];refine aB (fun I=>?_) (fun F=>?_)
   . have I:i<m:=ltB I
     obtain⟨c,J⟩:=aN (show i<(bl s).length by omega);have hx:(bl (s.extract 0 m)).getD i 0=c:=by rw[iI,Xbi];exact PA (by rw[List.getElem?_take,if_pos I];exact J)
     have hd:=oV.1 (Xao.1 hr c (Xae J));have ac:=Df (l:=((bl s).take i).drop (m-9)) (Xao.2 fun c J=>Xao.1 hr c (List.mem_of_mem_take (List.mem_of_mem_drop J)));have ab:10^(((bl s).take i).drop (m-9)).length<=10^9:=Xav (by omega) (by rw[List.length_drop,Xal];omega);have e1:((bl s).take (i+1)).drop (m-9)=((bl s).take i).drop (m-9)++[c]:=by
       rw[bQ J,List.drop_append_of_le_length (by rw[Xal];omega)]
     have e2:IntKind.i64.wrap (IntKind.i64.wrap (10*((gI (((bl s).take i).drop (m-9)):Nat):Int))+IntKind.i64.wrap (IntKind.u8.wrap ((c.toNat:Int)-48)))=((gI (((bl s).take (i+1)).drop (m-9)):Nat):Int):=by
       rw[e1,tB,u8w hd.1 (by omega)];generalize gI (((bl s).take i).drop (m-9))=V at *;rw[show IntKind.i64.wrap (10*(V:Int))=10*(V:Int)from bA (by omega),show IntKind.i64.wrap (((c.toNat-48:Nat):Int))=((c.toNat-48:Nat):Int)from bA (by omega),bA (by omega)];omega
     simp only[go_sem,h0,E,Z,h5,h6,u,hx,e2,aP (show i<=4611686018427387904 by omega)];exact⟨⟨by omega,by omega⟩,⟨i+1,by omega,by omega,rfl,rfl,M⟩,by simp only[aF];omega⟩
   . have F:i=m:=geB aa F
     subst F;simp only[go_sem,h0,E,Z,h5,h6,u];have hL:(((bl s).take i).drop (i-9)).length=i-(i-9):=by rw[List.length_drop,Xal];omega
     have hA:(((bl s).take i).drop (i-9)).all isD=true:=Xao.2 fun c J=>Xao.1 hr c (List.mem_of_mem_take (List.mem_of_mem_drop J))
     have ac:=Df hA;have ab:10^(((bl s).take i).drop (i-9)).length<=10^9:=Xav (by omega) (by omega);have O:gI ((bl s).take i)=gI ((bl s).take (i-9))*10^(((bl s).take i).drop (i-9)).length+gI (((bl s).take i).drop (i-9)):=by
       rw[<-wJ]
       congr 1
       conv=>lhs;rw[<-Xcb (i-9) ((bl s).take i)]
       rw[List.take_take,Nat.min_eq_left (by omega)]
     generalize gI (((bl s).take i).drop (i-9))=x at *;refine bE M ⟨rfl,rfl⟩ ⟨rfl,trivial⟩ (by simp only[cH,Xaa,Xad,List.length_nil];omega) (fun j' ae=>?_);simp only[go_sem,h0,E,Z,h5,h6,u];refine⟨⟨by omega,by omega⟩,⟨⟨i-9,j',o++[x],by omega,?_,rfl,sV,ho.snoc (show x<1000000000 by omega),?_,?_⟩,?_⟩⟩
     . congr 2
       refine kV ?_;rw[iI,iI,iI];simp only[Xbi,List.take_take];rw[Nat.min_eq_left (by omega)]
     . rw[Xab,Xad,List.length_nil];omega
     . rw[<-hv,O,pP,Xab,Xad,List.length_nil,Nat.pow_succ]
       by_cases h9:9<=i
       . rw[hL,show i-(i-9)=9 by omega]
         grind
       . rw[show i-9=0 by omega]
         simp only[List.take_zero,gI,List.foldl_nil]
         grind
     . rw[<-fE,iI,iI]
       simp only[Xbi,Xal];omega
 . have T:m=0:=by simpa using hb
   subst T;simp only[go_sem,h0,E];refine PC.useF [j] (.cons _ _ _ _ (.row _ _ _ (by simp[M];rfl) (ConvE.refl _)) .nil) (F0 ho (by omega) (n:=eZ s) (by rw[<-hv];simp[gI])) ?_;simp only[go_sem];exact .refl _
theorem neN{a b:Nat}(h:((a:Int) != (b:Int))=true):a≠b:=by
 rw[bne_iff_ne]at h;omega
theorem eqN{a b:Nat}(h:((a:Int) != (b:Int))=false):a=b:=by
 rw[bne_eq_false_iff_eq]at h;omega
theorem Yn{a b:Int}(h:a<=b):iK a b<=0:=by
 unfold iK;split
 . omega
 . rw[if_neg (by omega)];omega
theorem QP(n:Int):PC prog 302 [int n] (boo false):=by
 refine pcd Tryz.func302 ?_;unfold Tryz.f302;simp only[gdS];simp only[go_sem];exact cB (by simp)
theorem BT(a b:Int):PC prog 265 [int a,int b] (int (iK a b)):=by
 refine pcd Tryz.func265 ?_;unfold Tryz.f265;simp only[gdS];simp only[go_sem];refine PC.use (QP a) ?_;simp only[go_sem];refine PC.use (QP b) ?_;simp only[go_sem];refine aB (fun h=>by cases h) (fun _=>?_);simp only[go_sem];refine aB (fun h=>by cases h) (fun _=>?_);simp only[go_sem];refine aB (fun h=>?_) (fun h=>?_)
 . simp only[go_sem]
   exact cI (by rw[iP (by simpa using h)])
 . simp only[go_sem]
   refine aB (fun u=>?_) (fun u=>?_)
   . simp only[go_sem]
     exact cI (by rw[iQ (by simpa using u)])
   . simp only[go_sem]
     exact cI (by rw[qT (by simp at h u;omega)])
theorem OF(l:List Nat)(i:Nat)(F:i<=4611686018427387904):PC prog 226 [.sl (l.map gS),int i] (int (l.getD i 0:Nat)):=by
 refine pcd Tryz.func226 ?_;unfold Tryz.f226;simp only[gdS];simp only[go_sem];refine aB (fun h=>?_) (fun h=>?_)
 . have h:=ltB h
   obtain⟨x,u⟩:=aN h;have E:=inB h;simp only[go_sem,aE u,E];exact cI (by simp[List.getD,u])
 . simp only[go_sem]
   have h:¬i<l.length:=by simpa using h
   exact cI (by simp[List.getD,List.getElem?_eq_none (by omega:l.length<=i)])
theorem Zx{l r:List Nat}(J:Lim bas l)(F:Lim bas r)(u:l.length=r.length){k x y:Nat}(M:l[k]?=some x)(I:r[k]?=some y)(O:l.drop (k+1)=r.drop (k+1))(E:x≠y):iK (x:Int) y=iK (ofL bas l) (ofL bas r):=by
 rcases Nat.lt_or_gt_of_ne E with h|h
 . have:=Hh (b:=bas) (by decide) J F u M I h O
   rw[iP (by omega),iP (by omega)]
 . have:=Hh (b:=bas) (by decide) F J u.symm I M h O.symm
   rw[iQ (by omega),iQ (by omega)]
theorem Bx(m n:Nat)(hm:(bI bas m).length<=1048576)(hn:(bI bas n).length<=1048576):PC prog 227 [nl m,nl n] (int (iK m n)):=by
 have om:=dU (b:=bas) (by decide) m;have on:=dU (b:=bas) (by decide) n;have lm:=dP (b:=bas) (by decide) m;have ln:=dP (b:=bas) (by decide) n;have Z:(bI bas m).length<(bI bas n).length->m<n:=GN (by decide);have aa:(bI bas n).length<(bI bas m).length->n<m:=GN (by decide);simp only[nl];generalize bI bas m=a at *;generalize bI bas n=b at *;refine pcd Tryz.func227 ?_;unfold Tryz.f227;simp only[gdS];simp only[go_sem];refine aB (fun h=>?_) (fun h=>?_)
 . simp only[go_sem]
   refine PC.use (BT _ _) ?_;simp only[go_sem];refine cI ?_;have h:a.length≠b.length:=neN h;rcases Nat.lt_or_gt_of_ne h with h|h
   . have:=Z h
     rw[iP (by omega),iP (by omega)]
   . have:=aa h
     rw[iQ (by omega),iQ (by omega)]
 have I:a.length=b.length:=eqN h;simp only[go_sem];refine⟨fun ρ _=>∃k:Nat,k<=a.length/\ρ 0=.sl (a.map gS)/\ρ 1=.sl (b.map gS)/\ρ 5=int ((k:Int)-1)/\a.drop k=b.drop k,fun ρ _=>match ρ 5 with| .v (.int _ z)=>(z+1).toNat|_=>0,⟨a.length,Xaf _,by simp only[go_sem],by simp only[go_sem],by simp only[go_sem,mO (show a.length<=4611686018427387904 by omega)],by rw[List.drop_eq_nil_of_le (Xaf _),List.drop_eq_nil_of_le (by omega)]⟩,?_⟩;rintro ρ H ⟨k,hk,h0,h1,E,hd⟩;simp only[go_sem,h0,h1,E];refine aB (fun hb=>?_) (fun hb=>?_)
 . have F:0<k:=by simp at hb;omega
   obtain⟨k,rfl⟩:∃j,k=j+1:=⟨k-1,by omega⟩;rw[show((k+1:Nat):Int)-1=(k:Int)by omega]at E |-;obtain⟨x,M⟩:=aN (show k<a.length by omega);obtain⟨y,J⟩:=aN (show k<b.length by omega);have b1:=inB (show k<a.length by omega);have b2:=inB (show k<b.length by omega);simp only[go_sem,h0,h1,E];refine dA (by rfl) (by kernel_rfl) ?_;simp only[go_sem,h0,h1,E,aE M,aE J,b1,b2];refine aB (fun u=>?_) (fun u=>?_)
   . simp only[go_sem,h0,h1,E]
     refine dA (by rfl) (by kernel_rfl) ?_;simp only[go_sem,h0,h1,E,aE M,aE J,b1,b2];refine⟨_,(BT x y).q rfl,?_⟩;simp only[go_sem];exact cI (by rw[Zx lm ln I M J hd (neN u),om,on])
   . have O:x=y:=eqN u
     simp only[go_sem,h0,h1,E,mO (show k<=4611686018427387904 by omega)];refine⟨⟨k,by omega,rfl,?_⟩,by omega⟩;have e1:a.drop k=x::a.drop (k+1):=by rw[List.drop_eq_getElem_cons (by omega)];congr 1;exact(List.getElem?_eq_some_iff.1 M).2
     have e2:b.drop k=y::b.drop (k+1):=by rw[List.drop_eq_getElem_cons (by omega)];congr 1;exact(List.getElem?_eq_some_iff.1 J).2
     rw[e1,e2,hd,O]
 . have F:k=0:=by simp at hb;omega
   subst F;simp only[go_sem];refine cI ?_;have T:a=b:=by simpa using hd
   rw[qT];rw[<-om,<-on,T]
def tw(a b:ByteArray)(n:Nat):List (List AV):=if jD a b=0 then(bI bas n).map gS else[]
theorem EM{a b:ByteArray}{n:Nat}(h:jD a b=0):tw a b n=(bI bas n).map gS:=if_pos h
theorem Qw{a b:ByteArray}{n:Nat}(h:jD a b≠0):tw a b n=[]:=if_neg h
theorem K9(a b:ByteArray)(M:a.size<=1048576)(J:b.size<=1048576):PC prog 179 [str a,str b] (.tup [.sl (tw a b (eZ a)),.sl (tw a b (eZ b)),int (jD a b)]):=by
 refine pcd Tryz.func179 ?_;unfold Tryz.f179;simp only[gdS];simp only[go_sem];refine PC.use (A8 a (by omega)) ?_;simp only[go_sem];refine⟨_,fun _=>(A8 b (by omega)).q rfl,?_⟩;simp only[go_sem];refine aB (fun h=>?_) (fun h=>?_)
 . simp only[go_sem]
   have e:jD a b=3:=by unfold jD;rw[if_pos h]
   rw[Qw (by rw[e];decide),Qw (by rw[e];decide),e];exact .refl _
 have u:fO a=true/\fO b=true:=by simpa using h
 simp only[go_sem];refine aB (fun I=>?_) (fun I=>?_)
 . simp only[go_sem]
   have F:(decide (a.size>4096)||decide (b.size>4096))=true:=by simp at I |-;omega
   have e:jD a b=4:=by unfold jD;rw[if_neg (by rw[h];simp),if_pos F]
   rw[Qw (by rw[e];decide),Qw (by rw[e];decide),e];exact .refl _
 have E:a.size<=4096/\b.size<=4096:=by simp at I;omega
 have e:jD a b=0:=Ii u.1 u.2 E.1 E.2;have d:∀{s:ByteArray},fO s=true->(bl s).all isD=true:=fun h=>by
   unfold fO eU at h;simp only[Xap]at h;exact h.2
 simp only[go_sem];refine PC.use (UW a (d u.1) E.1) ?_;simp only[go_sem];refine PC.use (UW b (d u.2) E.2) ?_;simp only[go_sem];rw[EM e,EM e,e];exact .refl _
theorem Dj{H:aG}{j:Nat}:aI H j (some ⟨3,1,[]⟩) j=some (cH []):=aA _ _ _
theorem QM(m k:Nat)(hm:(bI bas m).length<=1048576)(hk:k<bas):PC prog 237 [nl m,int k] (nl (m*k)):=by
 have hk:k<1000000000:=hk;have om:=dU (b:=bas) (by decide) m;have lm:=dP (b:=bas) (by decide) m;simp only[nl];generalize bI bas m=l at *;have ac:IntKind.i64.wrap ((l.length:Int)+1)=((l.length+1:Nat):Int):=aP (by omega);refine pcb (fun t=>t == 5) Tryz.func237 ?_;unfold Tryz.f237;simp only[gdS];simp only[go_sem];refine⟨by omega,aM fun j hj=>?_⟩;simp only[go_sem];refine⟨fun ρ H=>∃(i j c:Nat) (o:List Nat),i<=l.length/\ρ 1=int k/\ρ 13=.sl (l.map gS)/\ρ 14=int l.length/\ρ 5=.os j/\ρ 6=int c/\ρ 15=int i/\H j=some (cH o)/\Lim bas o/\o.length=i/\c<1000000000/\ofL bas o+bas^i*c=ofL bas (l.take i)*k,fun ρ _=>l.length-aV (ρ 15),
   ⟨0,j,0,[],Xac _,by simp only[go_sem],by simp only[go_sem],by simp only[go_sem,Xaa],by simp only[go_sem],by simp only[go_sem];rfl,by simp only[go_sem];rfl,Dj,by simp[Lim],rfl,by omega,by simp[ofL]⟩,?_⟩
 clear hj j;rintro ρ H ⟨i,j,c,o,hi,h1,M,E,O,T,F,Rj,ho,J,hc,hv⟩;simp only[go_sem,h1,M,E,O,T,F];refine aB (fun u=>?_) (fun I=>?_)
 . have u:=ltB u
   obtain⟨n,hn⟩:=aN u;have b1:=inB u;have ad:n<1000000000:=lm n (Xae hn);have ab:n*k<=999999999*999999999:=Nat.mul_le_mul (by omega) (by omega);have e1:IntKind.i64.wrap (IntKind.i64.wrap ((n:Int)*(k:Int))+(c:Int))=((n*k+c:Nat):Int):=by
     rw[show(n:Int)*(k:Int)=((n*k:Nat):Int)from(Int.natCast_mul n k).symm];generalize n*k=p at *;rw[show IntKind.i64.wrap (p:Int)=(p:Int)from bA (by omega),bA (by omega)];omega
   have aa:=OJ (b:=bas) (by decide) hn J hv;simp only[go_sem,h1,M,E,O,T,F,aE hn,b1,e1];have hq:(n*k+c)/1000000000<1000000000:=by omega
   have e2:IntKind.i64.wrap ((((n*k+c:Nat):Int)).tdiv 1000000000)=(((n*k+c)/1000000000:Nat):Int):=by
     generalize n*k+c=p at *;rw[Xcc (by omega),bA (by omega)];omega
   have e3:(((n*k+c:Nat):Int)).tmod 1000000000=(((n*k+c)%1000000000:Nat):Int):=by
     rw[Xce (by omega)];omega
   simp only[e2,e3];refine⟨by decide,?_⟩;refine bE Rj ⟨rfl,rfl⟩ ⟨rfl,trivial⟩ (by simp only[cH,Xaa,Xad,List.length_nil];omega) (fun j' Z=>?_);simp only[go_sem,h1,M,E,O,T,F,e2,aP (show i<=4611686018427387904 by omega)];refine⟨by decide,⟨i+1,j',_,o++[(n*k+c)%bas],u,rfl,rfl,rfl,sV,ho.snoc (Nat.mod_lt _ (by decide)),by simp[J],hq,aa⟩,by simp only[aF];omega⟩
 . have I:=geB hi I
   subst I;simp only[go_sem,O,T];refine bE Rj ⟨rfl,rfl⟩ ⟨rfl,trivial⟩ (by simp only[cH,Xaa,Xad,List.length_nil];omega) (fun j' Z=>?_);simp only[go_sem];have hT:Lim bas (o++[c]):=ho.snoc hc;have hV:ofL bas (o++[c])=m*k:=by rw[pP,J,hv,Xag,om]
   refine PC.useF [j'] (.cons _ _ _ _ (.row _ _ _ (by simp only[Xat,if_true];exact sV) (ConvE.refl _)) .nil) (F0 hT (by simp;omega) hV) ?_;simp only[go_sem];exact .refl _
theorem Di(m n:Nat)(hm:(bI bas m).length<=1048576)(ad:n<=m):PC prog 228 [nl m,nl n] (nl (m-n)):=by
 have om:=dU (b:=bas) (by decide) m;have on:=dU (b:=bas) (by decide) n;have lm:=dP (b:=bas) (by decide) m;have ln:=dP (b:=bas) (by decide) n;have ae:=eC (b:=bas) (by decide) ad;simp only[nl];generalize bI bas m=x at *;generalize bI bas n=y at *;refine pcb (fun t=>t == 5) Tryz.func228 ?_;unfold Tryz.f228;simp only[gdS];simp only[go_sem];refine⟨by omega,aM fun j hj=>?_⟩;simp only[go_sem];refine⟨fun ρ H=>∃(i j c:Nat) (o:List Nat),i<=x.length/\ρ 0=.sl (x.map gS)/\ρ 1=.sl (y.map gS)/\ρ 13=int x.length/\ρ 5=.os j/\ρ 6=int c/\ρ 14=int i/\H j=some (cH o)/\Lim bas o/\o.length=i/\c<=1/\ofL bas o+ofL bas (y.take i)=ofL bas (x.take i)+bas^i*c,fun ρ _=>x.length-aV (ρ 14),
   ⟨0,j,0,[],Xac _,by simp only[go_sem],by simp only[go_sem],by simp only[go_sem,Xaa],by simp only[go_sem],by simp only[go_sem];rfl,by simp only[go_sem];rfl,Dj,by simp[Lim],rfl,by omega,by simp[ofL]⟩,?_⟩
 clear hj j;rintro ρ H ⟨i,j,c,o,hi,h0,h1,E,I,M,u,Rj,ho,Z,hc,hv⟩;simp only[go_sem,h0,h1,E,I,M,u];refine aB (fun J=>?_) (fun T=>?_)
 . have J:=ltB J
   obtain⟨a,ha⟩:=aN J;have ag:x.getD i 0=a:=by simp[List.getD,ha]
   have b1:=inB J;have ac:a<1000000000:=lm a (Xae ha);have aa:y.getD i 0<1000000000:=ln.getD (by decide) i;simp only[go_sem,h0,h1,E,I,M,u];refine dA (by rfl) (by kernel_rfl) ?_;simp only[go_sem,h0,h1,E,I,M,u,aE ha,b1];refine⟨_,(OF y i (by omega)).q rfl,?_⟩;have ai:=Kc (b:=1000000000) ac aa hc;have ab:=IR (b:=1000000000) ac aa hc;have af:=Nc (b:=bas) (x:=x) (y:=y) (c':=if a<y.getD i 0+c then 1 else 0) (d:=if a<y.getD i 0+c then a+1000000000-(y.getD i 0+c)else a-(y.getD i 0+c)) Z hv (by rw[ag];exact ab.1);generalize y.getD i 0=yi at *;have e1:IntKind.i64.wrap (IntKind.i64.wrap ((a:Int)-(yi:Int))-(c:Int))=(a:Int)-yi-c:=by
     rw[show IntKind.i64.wrap ((a:Int)-(yi:Int))=(a:Int)-yi from bA (by omega),bA (by omega)]
   simp only[go_sem,h0,h1,E,I,M,u,e1];refine bM (fun F H'=>F 0=.sl (x.map gS)/\F 1=.sl (y.map gS)/\F 13=int x.length/\F 5=.os j/\F 14=int i/\H' j=some (cH o)/\F 8=int (if a<yi+c then a+1000000000-(yi+c)else a-(yi+c):Nat)/\F 6=int (if a<yi+c then 1 else 0:Nat)) ?_ fun K hK=>aB (fun O=>?_) (fun O=>?_)
   rotate_left
   . have O:a<yi+c:=by simp at O;omega
     have e2:IntKind.i64.wrap ((a:Int)-yi-c+1000000000)=((a+1000000000-(yi+c):Nat):Int):=by rw[bA (by omega)];omega
     simp only[go_sem,h0,h1,E,I,M,u,e2];exact hK _ _ ⟨by simp only[go_sem,h0],by simp only[go_sem,h1],by simp only[go_sem,E],by simp only[go_sem,I],by simp only[go_sem,u],Rj,by simp only[go_sem,if_pos O],by simp only[go_sem,if_pos O];rfl⟩
   . have O:¬a<yi+c:=by simp at O;omega
     simp only[go_sem,h0,h1,E,I,M,u];refine hK _ _ ⟨by simp only[go_sem,h0],by simp only[go_sem,h1],by simp only[go_sem,E],by simp only[go_sem,I],by simp only[go_sem,u],Rj,?_,by simp only[go_sem,if_neg O];rfl⟩;simp only[go_sem,if_neg O]
     congr 2
     omega
   clear h0 h1 E I M u Rj;rintro ρ H ⟨h0,h1,E,I,u,Rj,h8,M⟩;simp only[go_sem,h0,h1,E,I,M,u,h8];refine bE Rj ⟨rfl,rfl⟩ ⟨rfl,trivial⟩ (by simp only[cH,Xaa,Xad,List.length_nil];omega) (fun j' ah=>?_);simp only[go_sem,h0,h1,E,I,M,u,aP (show i<=4611686018427387904 by omega)];exact⟨⟨i+1,j',_,_,J,rfl,rfl,rfl,sV,ho.snoc ab.2,by simp[Z],by split <;> omega,af⟩,by simp only[aF];omega⟩
 . have T:=geB hi T
   subst T;simp only[go_sem,I];obtain⟨_,hV⟩:=RY (b:=bas) (by decide) ho lm Z ae (by omega) hc hv;refine PC.useF [j] (.cons _ _ _ _ (.row _ _ _ (by simp only[Xat,if_true];exact Rj) (ConvE.refl _)) .nil) (F0 ho (by omega) (hV.trans (by rw[om,on]))) ?_;simp only[go_sem];exact .refl _
theorem half{d r q:Nat}(h1:d*q<=r)(u:r<d*(q+1))(E:0<d):q=r/d:=by
 symm
 exact(Nat.div_eq_iff E).2 ⟨by rw[Nat.mul_comm];exact h1,by rw[Nat.mul_add,Nat.mul_one]at u;rw[Nat.mul_comm q d];omega⟩
theorem Dm(r d:Nat)(hr:(bI bas r).length<=1048576)(hd:0<d)(ac:(bI bas d).length<=1048575)(h:r<d*bas):PC prog 236 [nl r,nl d] (int (r/d:Nat)):=by
 refine pcd Tryz.func236 ?_;unfold Tryz.f236;simp only[gdS];simp only[go_sem];refine⟨fun ρ _=>∃a b:Nat,a<=b/\b<1000000000/\ρ 0=nl r/\ρ 1=nl d/\ρ 5=int a/\ρ 6=int b/\d*a<=r/\r<d*(b+1),fun ρ _=>aV (ρ 6)-aV (ρ 5),⟨0,999999999,by omega,by omega,by simp only[go_sem],by simp only[go_sem],by simp only[go_sem];rfl,by simp only[go_sem];rfl,by simp,h⟩,?_⟩;rintro ρ H ⟨a,b,T,hb,h0,h1,F,I,O,J⟩;simp only[go_sem,h0,h1,F,I];refine aB (fun M=>?_) (fun E=>?_)
 . have M:=ltB M
   have e1:IntKind.i64.wrap ((IntKind.i64.wrap (IntKind.i64.wrap ((a:Int)+(b:Int))+1)).tdiv 2)=(((a+b+1)/2:Nat):Int):=by
     rw[show IntKind.i64.wrap ((a:Int)+(b:Int))=((a+b:Nat):Int)by rw[bA (by omega)];omega,aP (by omega),Xcc (by omega),bA (by omega)];omega
   simp only[go_sem,h0,h1,F,I,e1];refine⟨by decide,?_⟩;have hm:(a+b+1)/2<bas:=show _<1000000000 by omega
   have aa:a<(a+b+1)/2:=by omega
   have ab:(a+b+1)/2<=b:=by omega
   generalize (a+b+1)/2=m at *;refine PC.use (QM d m (by omega) hm) ?_;simp only[go_sem,h0,h1,F,I];have Z:(bI bas (d*m)).length<=1048576:=by
     have h1:=mE (b:=bas) (by decide) (dP (b:=bas) (by decide) d);rw[dU (by decide)]at h1;have h2:d*m<bas^((bI bas d).length+1):=by
       rw[Nat.pow_succ];exact Xbn (Nat.mul_lt_mul_of_pos_left hm hd) (Nat.mul_le_mul_right _ (Nat.le_of_lt h1))
     have:=iZ (b:=bas) (by decide) h2;omega
   refine PC.use (Bx (d*m) r Z hr) ?_;simp only[go_sem,h0,h1,F,I];refine aB (fun u=>?_) (fun u=>?_)
   . have u : d * m <= r := by
       rcases Xaw r (d*m)with h|h
       . rw[iQ (by omega)]at u;simp at u
       . exact h
     simp only[go_sem,h0,h1,F,I];exact⟨⟨m,b,by omega,hb,rfl,rfl,u,J⟩,by simp only[aF];omega⟩
   . have u : r < d * m := by
       rcases Xaw r (d*m)with h|h
       . exact h
       . exfalso
         exact of_decide_eq_false u (Yn (by omega))
     simp only[go_sem,h0,h1,F,I];refine⟨⟨a,m-1,by omega,by omega,rfl,?_,O,?_⟩,?_⟩
     . rw[mO (by omega)];congr 2;omega
     . rw[show m-1+1=m by omega];exact u
     . rw[mO (by omega)];simp only[aF];omega
 . have E:=geB T E
   subst E;simp only[go_sem,F];exact cI (by rw[half O J hd])
theorem Do{u:List Nat}{k v q:Nat}(h:u[k]?=some v):({ cH u with es:=(cH u).es.set k (mX ((cH u).es.getD k []) 0 [int (q:Int)]) }:Row)=cH (u.set k q):=by
 simp only[cH,aE h,List.map_set];rfl
theorem JH(m n:Nat)(hm:(bI bas m).length<=1048570)(hn:0<n)(ao:(bI bas n).length<=1048570):PC prog 180 [nl m,nl n] (.tup [nl (m/n),nl (m%n)]):=by
 have om:=dU (b:=bas) (by decide) m;have lm:=dP (b:=bas) (by decide) m;rw[show nl m=.sl ((bI bas m).map gS)from rfl];generalize bI bas m=l at *;refine pcb (fun t=>t == 6||t == 23) Tryz.func180 ?_;unfold Tryz.f180;simp only[gdS];simp only[go_sem];refine⟨by omega,aM fun j hj=>?_⟩;simp only[go_sem];refine⟨fun ρ H=>∃(k r:Nat) (u:List Nat),k<=l.length/\ρ 0=.sl (l.map gS)/\ρ 1=nl n/\ρ 6=.os j/\ρ 7=nl r/\ρ 8=int ((k:Int)-1)/\H j=some (cH u)/\Lim bas u/\u.length=l.length/\r<n/\ofL bas (l.drop k)=ofL bas (u.drop k)*n+r/\u.take k=List.replicate k 0,fun ρ _=>match ρ 8 with| .v (.int _ z)=>(z+1).toNat|_=>0,
   ⟨l.length,0,List.replicate l.length 0,Xaf _,by simp only[go_sem],by simp only[go_sem],by simp only[go_sem],?_,?_,?_,Lim.zeros (by decide) _,by simp,hn,by simp[ofL],by simp⟩,?_⟩
 . simp only[go_sem]
   exact IA.symm
 . simp only[go_sem,mO (show l.length<=4611686018427387904 by omega)]
 . rw[aA]
   simp only[cH,List.map_replicate];rfl
 clear hj;rintro ρ H ⟨k,r,u,hk,h0,h1,I,E,F,Rj,hq,ab,hr,hv,hz⟩;simp only[go_sem,h0,h1,I,E,F];refine aB (fun hb=>?_) (fun hb=>?_)
 . have aj:0<k:=by simp at hb;omega
   obtain⟨k,rfl⟩:∃j,k=j+1:=⟨k-1,by omega⟩;rw[show((k+1:Nat):Int)-1=(k:Int)by omega]at F |-;obtain⟨x,hx⟩:=aN (show k<l.length by omega);have al:x<bas:=lm x (Xae hx);have b1:=inB (show k<l.length by omega);have b2:=inB (show k<u.length by omega);have Z:u[k]?=some 0:=by
     have h1:(u.take (k+1))[k]?=(List.replicate (k+1) 0)[k]?:=by rw[hz]
     rw[List.getElem?_take,if_pos (by omega)]at h1;rw[h1];simp
   obtain⟨hV,hQ,hR⟩:=UZ (b:=bas) (a:=n) (by decide) hx al hr (show k<u.length by omega) hv;have av:(bI bas r).length<=1048570:=Xaj (eC (by decide) (Nat.le_of_lt hr)) ao;have ap:x+bas*r<n*bas:=by
     have:bas*(r+1)<=bas*n:=Nat.mul_le_mul_left _ hr;rw[Nat.mul_add]at this;rw[Nat.mul_comm n bas];omega
   have O:(u.set k ((x+bas*r)/n)).take k=List.replicate k 0:=by
     rw[List.take_set_of_le (by omega)];have h1:(u.take (k+1)).take k=(List.replicate (k+1) 0).take k:=by rw[hz]
     rw[List.take_take,Nat.min_eq_left (by omega)]at h1;rw[h1];simp
   have ai:ofL bas (x::bI bas r)=x+bas*r:=by rw[ofL,dU (by decide)]
   have ae:Lim bas (x::bI bas r):=fun y hy=>by
     rcases List.mem_cons.1 hy with rfl|hy
     . exact al
     . exact dP (by decide) r y hy
   have au:(bI bas (x+bas*r)).length<=1048575:=by
     refine Xaj (iZ (b:=bas) (k:=(bI bas r).length+1) (by decide) ?_) (by omega);have h1:=mE (b:=bas) (by decide) ae;rw[ai]at h1;simpa using h1
   generalize aw:x+bas*r=R at *;have ag:R-n*(R/n)=R%n:=by have:=Nat.mod_add_div R n;omega
   have ax:(bI bas (n*(R/n))).length<=1048576:=Xaj (eC (by decide) (Nat.mul_div_le R n)) (by omega);simp only[go_sem,h0,h1,I,E,F,aE hx,b1];refine aM fun i hi=>?_
   simp only[go_sem,h0,h1,I,E,F];have ac:=jG (r':=⟨3,1,[[int (x:Int)]]⟩) Rj hi;refine bE (aA _ _ _) ⟨rfl,rfl⟩ (allN _) (by simp only[Xaa,Xad,List.length_nil];omega) (fun i2 ak=>?_);have am:=cV ac (aO Rj hi).symm ak (r':=⟨3,1,[[int (x:Int)]]++(bI bas r).map gS⟩);have an:j≠i2:=aO ac ak;simp only[go_sem,h0,h1,I,E,F];refine PC.useF [i2] (.cons _ _ _ _ (.row _ _ _ (by simp only[Xat,if_true];exact aA _ _ _) (ConvE.refl _)) .nil) (F0 ae (by simp;omega) ai) ?_;generalize ad:(fun k=>if k∈[i2]then none else _)=HN;have J:HN j=some (cH u):=by rw[<-ad];simp only[Xat,if_neg an];exact am
   clear ad am ac Rj;simp only[go_sem,h0,h1,I,E,F];refine PC.use (Bx R n (by omega) (by omega)) ?_;simp only[go_sem,h0,h1,I,E,F];refine aB (fun hc=>?_) (fun hc=>?_)
   . have aa : R < n := by
       rcases Nat.lt_trichotomy R n with h|h|h
       . exact h
       . rw[qT (by omega)]at hc;cases hc
       . rw[iQ (by omega)]at hc;cases hc
     simp only[go_sem,h0,h1,I,E,F,mO (show k<=4611686018427387904 by omega)];have M:u.set k (R/n)=u:=by
       rw[Nat.div_eq_of_lt aa];obtain⟨h1,h2⟩:=List.getElem?_eq_some_iff.1 Z;rw[<-h2];exact List.set_getElem_self h1
     rw[M,Xbb aa]at hV;rw[M]at O;exact⟨⟨k,R,u,by omega,rfl,rfl,J,hq,ab,aa,hV,O⟩,by omega⟩
   simp only[go_sem,h0,h1,I,E,F];refine aB (fun ah=>?_) (fun ah=>?_)
   . have af : R = n := by
       have:=G6.1 (by simpa using ah);omega
     simp only[go_sem,h0,h1,I,E,F,J,show(cH u).es.length=u.length from Xaa _,b2];refine⟨rfl,eF so3 J (by simp only[cH,Xaa];exact⟨by simpa using b2.2,rfl,Xaf 1⟩) ?_⟩;simp only[go_sem,h0,h1,I,E,F,mO (show k<=4611686018427387904 by omega)];have M:R/n=1:=by rw[af];exact Nat.div_self hn
     have ar:R%n=0:=by rw[af];exact Nat.mod_self n
     rw[M,ar]at hV;rw[M]at O;refine⟨⟨k,0,u.set k 1,by omega,IA.symm,rfl,?_,hq.set (by decide),by simp[ab],hn,hV,O⟩,by omega⟩;exact congrArg some (Do (q:=1) Z)
   simp only[go_sem,h0,h1,I,E,F,J];refine PC.use (Dm R n (by omega) hn (by omega) ap) ?_;simp only[go_sem,h0,h1,I,E,F,J,show(cH u).es.length=u.length from Xaa _,b2];refine⟨rfl,eF so3 J (by simp only[cH,Xaa];exact⟨by simpa using b2.2,rfl,Xaf 1⟩) ?_⟩;generalize hP:aI HN j _=HP;have T:HP j=some (cH (u.set k (R/n))):=by
     rw[<-hP,aA];exact congrArg some (Do (q:=R/n) Z)
   have hg:(u.set k (R/n))[k]?=some (R/n):=List.getElem?_set_self (by omega);clear hP J;simp only[go_sem,h0,h1,I,E,F,T];have aq:(cH (u.set k (R/n))).es.getD k []=gS (R/n):=aE hg;have b3:0<=(k:Int)/\(k:Int)<((cH (u.set k (R/n))).es.length:Nat):=by
     simp only[cH,Xaa,Xbd];exact b2
   simp only[go_sem,aq,b3];refine⟨rfl,⟨by omega,Nat.zero_lt_one⟩,?_⟩;refine PC.use (QM n (R/n) (by omega) hQ) ?_;simp only[go_sem,h0,h1,I,E,F,T];refine PC.use (Di R (n*(R/n)) (by omega) (Nat.mul_div_le R n)) ?_;simp only[go_sem,h0,h1,I,E,F,mO (show k<=4611686018427387904 by omega),ag];exact⟨⟨k,R%n,u.set k (R/n),by omega,rfl,rfl,T,hq.set hQ,by simp[ab],hR,hV,O⟩,by omega⟩
 . have aj:k=0:=by simp at hb;omega
   subst aj;simp only[go_sem,h0,h1,I,E,F];obtain⟨e1,e2⟩:=aaT hr hv;rw[Xbi,Xbi,om]at e1;rw[Xbi,om]at e2;refine PC.useF [j] (.cons _ _ _ _ (.row _ _ _ (by simp only[Xat,if_true];exact Rj) (ConvE.refl _)) .nil) (F0 hq (by omega) e1) ?_;simp only[go_sem,E,e2];exact .refl _
end Go.Proofs.YtohmomanmikphaaGreatDoor.Nu
end
section
namespace Go.Proofs
open Go.Shelf
def Tryz.lays169_ren:Go.Shelf.Ren:=⟨fun|169=>264|n=>n,fun|70=>278|9=>9|0=>0|72=>280|37=>192|127=>311|3=>3|5=>5|n=>n,fun|n=>n⟩
theorem Tryz.lays169:Go.Proofs.Lays.n169 Tryz.prog Tryz.lays169_ren:={
 mixed:=by kernel_rfl
 f169:=Tryz.func264.trans (congrArg some (by kernel_rfl))
 t0:=Tryz.underlying0
 a0:=Tryz.isAgg0
 z0:=Tryz.sizeOf0
 v0:=Tryz.zeroValue0
 t3:=Tryz.underlying3
 a3:=Tryz.isAgg3
 z3:=Tryz.sizeOf3
 v3:=Tryz.zeroValue3
 t9:=Tryz.underlying9
 a9:=Tryz.isAgg9
 z9:=Tryz.sizeOf9
 v9:=Tryz.zeroValue9
 t37:=Tryz.underlying192
 a37:=Tryz.isAgg192
 z37:=Tryz.sizeOf192
 v37:=Tryz.zeroValue192
 t70:=Tryz.underlying278
 a70:=Tryz.isAgg278
 z70:=Tryz.sizeOf278
 v70:=Tryz.zeroValue278
 t72:=Tryz.underlying280
 a72:=Tryz.isAgg280
 z72:=Tryz.sizeOf280
 v72:=Tryz.zeroValue280
 t127:=Tryz.underlying311
 a127:=Tryz.isAgg311
 z127:=Tryz.sizeOf311
 v127:=Tryz.zeroValue311 }
theorem Tryz.Builder_Extra_169:Builder.Extra Tryz.prog Tryz.lays169_ren:={
 sizeBuilder:=by kernel_rfl
 liesBuilder:=by kernel_rfl
 t5:=Tryz.underlying5
 a5:=Tryz.isAgg5
 z5:=Tryz.sizeOf5
 v5:=Tryz.zeroValue5
 infoByte:=by kernel_rfl
 cellsByte:=by kernel_rfl
 sizeByte:=by kernel_rfl
 neB5:=by decide }
open Go.RowKit in
theorem Tryz.Builder_String_any (B b:Nat) (l:List UInt8) (w:World) (h:Lib.IsBuilder 280 5 B b (Lib.byteCells l) w) (hBw:B<=w.heap.size):
    Calls Tryz.prog 264 #[.pointer (some ⟨b,0,none⟩)] w fun e w'=>e=.returned (.string ⟨l.toArray⟩)/\Below B w w':=Any.Builder_String_any Tryz.lays169 Tryz.Builder_Extra_169 B b l w h hBw
def Tryz.lays106_ren:Go.Shelf.Ren:=⟨fun|106=>229|213=>266|265=>303|n=>n,fun|9=>9|3=>3|n=>n,fun|n=>n⟩
theorem Tryz.lays106:Go.Proofs.Lays.n106 Tryz.prog Tryz.lays106_ren:={
 mixed:=by kernel_rfl
 f106:=Tryz.func229.trans (congrArg some (by kernel_rfl))
 f213:=Tryz.func266.trans (congrArg some (by kernel_rfl))
 f265:=Tryz.func303.trans (congrArg some (by kernel_rfl))
 t3:=Tryz.underlying3
 a3:=Tryz.isAgg3
 z3:=Tryz.sizeOf3
 v3:=Tryz.zeroValue3
 t9:=Tryz.underlying9
 a9:=Tryz.isAgg9
 z9:=Tryz.sizeOf9
 v9:=Tryz.zeroValue9 }
open Go.RowKit in
theorem Tryz.strings_Compare (a b:ByteArray) (w:World):
    Calls Tryz.prog 229 #[.string a,.string b] w fun e w'=>e=.returned (.int .i64 (Lib.compareBytes a.data.toList b.data.toList))/\w'=w:=Any.strings_Compare Tryz.lays106 a b w
def Tryz.lays103_ren:Go.Shelf.Ren:=⟨fun|103=>184|210=>239|206=>238|n=>n,fun|9=>9|4=>4|24=>218|3=>3|n=>n,fun|n=>n⟩
theorem Tryz.lays103:Go.Proofs.Lays.n103 Tryz.prog Tryz.lays103_ren:={
 mixed:=by kernel_rfl
 f103:=Tryz.func184.trans (congrArg some (by kernel_rfl))
 f206:=Tryz.func238.trans (congrArg some (by kernel_rfl))
 f210:=Tryz.func239.trans (congrArg some (by kernel_rfl))
 t3:=Tryz.underlying3
 a3:=Tryz.isAgg3
 z3:=Tryz.sizeOf3
 v3:=Tryz.zeroValue3
 t4:=Tryz.underlying4
 a4:=Tryz.isAgg4
 z4:=Tryz.sizeOf4
 v4:=Tryz.zeroValue4
 t9:=Tryz.underlying9
 a9:=Tryz.isAgg9
 z9:=Tryz.sizeOf9
 v9:=Tryz.zeroValue9
 t24:=Tryz.underlying218
 a24:=Tryz.isAgg218
 z24:=Tryz.sizeOf218
 v24:=Tryz.zeroValue218 }
open Go.RowKit in
theorem Tryz.strings_CutPrefix (s p:ByteArray) (w:World):
    Calls Tryz.prog 184 #[.string s,.string p] w fun e w'=>e=.returned (.tuple #[.string ⟨(Lib.trimPrefix s.data.toList p.data.toList).toArray⟩,.bool (Lib.hasPrefix s.data.toList p.data.toList)])/\w'=w:=Any.strings_CutPrefix Tryz.lays103 s p w
def Tryz.laysM171_ren:Go.Shelf.Ren:=⟨fun|171=>224|243=>261|246=>296|283=>337|284=>338|285=>339|286=>340|129=>366|317=>365|318=>367|319=>368|320=>369|337=>383|338=>384|n=>n,fun|3=>3|9=>9|2=>2|4=>4|171=>347|0=>0|53=>348|37=>192|5=>5|173=>351|212=>373|51=>312|20=>20|213=>374|46=>181|232=>393|233=>394|n=>n,fun|17=>1|18=>2|19=>3|n=>n⟩
theorem Tryz.laysM171:Go.Proofs.LaysM.n171 Tryz.prog Tryz.laysM171_ren:={
 mixed:=by kernel_rfl
 f129:=Tryz.func366.trans (congrArg some (by kernel_rfl))
 f171:=Tryz.func224.trans (congrArg some (by kernel_rfl))
 f243:=Tryz.func261.trans (congrArg some (by kernel_rfl))
 f246:=Tryz.func296.trans (congrArg some (by kernel_rfl))
 f283:=Tryz.func337.trans (congrArg some (by kernel_rfl))
 f284:=Tryz.func338.trans (congrArg some (by kernel_rfl))
 f285:=Tryz.func339.trans (congrArg some (by kernel_rfl))
 f286:=Tryz.func340.trans (congrArg some (by kernel_rfl))
 f317:=Tryz.func365.trans (congrArg some (by kernel_rfl))
 f318:=Tryz.func367.trans (congrArg some (by kernel_rfl))
 f319:=Tryz.func368.trans (congrArg some (by kernel_rfl))
 f320:=Tryz.func369.trans (congrArg some (by kernel_rfl))
 f337:=Tryz.func383.trans (congrArg some (by kernel_rfl))
 f338:=Tryz.func384.trans (congrArg some (by kernel_rfl))
 t0:=Tryz.underlying0
 a0:=Tryz.isAgg0
 z0:=Tryz.sizeOf0
 v0:=Tryz.zeroValue0
 t2:=Tryz.underlying2
 a2:=Tryz.isAgg2
 z2:=Tryz.sizeOf2
 v2:=Tryz.zeroValue2
 t3:=Tryz.underlying3
 a3:=Tryz.isAgg3
 z3:=Tryz.sizeOf3
 v3:=Tryz.zeroValue3
 t4:=Tryz.underlying4
 a4:=Tryz.isAgg4
 z4:=Tryz.sizeOf4
 v4:=Tryz.zeroValue4
 t5:=Tryz.underlying5
 a5:=Tryz.isAgg5
 z5:=Tryz.sizeOf5
 v5:=Tryz.zeroValue5
 t9:=Tryz.underlying9
 a9:=Tryz.isAgg9
 z9:=Tryz.sizeOf9
 v9:=Tryz.zeroValue9
 t20:=Tryz.underlying20
 a20:=Tryz.isAgg20
 z20:=Tryz.sizeOf20
 v20:=Tryz.zeroValue20
 t37:=Tryz.underlying192
 a37:=Tryz.isAgg192
 z37:=Tryz.sizeOf192
 v37:=Tryz.zeroValue192
 t46:=Tryz.underlying181
 a46:=Tryz.isAgg181
 z46:=Tryz.sizeOf181
 v46:=Tryz.zeroValue181
 t51:=Tryz.underlying312
 a51:=Tryz.isAgg312
 z51:=Tryz.sizeOf312
 v51:=Tryz.zeroValue312
 t53:=Tryz.underlying348
 a53:=Tryz.isAgg348
 z53:=Tryz.sizeOf348
 v53:=Tryz.zeroValue348
 t171:=Tryz.underlying347
 a171:=Tryz.isAgg347
 z171:=Tryz.sizeOf347
 v171:=Tryz.zeroValue347
 t173:=Tryz.underlying351
 a173:=Tryz.isAgg351
 z173:=Tryz.sizeOf351
 v173:=Tryz.zeroValue351
 t212:=Tryz.underlying373
 a212:=Tryz.isAgg373
 z212:=Tryz.sizeOf373
 v212:=Tryz.zeroValue373
 t213:=Tryz.underlying374
 a213:=Tryz.isAgg374
 z213:=Tryz.sizeOf374
 t232:=Tryz.underlying393
 a232:=Tryz.isAgg393
 z232:=Tryz.sizeOf393
 v232:=Tryz.zeroValue393
 t233:=Tryz.underlying394
 a233:=Tryz.isAgg394
 z233:=Tryz.sizeOf394
 v233:=Tryz.zeroValue394
 g17:=by kernel_rfl
 g18:=by kernel_rfl
 g19:=by kernel_rfl
 i0:=by kernel_rfl
 i2:=by kernel_rfl
 i3:=by kernel_rfl
 i4:=by kernel_rfl
 i5:=by kernel_rfl
 i9:=by kernel_rfl
 i20:=by kernel_rfl
 i37:=by kernel_rfl
 i46:=by kernel_rfl
 i51:=by kernel_rfl
 i53:=by kernel_rfl
 i171:=by kernel_rfl
 i173:=by kernel_rfl
 i212:=by kernel_rfl
 i232:=by kernel_rfl
 i233:=by kernel_rfl
 m17:=by kernel_rfl
 m18:=by kernel_rfl
 m19:=by kernel_rfl }
open Go.RowKit Go.Sort Go.Lib in
theorem Tryz.strconv_Itoa (n:Int) (h0: -9223372036854775808<=n) (h1:n<=9223372036854775807) (w:World) (htab:Lib.TabIs Tryz.prog w "internal/strconv.uint64pow10" .u64 Lib.pow10Tab):
    Calls Tryz.prog 224 #[.int .i64 n] w fun e w'=>e=.returned (.string ⟨(Lib.itoa n).toArray⟩)/\∃k os,w'=grow (w.drewN k) os:=Any.strconv_Itoa Tryz.laysM171 n h0 h1 w htab
def Tryz.lays219_ren:Go.Shelf.Ren:=⟨fun|219=>233|217=>268|225=>269|224=>270|267=>271|266=>304|314=>305|n=>n,fun|9=>9|3=>3|4=>4|5=>5|46=>181|146=>313|51=>312|n=>n,fun|1=>0|n=>n⟩
theorem Tryz.lays219:Go.Proofs.Lays.n219 Tryz.prog Tryz.lays219_ren:={
 mixed:=by kernel_rfl
 f217:=Tryz.func268.trans (congrArg some (by kernel_rfl))
 f219:=Tryz.func233.trans (congrArg some (by kernel_rfl))
 f224:=Tryz.func270.trans (congrArg some (by kernel_rfl))
 f225:=Tryz.func269.trans (congrArg some (by kernel_rfl))
 f266:=Tryz.func304.trans (congrArg some (by kernel_rfl))
 f267:=Tryz.func271.trans (congrArg some (by kernel_rfl))
 f314:=Tryz.func305.trans (congrArg some (by kernel_rfl))
 t3:=Tryz.underlying3
 a3:=Tryz.isAgg3
 z3:=Tryz.sizeOf3
 v3:=Tryz.zeroValue3
 t4:=Tryz.underlying4
 a4:=Tryz.isAgg4
 z4:=Tryz.sizeOf4
 v4:=Tryz.zeroValue4
 t5:=Tryz.underlying5
 a5:=Tryz.isAgg5
 z5:=Tryz.sizeOf5
 v5:=Tryz.zeroValue5
 t9:=Tryz.underlying9
 a9:=Tryz.isAgg9
 z9:=Tryz.sizeOf9
 v9:=Tryz.zeroValue9
 t46:=Tryz.underlying181
 a46:=Tryz.isAgg181
 z46:=Tryz.sizeOf181
 v46:=Tryz.zeroValue181
 t51:=Tryz.underlying312
 a51:=Tryz.isAgg312
 z51:=Tryz.sizeOf312
 v51:=Tryz.zeroValue312
 t146:=Tryz.underlying313
 a146:=Tryz.isAgg313
 z146:=Tryz.sizeOf313
 v146:=Tryz.zeroValue313
 g1:=by kernel_rfl }
open Go.RowKit Go.Lib in
theorem Tryz.stringslite_Index_one (s:ByteArray) (c:UInt8) (w:World):
    Calls Tryz.prog 233 #[.string s,.string ⟨#[c]⟩] w fun e w'=>e=.returned (.int .i64 (Lib.indexByte s.data.toList c))/\w'=w:=Any.stringslite_Index_one Tryz.lays219 s c w
def Tryz.lays144_ren:Go.Shelf.Ren:=⟨fun|144=>109|143=>178|219=>233|217=>268|225=>269|224=>270|267=>271|266=>304|314=>305|n=>n,fun|9=>9|4=>4|3=>3|5=>5|46=>181|146=>313|51=>312|n=>n,fun|1=>0|n=>n⟩
theorem Tryz.lays144:Go.Proofs.Lays.n144 Tryz.prog Tryz.lays144_ren:={
 mixed:=by kernel_rfl
 f143:=Tryz.func178.trans (congrArg some (by kernel_rfl))
 f144:=Tryz.func109.trans (congrArg some (by kernel_rfl))
 f217:=Tryz.func268.trans (congrArg some (by kernel_rfl))
 f219:=Tryz.func233.trans (congrArg some (by kernel_rfl))
 f224:=Tryz.func270.trans (congrArg some (by kernel_rfl))
 f225:=Tryz.func269.trans (congrArg some (by kernel_rfl))
 f266:=Tryz.func304.trans (congrArg some (by kernel_rfl))
 f267:=Tryz.func271.trans (congrArg some (by kernel_rfl))
 f314:=Tryz.func305.trans (congrArg some (by kernel_rfl))
 t3:=Tryz.underlying3
 a3:=Tryz.isAgg3
 z3:=Tryz.sizeOf3
 v3:=Tryz.zeroValue3
 t4:=Tryz.underlying4
 a4:=Tryz.isAgg4
 z4:=Tryz.sizeOf4
 v4:=Tryz.zeroValue4
 t5:=Tryz.underlying5
 a5:=Tryz.isAgg5
 z5:=Tryz.sizeOf5
 v5:=Tryz.zeroValue5
 t9:=Tryz.underlying9
 a9:=Tryz.isAgg9
 z9:=Tryz.sizeOf9
 v9:=Tryz.zeroValue9
 t46:=Tryz.underlying181
 a46:=Tryz.isAgg181
 z46:=Tryz.sizeOf181
 v46:=Tryz.zeroValue181
 t51:=Tryz.underlying312
 a51:=Tryz.isAgg312
 z51:=Tryz.sizeOf312
 v51:=Tryz.zeroValue312
 t146:=Tryz.underlying313
 a146:=Tryz.isAgg313
 z146:=Tryz.sizeOf313
 v146:=Tryz.zeroValue313
 g1:=by kernel_rfl }
open Go.RowKit Go.Lib in
theorem Tryz.strings_Contains_one (s:ByteArray) (c:UInt8) (w:World):
    Calls Tryz.prog 109 #[.string s,.string ⟨#[c]⟩] w fun e w'=>e=.returned (.bool (decide (0<=Lib.indexByte s.data.toList c)))/\w'=w:=Any.strings_Contains_one Tryz.lays144 s c w
def Tryz.lays101_ren:Go.Shelf.Ren:=⟨fun|101=>112|208=>182|206=>238|n=>n,fun|9=>9|4=>4|3=>3|n=>n,fun|n=>n⟩
theorem Tryz.lays101:Go.Proofs.Lays.n101 Tryz.prog Tryz.lays101_ren:={
 mixed:=by kernel_rfl
 f101:=Tryz.func112.trans (congrArg some (by kernel_rfl))
 f206:=Tryz.func238.trans (congrArg some (by kernel_rfl))
 f208:=Tryz.func182.trans (congrArg some (by kernel_rfl))
 t3:=Tryz.underlying3
 a3:=Tryz.isAgg3
 z3:=Tryz.sizeOf3
 v3:=Tryz.zeroValue3
 t4:=Tryz.underlying4
 a4:=Tryz.isAgg4
 z4:=Tryz.sizeOf4
 v4:=Tryz.zeroValue4
 t9:=Tryz.underlying9
 a9:=Tryz.isAgg9
 z9:=Tryz.sizeOf9
 v9:=Tryz.zeroValue9 }
open Go.RowKit Go.Lib in
theorem Tryz.strings_TrimPrefix (s p:ByteArray) (w:World):
    Calls Tryz.prog 112 #[.string s,.string p] w fun e w'=>e=.returned (.string ⟨(Lib.trimPrefix s.data.toList p.data.toList).toArray⟩)/\w'=w:=Any.strings_TrimPrefix Tryz.lays101 s p w
def Tryz.lays105_ren:Go.Shelf.Ren:=⟨fun|105=>263|212=>298|99=>299|165=>300|166=>262|170=>301|169=>264|263=>342|264=>343|206=>238|240=>297|241=>344|276=>341|277=>370|n=>n,fun|9=>9|3=>3|4=>4|20=>20|0=>0|46=>181|109=>307|5=>5|72=>280|76=>283|51=>312|146=>313|53=>348|148=>356|70=>278|37=>192|75=>282|127=>311|164=>353|80=>209|n=>n,fun|n=>n⟩
theorem Tryz.lays105:Go.Proofs.Lays.n105 Tryz.prog Tryz.lays105_ren:={
 mixed:=by kernel_rfl
 f99:=Tryz.func299.trans (congrArg some (by kernel_rfl))
 f105:=Tryz.func263.trans (congrArg some (by kernel_rfl))
 f165:=Tryz.func300.trans (congrArg some (by kernel_rfl))
 f166:=Tryz.func262.trans (congrArg some (by kernel_rfl))
 f169:=Tryz.func264.trans (congrArg some (by kernel_rfl))
 f170:=Tryz.func301.trans (congrArg some (by kernel_rfl))
 f206:=Tryz.func238.trans (congrArg some (by kernel_rfl))
 f212:=Tryz.func298.trans (congrArg some (by kernel_rfl))
 f240:=Tryz.func297.trans (congrArg some (by kernel_rfl))
 f241:=Tryz.func344.trans (congrArg some (by kernel_rfl))
 f263:=Tryz.func342.trans (congrArg some (by kernel_rfl))
 f264:=Tryz.func343.trans (congrArg some (by kernel_rfl))
 f276:=Tryz.func341.trans (congrArg some (by kernel_rfl))
 f277:=Tryz.func370.trans (congrArg some (by kernel_rfl))
 t0:=Tryz.underlying0
 a0:=Tryz.isAgg0
 z0:=Tryz.sizeOf0
 v0:=Tryz.zeroValue0
 t3:=Tryz.underlying3
 a3:=Tryz.isAgg3
 z3:=Tryz.sizeOf3
 v3:=Tryz.zeroValue3
 t4:=Tryz.underlying4
 a4:=Tryz.isAgg4
 z4:=Tryz.sizeOf4
 v4:=Tryz.zeroValue4
 t5:=Tryz.underlying5
 a5:=Tryz.isAgg5
 z5:=Tryz.sizeOf5
 v5:=Tryz.zeroValue5
 t9:=Tryz.underlying9
 a9:=Tryz.isAgg9
 z9:=Tryz.sizeOf9
 v9:=Tryz.zeroValue9
 t20:=Tryz.underlying20
 a20:=Tryz.isAgg20
 z20:=Tryz.sizeOf20
 v20:=Tryz.zeroValue20
 t37:=Tryz.underlying192
 a37:=Tryz.isAgg192
 z37:=Tryz.sizeOf192
 v37:=Tryz.zeroValue192
 t46:=Tryz.underlying181
 a46:=Tryz.isAgg181
 z46:=Tryz.sizeOf181
 v46:=Tryz.zeroValue181
 t51:=Tryz.underlying312
 a51:=Tryz.isAgg312
 z51:=Tryz.sizeOf312
 v51:=Tryz.zeroValue312
 t53:=Tryz.underlying348
 a53:=Tryz.isAgg348
 z53:=Tryz.sizeOf348
 v53:=Tryz.zeroValue348
 t70:=Tryz.underlying278
 a70:=Tryz.isAgg278
 z70:=Tryz.sizeOf278
 v70:=Tryz.zeroValue278
 t72:=Tryz.underlying280
 a72:=Tryz.isAgg280
 z72:=Tryz.sizeOf280
 v72:=Tryz.zeroValue280
 t75:=Tryz.underlying282
 a75:=Tryz.isAgg282
 z75:=Tryz.sizeOf282
 v75:=Tryz.zeroValue282
 t76:=Tryz.underlying283
 a76:=Tryz.isAgg283
 z76:=Tryz.sizeOf283
 v76:=Tryz.zeroValue283
 t109:=Tryz.underlying307
 a109:=Tryz.isAgg307
 z109:=Tryz.sizeOf307
 v109:=Tryz.zeroValue307
 t127:=Tryz.underlying311
 a127:=Tryz.isAgg311
 z127:=Tryz.sizeOf311
 v127:=Tryz.zeroValue311
 t146:=Tryz.underlying313
 a146:=Tryz.isAgg313
 z146:=Tryz.sizeOf313
 v146:=Tryz.zeroValue313
 t148:=Tryz.underlying356
 a148:=Tryz.isAgg356
 z148:=Tryz.sizeOf356
 v148:=Tryz.zeroValue356
 t164:=Tryz.underlying353
 a164:=Tryz.isAgg353
 z164:=Tryz.sizeOf353
 v164:=Tryz.zeroValue353 }
theorem Tryz.Builder_Extra_105:Builder.Extra Tryz.prog Tryz.lays105_ren:={
 sizeBuilder:=by kernel_rfl
 liesBuilder:=by kernel_rfl
 t5:=Tryz.underlying5
 a5:=Tryz.isAgg5
 z5:=Tryz.sizeOf5
 v5:=Tryz.zeroValue5
 infoByte:=by kernel_rfl
 cellsByte:=by kernel_rfl
 sizeByte:=by kernel_rfl
 neB5:=by decide }
open Go.RowKit Go.Lib in
theorem Tryz.strings_Repeat (s:ByteArray) (c:Nat) (w:World) (hc:c<=9223372036854775807) (hlen:s.size*c<=140737488355328):
    Calls Tryz.prog 263 #[.string s,.int .i64 c] w fun e w'=>e=.returned (.string ⟨(Lib.repeatL s.data.toList c).toArray⟩)/\Below w.heap.size w w':=Any.strings_Repeat Tryz.lays105 Tryz.Builder_Extra_105 s c w hc hlen
end Go.Proofs
end
