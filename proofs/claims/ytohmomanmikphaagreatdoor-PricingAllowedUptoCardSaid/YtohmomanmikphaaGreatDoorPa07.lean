import Derived.Lib.ItoaMem
import Derived.Laws.Strings
import Derived.Shelf.Strings.Builder1
import Derived.Shelf.Strings.Builder2
import Derived.Shelf.Small.Strs
import Derived.Shelf.Small.Wraps
import Derived.Shelf.Strings.BuilderF
import Derived.Shelf.Strings.BuilderK
import Derived.Shelf.Strings.Builder2Cap
import Derived.Shelf.Strconv.Itoa0
import Derived.Shelf.Strconv.Itoa1
import Derived.Shelf.LaysM
import Derived.Shelf.Strconv.Itoa2
import Derived.Shelf.Strconv.Itoa3
import Derived.Shelf.Strings.Search1
import Derived.Shelf.Strings.Search2
import Derived.Shelf.Strings.Search3
import Derived.Shelf.Strings.Cut
import Derived.Shelf.Strings.Shaped
import Derived.Shelf.Strings.Prefix
import Derived.Shelf.Bits.Mul64
import Derived.Shelf.Strings.Repeat
import Derived.Shelf.Strings.BuilderCap
import Derived.Ground.Names2Prog
import Derived.Shelf.Slices.SearchI
import Derived.Test.YtohmomanmikphaaGreatDoorProg
import Derived.Test.YtohmomanmikphaaGreatDoorPa06
set_option linter.unusedSimpArgs false
set_option linter.unusedVariables false
set_option maxRecDepth 100000
section
namespace Go.Aw
open Go.RowKit
section
variable{P:Program}{S:Sg}{w:World}{H:aK}{f:FuncId}{args args':List AV}{K:AV->aK->Prop}
theorem St.frz(J:St S w H)(l:List Nat):St (S.froze fun k=>if k∈l then H k else none) w (fun k=>if k∈l then none else H k)/\Grow S w (S.froze fun k=>if k∈l then H k else none) w/\St S w fun k=>if k∈l then H k else none:=by
 let Hf:aK:=fun k=>if k∈l then H k else none
 let Hr:aK:=fun k=>if k∈l then none else H k
 have U:∀k r',Hf k=some r'->k∈l/\H k=some r':=fun k r' E=>by
   by_cases e:k∈l
   . exact⟨e,by simpa[Hf,e]using E⟩
   . simp[Hf,e]at E
 have I:∀k r',Hr k=some r'->¬k∈l/\H k=some r':=fun k r' E=>by
   by_cases e:k∈l
   . simp[Hr,e]at E
   . exact⟨e,by simpa[Hr,e]using E⟩
 refine⟨⟨?_,?_,fun k r' E=>(J.rows k r' (I k r' E).2).keep (S.le_froze Hf) (gE.refl S w) (fun _ _=>rfl),?_,fun k k' r1 O E Y X g F V=>J.disj k k' r1 O (I k r1 E).2 (I k' O Y).2 X g F V,J.tabs.keep (S.le_froze Hf) (gE.refl S w)⟩,⟨S.le_froze Hf,fun k E=>.inl E,rfl,rfl,rfl,Nat.le_refl _,fun _ _=>rfl,?_⟩,J.drop fun k r' E=>(U k r' E).2⟩
 . rintro g (F|F)
   . exact .inl (J.ro_fz g F)
   . exact .inr F
 . rintro g (F|⟨k,r',E,F⟩)
   . exact J.fz_lt g F
   . exact(J.rows k r' (U k r' E).2).block_lt F
 . rintro k r' E g F (h1|⟨i,O,hi,Z⟩)
   . exact J.free k r' (I k r' E).2 g F h1
   . exact J.disj k i r' O (I k r' E).2 (U i O hi).2 (fun e=>(I k r' E).1 (e▸(U i O hi).1)) g F Z
 . rintro g (F|⟨k,r',E,F⟩)
   . exact .inl F
   . exact .inr (J.free k r' (U k r' E).2 g F)
theorem bF.frz(l:List Nat)(V:ConvL (fun k=>if k∈l then H k else none) args args')(h:bF P f args' (fun k=>if k∈l then none else H k) K):bF P f args H K:=by
 intro S w vals hS J;obtain⟨h1,F,Y⟩:=hS.frz l;refine(h _ w vals h1 (V.rep Y J)).mono fun e w' ⟨v,r,H',S',I,X,E,Z,hg,O⟩=>⟨v,r,H',S',I,X,E,Z,F.trans hg,fun k U h0=>O k U ?_⟩
 by_cases e:k∈l
 . simp[e]
 . simpa[e]using h0
theorem PC.useF{r:AV}(l:List Nat)(F:ConvL (fun k=>if k∈l then H k else none) args args')(h:PC P f args' r)(E:K r (fun k=>if k∈l then none else H k)):bF P f args H K:=bF.frz l F (PC.use h E)
theorem PC.lib{a:List Value}{r:AV}{v:Value}(V:∀S w,rep S w r v)(h:∀w,(∀t∈XN,tH w t.1=some t.2)->Calls P f a.toArray w fun e w'=>e=.returned v/\Below w.heap.size w w'):PC P f (a.map .v) r:=by
 intro S w vals J Y F;obtain rfl:vals=a:=by
   clear h;induction a generalizing vals with
   | nil=>
     cases vals with
     | nil=>rfl
     | cons x r=>simp[bG]at F
   | cons x a ih=>
     simp only[List.map_cons,bG]at F;obtain⟨u,t,rfl,h1,O⟩:=F;simp only[rep]at h1;subst h1;rw[ih t O]
 refine(h w fun t X=>(J.tabs t X).2).mono fun e w' ⟨U,E⟩=>?_
 exact⟨v,r,bV,S,U,rfl,J.after E.size fun k I=>E.block k I,V S w',J.grow E.os E.tape E.output E.size fun k I=>E.block k I,fS.refl _ _⟩
end
end Go.Aw
end
section
namespace Go.Nu
open Go Go.Lib
def ofL(b:Nat):List Nat->Nat
 | []=>0
 | x::r=>x+b*ofL b r
def Lim(b:Nat)(l:List Nat):Prop:=∀x∈l,x<b
def bO(b:Nat)(n:Nat):List Nat:=if h:n=0\/b<2 then[]else n%b::bO b (n/b)
termination_by n
decreasing_by exact Nat.div_lt_self (by omega) (by omega)
def mX:List Nat->List Nat
 | []=>[]
 | x::r=>match mX r with
   | []=>if x=0 then[]else[x]
   | y::t=>x::y::t
theorem qI(b:Nat):∀l r:List Nat,ofL b (l++r)=ofL b l+b^l.length*ofL b r
 | [],r=>by simp[ofL]
 | x::l,r=>by
   simp only[List.cons_append,ofL,qI b l r,List.length_cons,Nat.pow_succ,Nat.mul_add,Nat.add_assoc];rw[Nat.mul_comm (b^l.length) b,Nat.mul_assoc]
theorem tL(b:Nat)(l:List Nat)(x:Nat):ofL b (l++[x])=ofL b l+b^l.length*x:=by rw[qI];simp[ofL]
theorem oW{b:Nat}(E:0<b):∀{l:List Nat},Lim b l->ofL b l<b^l.length
 | [],_=>by simp[ofL]
 | x::l,h=>by
   have h1:=h x (by simp);have I:=oW E (l:=l) fun y F=>h y (by simp[F])
   simp only[ofL,List.length_cons,Nat.pow_succ];have:b*(ofL b l+1)<=b*b^l.length:=Nat.mul_le_mul_left _ I;rw[Nat.mul_add]at this;rw[Nat.mul_comm (b^l.length) b];omega
theorem lO(b:Nat){l:List Nat}{k x:Nat}(h:l[k]?=some x):ofL b (l.take (k+1))=ofL b (l.take k)+b^k*x:=by
 rw[List.take_add_one,h];simp only[Option.toList];rw[tL,List.length_take,Nat.min_eq_left (Nat.le_of_lt (List.getElem?_eq_some_iff.1 h).1)]
theorem L6(b:Nat):∀(l:List Nat) (k x v:Nat),l[k]?=some x->ofL b (l.set k v)+b^k*x=ofL b l+b^k*v
 | [],k,x,v,h=>by simp at h
 | y::l,0,x,v,h=>by
   simp only[List.getElem?_cons_zero,Option.some.injEq]at h;subst h;simp only[List.set_cons_zero,ofL,Nat.pow_zero,Nat.one_mul];omega
 | y::l,k+1,x,v,h=>by
   have:=L6 b l k x v (by simpa using h);have E:b*(ofL b (l.set k v)+b^k*x)=b*(ofL b l+b^k*v):=by rw[this]
   simp only[List.set_cons_succ,ofL,Nat.pow_succ];rw[Nat.mul_add,Nat.mul_add,<-Nat.mul_assoc,<-Nat.mul_assoc]at E;rw[Nat.mul_comm (b^k) b];omega
theorem Xc(b n:Nat):ofL b (List.replicate n 0)=0:=by
 induction n with
 | zero=>rfl
 | succ n ih=>simp[List.replicate_succ,ofL,ih]
theorem fJ(b:Nat):bO b 0=[]:=by rw[bO];simp
theorem qL{b n:Nat}(E:2<=b)(F:n≠0):bO b n=n%b::bO b (n/b):=by
 rw[bO,dif_neg (by omega)]
theorem eV{b:Nat}(I:2<=b)(n:Nat):Lim b (bO b n):=by
 induction n using Nat.strongRecOn with
 | _ n ih=>
   by_cases F:n=0
   . subst F;rw[fJ];intro x E;cases E
   . rw[qL I F]
     intro x E;rcases List.mem_cons.1 E with rfl|E
     . exact Nat.mod_lt _ (by omega)
     . exact ih (n/b) (Nat.div_lt_self (by omega) (by omega)) x E
theorem fF{b:Nat}(F:2<=b)(n:Nat):ofL b (bO b n)=n:=by
 induction n using Nat.strongRecOn with
 | _ n ih=>
   by_cases E:n=0
   . subst E;rw[fJ];rfl
   . rw[qL F E,ofL,ih (n/b) (Nat.div_lt_self (by omega) (by omega))]
     exact Nat.mod_add_div n b
theorem sU{b n:Nat}(E:2<=b):bO b n=[]↔n=0:=by
 constructor
 . intro h
   have:=fF E n;rw[h]at this;exact this.symm
 . rintro rfl;exact fJ b
theorem Im{b x m:Nat}(F:2<=b)(E:x<b)(h:x+b*m≠0):bO b (x+b*m)=x::bO b m:=by
 rw[qL F h,Nat.add_mul_mod_self_left,Nat.mod_eq_of_lt E,Nat.add_mul_div_left _ _ (by omega),Nat.div_eq_of_lt E,Nat.zero_add]
theorem GH{b:Nat}(F:2<=b):∀{l:List Nat},Lim b l->mX l=bO b (ofL b l)
 | [],_=>by rw[ofL,fJ];rfl
 | x::l,h=>by
   have ih:=GH F (l:=l) fun y O=>h y (by simp[O])
   have J:=h x (by simp);rw[mX,ih];by_cases h0:ofL b l=0
   . simp only[ofL,h0,fJ]
     by_cases E:x=0
     . subst E;simp[fJ]
     . rw[if_neg E,Im F J (by omega),fJ]
   . have I:bO b (ofL b l)≠[]:=fun e=>h0 ((sU F).1 e)
     rw[ofL,Im F J (by have:0<b*ofL b l:=Nat.mul_pos (by omega) (by omega);omega)];split
     . rename_i e;exact absurd e I
     . rename_i e;rw[e]
theorem MU{b:Nat}(E:2<=b){l:List Nat}{n:Nat}(h:Lim b l)(F:ofL b l=n):mX l=bO b n:=by rw[GH E h,F]
theorem lF{b:Nat}(F:2<=b){n k:Nat}(h:n<b^k):(bO b n).length<=k:=by
 induction k generalizing n with
 | zero => have : n = 0 := by simpa using h
           subst this;rw[fJ];exact Nat.le_refl _
 | succ k ih=>
   by_cases E:n=0
   . subst E;rw[fJ];exact Nat.zero_le _
   . rw[qL F E,List.length_cons]
     refine Nat.succ_le_succ (ih ?_);rw[Nat.div_lt_iff_lt_mul (by omega)]
     rwa [Nat.pow_succ]at h
theorem LJ{b:Nat}(E:2<=b){n k:Nat}(h:b^k<=n):k<(bO b n).length:=by
 have h1:=oW (b:=b) (by omega) (eV E n);rw[fF E]at h1;exact(Nat.pow_lt_pow_iff_right (by omega)).1 (Nat.lt_of_le_of_lt h h1)
theorem fO{b:Nat}(E:2<=b){m n:Nat}(h:m<=n):(bO b m).length<=(bO b n).length:=by
 refine lF E ?_;have h1:=oW (b:=b) (by omega) (eV E n);rw[fF E]at h1;omega
theorem Tj{b:Nat}(E:2<=b){n:Nat}(F:n≠0):b^((bO b n).length-1)<=n:=by
 induction n using Nat.strongRecOn with
 | _ n ih=>
   rw[qL E F,List.length_cons,Nat.add_sub_cancel];by_cases h0:n/b=0
   . rw[h0,fJ];simp;omega
   . have:=ih (n/b) (Nat.div_lt_self (by omega) (by omega)) h0
     have I:(bO b (n/b)).length=((bO b (n/b)).length-1)+1:=by
       have:bO b (n/b)≠[]:=fun e=>h0 ((sU E).1 e)
       have:=List.length_pos_iff.2 this;omega
     rw[I,Nat.pow_succ];exact Nat.le_trans (Nat.mul_le_mul_right b this) (Nat.div_mul_le_self n b)
theorem Jr{b:Nat}(O:0<b){l r:List Nat}(X:Lim b l)(hr:Lim b r)(I:l.length=r.length){k x y:Nat}(F:l[k]?=some x)(U:r[k]?=some y)(E:x<y)(hd:l.drop (k+1)=r.drop (k+1)):ofL b l<ofL b r:=by
 have hk:k<l.length:=(List.getElem?_eq_some_iff.1 F).1;have Z:l=l.take (k+1)++l.drop (k+1):=(List.take_append_drop _ _).symm;have Y:r=r.take (k+1)++r.drop (k+1):=(List.take_append_drop _ _).symm;rw[Z,Y,qI,qI,hd,lO b F,lO b U,List.length_take,List.length_take,Nat.min_eq_left (by omega),Nat.min_eq_left (by omega)];have h1:=oW O (l:=l.take k) fun z J=>X z (List.mem_of_mem_take J)
 rw[List.length_take,Nat.min_eq_left (by omega)]at h1;have V:b^k*(x+1)<=b^k*y:=Nat.mul_le_mul_left _ E;rw[Nat.mul_add]at V;omega
theorem Kz{b:Nat}(E:2<=b){m n:Nat}(h:(bO b m).length<(bO b n).length):m<n:=by
 rcases Nat.lt_or_ge m n with h1|h1
 . exact h1
 . have:=fO E h1;omega
theorem K4{α:Type}{p:List α->Prop}(h0:p [])(h1:∀l c,p l->p (l++[c]))(l:List α):p l:=by
 have:∀r:List α,p r.reverse:=fun r=>by
   induction r with
   | nil=>exact h0
   | cons c r ih=>rw[List.reverse_cons];exact h1 _ _ ih
 rw[<-List.reverse_reverse l];exact this _
def isD(c:UInt8):Bool:=decide (48<=c.toNat)&&decide (c.toNat<=57)
def iR(l:List UInt8):Nat:=l.foldl (fun a c=>10*a+(c.toNat-48)) 0
def fQ(l:List UInt8):Bool:=l != []&&(l.length == 1||l.getD 0 0 != 48)&&l.all isD
def dec(n:Nat):ByteArray:=⟨(decDigits n).toArray⟩
theorem wT(l:List UInt8)(c:UInt8):iR (l++[c])=10*iR l+(c.toNat-48):=by simp[iR]
theorem D1{α:Type}{l r:List α}{k:Nat}{d:α}(h:k<l.length):(l++r).getD k d=l.getD k d:=by
 simp only[List.getD,List.getElem?_append_left h]
theorem sS{d:Nat}(h:d<10):(UInt8.ofNat (48+d)).toNat=48+d:=by
 rw[UInt8.toNat_ofNat'];omega
theorem GK(n:Nat):iR (decDigits n)=n:=by
 induction n using Nat.strongRecOn with
 | _ n ih=>
   rw[decDigits];split
   . rename_i h
     simp only[iR,List.foldl_cons,List.foldl_nil,sS h];omega
   . rename_i h
     rw[wT,ih (n/10) (by omega),sS (by omega)];omega
theorem CU(n:Nat):(decDigits n).all isD=true:=by
 induction n using Nat.strongRecOn with
 | _ n ih=>
   rw[decDigits];split
   . rename_i h
     simp only[List.all_cons,List.all_nil,Bool.and_true,isD,sS h,Bool.and_eq_true,decide_eq_true_eq];omega
   . rename_i h
     rw[List.all_append,ih (n/10) (by omega)];simp only[List.all_cons,List.all_nil,Bool.and_true,Bool.true_and,isD,sS (show n%10<10 by omega),Bool.and_eq_true,decide_eq_true_eq];omega
theorem ST(n:Nat):decDigits n≠[]:=by
 rw[decDigits];split <;> simp
theorem uL(n:Nat):0<(decDigits n).length:=List.length_pos_iff.2 (ST n)
theorem Za{n:Nat}(h:n≠0):(decDigits n).getD 0 0≠48:=by
 induction n using Nat.strongRecOn with
 | _ n ih=>
   rw[decDigits];split
   . rename_i h1
     simp only[List.getD_cons_zero];intro e;have:=sS h1;rw[e]at this;simp at this;omega
   . rename_i h1
     have F:=ih (n/10) (by omega) (by omega);have E:=uL (n/10);rw[D1 E];exact F
theorem Nc{n:Nat}:(decDigits n).length=1↔n<10:=by
 rw[decDigits];split
 . simp_all
 . rename_i h
   have:=uL (n/10);simp only[List.length_append,List.length_cons,List.length_nil];omega
theorem XM(n:Nat):fQ (decDigits n)=true:=by
 unfold fQ;simp only[Bool.and_eq_true,bne_iff_ne,ne_eq,Bool.or_eq_true,beq_iff_eq];refine⟨⟨ST n,?_⟩,CU n⟩;by_cases h:n=0
 . left;rw[Nc];omega
 . right;exact Za h
theorem sL{c:UInt8}:isD c=true↔48<=c.toNat/\c.toNat<=57:=by simp[isD]
theorem YM{c:UInt8}(h:isD c=true):UInt8.ofNat (48+(c.toNat-48))=c:=by
 rw[sL]at h;rw[show 48+(c.toNat-48)=c.toNat by omega];exact UInt8.ofNat_toNat
theorem Yg:∀{l:List UInt8},l.all isD=true->l≠[]->l.getD 0 0≠48->10^(l.length-1)<=iR l:=by
 intro l;induction l using K4 with
 | h0=>intro _ h;exact absurd rfl h
 | h1 l c ih=>
   intro E _ h0;rw[List.all_append]at E;simp only[Bool.and_eq_true,List.all_cons,List.all_nil,Bool.and_true]at E;rw[wT];by_cases F:l=[]
   . subst F
     simp only[List.nil_append,List.getD_cons_zero]at h0;simp only[List.nil_append,List.length_cons,List.length_nil,Nat.zero_add,Nat.sub_self,Nat.pow_zero];have:=sL.1 E.2;have h1:c.toNat≠48:=fun e=>h0 (UInt8.toNat.inj e)
     omega
   . have I:=List.length_pos_iff.2 F
     rw[D1 I]at h0;have:=ih E.1 F h0;simp only[List.length_append,List.length_cons,List.length_nil,Nat.zero_add,Nat.add_sub_cancel];rw[show l.length=(l.length-1)+1 by omega,Nat.pow_succ];omega
theorem Me:∀{l:List UInt8},fQ l=true->decDigits (iR l)=l:=by
 intro l;induction l using K4 with
 | h0=>intro h;simp[fQ]at h
 | h1 l c ih=>
   intro h;unfold fQ at h;simp only[Bool.and_eq_true,bne_iff_ne,ne_eq,Bool.or_eq_true,beq_iff_eq,List.all_append,List.all_cons,List.all_nil,Bool.and_true]at h;obtain⟨⟨_,h1⟩,I,F⟩:=h;have V:=sL.1 F;by_cases E:l=[]
   . subst E
     rw[List.nil_append];rw[show iR [c]=c.toNat-48 by simp[iR],decDigits_one (by omega),YM F]
   . have O:=List.length_pos_iff.2 E
     have h0:l.getD 0 0≠48:=by
       rcases h1 with h1|h1
       . simp only[List.length_append,List.length_cons,List.length_nil]at h1;omega
       . rwa [D1 O]at h1
     have U:=Yg I E h0;have J:1<=iR l:=Nat.le_trans (Nat.one_le_pow _ _ (by omega)) U;rw[wT,decDigits,dif_neg (by omega)];rw[show(10*iR l+(c.toNat-48))/10=iR l by omega,show(10*iR l+(c.toNat-48))%10=c.toNat-48 by omega,YM F,ih];unfold fQ;simp only[Bool.and_eq_true,bne_iff_ne,ne_eq,Bool.or_eq_true,beq_iff_eq];exact⟨⟨E,.inr h0⟩,I⟩
theorem uB{n k:Nat}(I:1<=k):(decDigits n).length<=k↔n<10^k:=by
 rw[decDigits_length];constructor
 . intro h
   exact Nat.lt_of_lt_of_le (lt_pow_nDigits n) (Nat.pow_le_pow_right (by omega) h)
 . intro h
   by_cases h0:n<10
   . rw[nDigits_small h0];exact I
   . induction k generalizing n with
     | zero=>omega
     | succ k ih=>
       by_cases E:k=0
       . subst E;simp at h;omega
       . rw[nDigits_big h0]
         rw[Nat.pow_succ]at h;have:=Nat.succ_le_succ (show nDigits (n/10)<=k from by
           by_cases F:n/10<10
           . rw[nDigits_small F];omega
           . exact ih (by omega) (by omega) F)
         exact this
def bl(s:ByteArray):List UInt8:=s.data.toList
theorem mZ{a b:ByteArray}(h:bl a=bl b):a=b:=by
 cases a;cases b;simp only[bl]at h;rw[Array.toList_inj.1 h]
theorem gT(s:ByteArray):(bl s).length=s.size:=by unfold bl;rw[Array.length_toList];rfl
def eqB(a b:ByteArray):Bool:=bl a == bl b
theorem uX{a b:ByteArray}:eqB a b=true↔a=b:=by
 unfold eqB;rw[beq_iff_eq];exact⟨mZ,fun h=>by rw[h]⟩
theorem uA{a b:ByteArray}:eqB a b=false↔a≠b:=by rw[<-Bool.not_eq_true,uX]
theorem kR(l:List UInt8):bl ⟨l.toArray⟩=l:=by simp[bl]
theorem DM(a b:ByteArray):bl (a++b)=bl a++bl b:=by unfold bl;rw[ByteArray.data_append,Array.toList_append]
theorem axS(s:ByteArray):(⟨(bl s).toArray⟩:ByteArray)=s:=mZ (kR _)
def emp:ByteArray:=ByteArray.empty
theorem kE(s:ByteArray)(a b:Nat):bl (s.extract a b)=((bl s).take b).drop a:=by
 simp[bl,ByteArray.data_extract,Array.toList_extract,List.extract_eq_take_drop,List.drop_take]
def akF:Nat:=4096
def dZ:Nat:=10^akF
theorem SS{n k:Nat}(h:n<10^k)(E:k<=4096):n<dZ:=Nat.lt_of_lt_of_le h (Nat.pow_le_pow_right (show 0<10 by omega) (show k<=akF from E))
theorem afV:0<dZ:=Nat.pow_pos (show 0<10 by omega)
def gY(s:ByteArray):Bool:=fQ (bl s)
def gM(s:ByteArray):Nat:=iR (bl s)
theorem oD(n:Nat):bl (dec n)=decDigits n:=kR _
theorem tG(n:Nat):gY (dec n)=true:=by unfold gY;rw[oD];exact XM n
theorem dG(n:Nat):gM (dec n)=n:=by unfold gM;rw[oD];exact GK n
theorem mN{s:ByteArray}(h:gY s=true):dec (gM s)=s:=mZ (by rw[oD];exact Me h)
theorem HC(n:Nat):(dec n).size=(decDigits n).length:=by rw[<-gT,oD]
theorem jR(n:Nat):(dec n).size<=4096↔n<dZ:=by rw[HC];exact uB (k:=akF) (by decide)
theorem Ca{s:ByteArray}(h:gY s=true):s.size<=4096↔gM s<dZ:=by
 have:=jR (gM s)
 rwa [mN h]at this
theorem xY{m n:Nat}:dec m=dec n↔m=n:=⟨fun h=>by rw[<-dG m,h,dG],fun h=>by rw[h]⟩
def szN(n:Nat):ByteArray×Int:=if n<dZ then(dec n,0)else(emp,4)
def lA(a b:ByteArray):Int:=if(!gY a|| !gY b)=true then 3 else if(decide (a.size>4096)||decide (b.size>4096))=true then 4 else 0
def RH(a b:ByteArray):ByteArray×Int:=if lA a b=0 then szN (gM a+gM b)else(emp,lA a b)
def Rk(a b:ByteArray):ByteArray×Int:=if lA a b=0 then(if gM a<gM b then(emp,2)else szN (gM a-gM b))else(emp,lA a b)
def SO(a b:ByteArray):ByteArray×Int:=if lA a b=0 then szN (gM a*gM b)else(emp,lA a b)
def Oa(a b:ByteArray):ByteArray×ByteArray×Int:=if lA a b=0 then(if gM b=0 then(emp,emp,10)else(dec (gM a/gM b),dec (gM a%gM b),0))else(emp,emp,lA a b)
def Lr(a b:ByteArray):ByteArray×Int:=if lA a b=0 then szN (Nat.gcd (gM a) (gM b))else(emp,lA a b)
theorem Lg{a b:ByteArray}(E:gY a=true)(F:gY b=true)(I:a.size<=4096)(sb:b.size<=4096):lA a b=0:=by
 unfold lA;rw[E,F];simp;omega
theorem AW{m n:Nat}(F:m<dZ)(E:n<dZ):lA (dec m) (dec n)=0:=Lg (tG m) (tG n) ((jR m).2 F) ((jR n).2 E)
theorem wG{a b:ByteArray}(h:lA a b=0):∃m n,a=dec m/\b=dec n/\m<dZ/\n<dZ:=by
 unfold lA at h;split at h
 . cases h
 . rename_i h1
   split at h
   . cases h
   . rename_i E
     simp only[Bool.or_eq_true,Bool.not_eq_true',not_or,Bool.not_eq_false,decide_eq_true_eq,Nat.not_lt]at h1 E;exact⟨gM a,gM b,(mN h1.1).symm,(mN h1.2).symm,(Ca h1.1).1 E.1,(Ca h1.2).1 E.2⟩
theorem Dn{n:Nat}(h:n<dZ):szN n=(dec n,0):=if_pos h
def kH(s:ByteArray):Bool:=(bl s).head? == some 45
def fR(s:ByteArray):ByteArray:=if kH s=true then⟨((bl s).drop 1).toArray⟩else s
def gS(s:ByteArray):Bool:=gY (fR s)&& !(kH s&&eqB (fR s) (dec 0))
def kT(s:ByteArray):Int:=if kH s=true then -(gM (fR s):Int)else gM (fR s)
def zed(n:Int):ByteArray:=⟨(itoa n).toArray⟩
theorem gU(n:Nat):zed n=dec n:=by unfold zed;rw[itoa_nonneg];rfl
theorem CJ{n:Nat}(h:1<=n):zed (-(n:Int))=⟨((45:UInt8)::decDigits n).toArray⟩:=by unfold zed;rw[itoa_neg n h]
theorem CB(n:Nat):kH (dec n)=false:=by
 unfold kH;rw[oD];have h1:=CU n;have E:=ST n;cases h:decDigits n with
 | nil=>exact absurd h E
 | cons c r=>
   rw[h]at h1;simp only[List.all_cons,Bool.and_eq_true]at h1;have:=sL.1 h1.1;simp only[List.head?_cons,beq_eq_false_iff_ne,ne_eq,Option.some.injEq];intro e;rw[e]at this;simp at this
theorem OG(n:Nat):fR (dec n)=dec n:=by unfold fR;rw[CB];rfl
theorem GO(l:List UInt8):kH ⟨((45:UInt8)::l).toArray⟩=true:=by unfold kH;rw[kR];rfl
theorem XW(l:List UInt8):fR ⟨((45:UInt8)::l).toArray⟩=⟨l.toArray⟩:=by unfold fR;rw[GO,if_pos rfl,kR];rfl
theorem BQ(n:Int):kH (zed n)=decide (n<0):=by
 rcases Int.lt_or_le n 0 with h|h
 . obtain⟨m,rfl⟩:∃m:Nat,n= -(m:Int):=⟨n.natAbs,by omega⟩
   rw[CJ (by omega),GO];simp;omega
 . obtain⟨m,rfl⟩:∃m:Nat,n=m:=⟨n.toNat,by omega⟩
   rw[gU,CB];simp
theorem pL(n:Int):fR (zed n)=dec n.natAbs:=by
 rcases Int.lt_or_le n 0 with h|h
 . obtain⟨m,rfl⟩:∃m:Nat,n= -(m:Int):=⟨n.natAbs,by omega⟩
   rw[CJ (by omega),XW,Int.natAbs_neg,Int.natAbs_natCast];rfl
 . obtain⟨m,rfl⟩:∃m:Nat,n=m:=⟨n.toNat,by omega⟩
   rw[gU,OG,Int.natAbs_natCast]
theorem qS(n:Int):gS (zed n)=true:=by
 unfold gS;rw[pL,BQ,tG];simp only[Bool.true_and,Bool.not_eq_true',Bool.and_eq_false_iff,decide_eq_false_iff_not];by_cases h:n<0
 . right
   refine uA.2 fun e=>?_
   rw[xY]at e;omega
 . left;exact h
theorem dS(n:Int):kT (zed n)=n:=by
 unfold kT;rw[pL,BQ,dG];split
 . rename_i h;simp only[decide_eq_true_eq]at h;omega
 . rename_i h;simp only[decide_eq_true_eq]at h;omega
theorem Gl{s:ByteArray}(h:gS s=true):zed (kT s)=s:=by
 unfold gS at h;simp only[Bool.and_eq_true,Bool.not_eq_true',Bool.and_eq_false_iff]at h;obtain⟨h1,F⟩:=h;have I:=mN h1;unfold kT;by_cases E:kH s=true
 . have U : fR s ≠ dec 0 := by
     rcases F with F|F
     . rw[E]at F;cases F
     . exact uA.1 F
   rw[if_pos E];have V:1<=gM (fR s):=by
     rcases Nat.eq_zero_or_pos (gM (fR s))with J|J
     . exact absurd (by rw[<-I,J]) U
     . exact J
   rw[CJ V];refine mZ ?_;rw[kR,<-oD,I];unfold fR;rw[if_pos E,kR];unfold kH at E;cases O:bl s with
   | nil=>rw[O]at E;cases E
   | cons c r=>
     rw[O]at E;simp only[List.head?_cons,beq_iff_eq,Option.some.injEq]at E;subst E;rfl
 . rw[if_neg E,gU,I]
   unfold fR;rw[if_neg E]
theorem Y1{m n:Int}:zed m=zed n↔m=n:=⟨fun h=>by rw[<-dS m,h,dS],fun h=>by rw[h]⟩
def szZ(n:Int):ByteArray×Int:=if n.natAbs<dZ then(zed n,0)else(emp,4)
def pV(a b:ByteArray):Int:=if(!gS a|| !gS b)=true then 3 else if(decide ((fR a).size>4096)||decide ((fR b).size>4096))=true then 4 else 0
def XU(a b:ByteArray):ByteArray×Int:=if pV a b=0 then szZ (kT a+kT b)else(emp,pV a b)
def W0(a b:ByteArray):ByteArray×Int:=if pV a b=0 then szZ (kT a-kT b)else(emp,pV a b)
def AG(a b:ByteArray):ByteArray×Int:=if pV a b=0 then szZ (kT a*kT b)else(emp,pV a b)
def Fa(a b:ByteArray):ByteArray×ByteArray×Int:=if pV a b=0 then(if kT b=0 then(emp,emp,10)else(zed ((kT a).fdiv (kT b)),zed ((kT a).fmod (kT b)),0))else(emp,emp,pV a b)
def jY(a b:Int):Int:=if a<b then -1 else if b<a then 1 else 0
def aaQ(a b:ByteArray):Int:=if gS a=true/\gS b=true then jY (kT a) (kT b)else 0
def MZ(a:ByteArray):Int:=if gS a=true then(kT a).sign else 0
theorem wC{m n:Int}(F:m.natAbs<dZ)(E:n.natAbs<dZ):pV (zed m) (zed n)=0:=by
 unfold pV;rw[qS,qS,pL,pL];have:=(jR m.natAbs).2 F;have:=(jR n.natAbs).2 E;simp;omega
theorem A1{a b:ByteArray}(h:pV a b=0):∃m n:Int,a=zed m/\b=zed n/\m.natAbs<dZ/\n.natAbs<dZ:=by
 unfold pV at h;split at h
 . cases h
 . rename_i h1
   split at h
   . cases h
   . rename_i E
     simp only[Bool.or_eq_true,Bool.not_eq_true',not_or,Bool.not_eq_false,decide_eq_true_eq,Nat.not_lt]at h1 E;have I:=Gl h1.1;have F:=Gl h1.2;refine⟨kT a,kT b,I.symm,F.symm,?_,?_⟩
     . have:=E.1
       rw[<-I,pL]at this;exact(jR _).1 this
     . have:=E.2
       rw[<-F,pL]at this;exact(jR _).1 this
def fD:UInt8:=47
def mB(s:ByteArray):Bool:=(bl s).any (· == fD)
def kQ(s:ByteArray):ByteArray:=⟨((bl s).takeWhile (· != fD)).toArray⟩
def kG(s:ByteArray):ByteArray:=if mB s=true then⟨(((bl s).dropWhile (· != fD)).drop 1).toArray⟩else dec 1
def dI(s:ByteArray):Bool:=(gS (kQ s)&&gY (kG s)&&decide ((fR (kQ s)).size<=4096)&&decide ((kG s).size<=4096)) &&
 (!mB s||(!eqB (kG s) (dec 0)&& !eqB (kG s) (dec 1)&& !eqB (kQ s) (dec 0)&&Nat.gcd (kT (kQ s)).natAbs (gM (kG s)) == 1))
def rK(s:ByteArray):Rat:=mkRat (kT (kQ s)) (gM (kG s))
def slB:ByteArray:=⟨#[47]⟩
def xG(x:Rat):ByteArray:=if x.den=1 then zed x.num else zed x.num++slB++dec x.den
def DC(x:Rat):Prop:=x.num.natAbs<dZ/\x.den<dZ
theorem xZ{α:Type}{p:α->Bool}:∀{l:List α},(∀c∈l,p c=true)->l.takeWhile p=l
 | [],_=>rfl
 | a::l,h=>by rw[List.takeWhile_cons,if_pos (h a (by simp)),xZ fun c E=>h c (by simp[E])]
theorem DY{α:Type}{p:α->Bool}:∀{l:List α} {c:α},c∈l.takeWhile p->p c=true
 | [],c,h=>by simp at h
 | a::l,c,h=>by
   rw[List.takeWhile_cons]at h;split at h
   . rename_i E
     rcases List.mem_cons.1 h with rfl|h
     . exact E
     . exact DY h
   . cases h
theorem PN{c:UInt8}(h:isD c=true):(c != fD)=true:=by
 have:=sL.1 h;simp only[bne_iff_ne,ne_eq];intro e;rw[e]at this;simp[fD]at this
theorem EU(n:Nat):∀c∈decDigits n,(c != fD)=true:=fun c E=>PN (List.all_eq_true.1 (CU n) c E)
theorem sJ(n:Int):∀c∈itoa n,(c != fD)=true:=by
 intro c E;unfold itoa at E;split at E
 . rcases List.mem_cons.1 E with rfl|E
   . decide
   . exact EU _ c E
 . exact EU _ c E
theorem LL(n:Int):bl (zed n)=itoa n:=kR _
theorem amO:bl slB=[fD]:=rfl
theorem Xf{l r:List UInt8}(h:∀c∈l,(c != fD)=true):(l++fD::r).takeWhile (· != fD)=l:=by
 rw[List.takeWhile_append_of_pos h];simp
theorem XJ{l r:List UInt8}(h:∀c∈l,(c != fD)=true):(l++fD::r).dropWhile (· != fD)=fD::r:=by
 rw[List.dropWhile_append_of_pos h];simp
theorem pF{l:List UInt8}(h:∀c∈l,(c != fD)=true):l.any (· == fD)=false:=by
 rw[List.any_eq_false];intro c E e;have:=h c E;simp at this e;exact this e
theorem FA(x:Rat):bl (xG x)=if x.den=1 then itoa x.num else itoa x.num++fD::decDigits x.den:=by
 unfold xG;split
 . exact LL _
 . rw[DM,DM,LL,oD,amO];simp
theorem G6(x:Rat):mB (xG x)= !(x.den == 1):=by
 unfold mB;rw[FA];split
 . rename_i h;rw[pF (sJ _),h];rfl
 . rename_i h
   rw[List.any_append];simp[h]
theorem Kt(x:Rat):kQ (xG x)=zed x.num:=by
 refine mZ ?_;unfold kQ;rw[kR,FA,LL];split
 . exact xZ (sJ _)
 . exact Xf (sJ _)
theorem JF(x:Rat):kG (xG x)=dec x.den:=by
 unfold kG;rw[G6,FA];by_cases h:x.den=1
 . simp[h]
 . simp only[h,beq_eq_false_iff_ne.2 h,Bool.not_false,if_true,if_false]
   rw[XJ (sJ _)];rfl
theorem qX(x:Rat):rK (xG x)=x:=by
 unfold rK;rw[Kt,JF,dS,dG,Rat.mkRat_self]
theorem xH(n:Int):(fR (zed n)).size<=4096↔n.natAbs<dZ:=by rw[pL];exact jR _
theorem vD{x:Rat}(h:DC x):dI (xG x)=true:=by
 unfold dI;rw[Kt,JF,qS,tG,G6,dS,dG];simp only[Bool.true_and,Bool.and_eq_true,decide_eq_true_eq,Bool.or_eq_true,Bool.not_not,beq_iff_eq,Bool.not_eq_true',uA,ne_eq];refine⟨⟨(xH _).2 h.1,(jR _).2 h.2⟩,?_⟩;by_cases h1:x.den=1
 . exact .inl h1
 . refine .inr ⟨⟨⟨?_,?_⟩,?_⟩,x.reduced⟩
   . rw[xY];exact x.den_nz
   . rw[xY];exact h1
   . rw[<-gU,Y1]
     intro h0;apply h1;have:=x.reduced;rw[h0]at this;simpa[Nat.Coprime]using this
theorem kY{s:ByteArray}(h:dI s=true):∃x:Rat,s=xG x/\DC x/\kQ s=zed x.num/\kG s=dec x.den:=by
 unfold dI at h;simp only[Bool.and_eq_true,decide_eq_true_eq,Bool.or_eq_true,Bool.not_eq_true',uA,ne_eq,beq_iff_eq]at h;obtain⟨⟨⟨⟨h1,h2⟩,h3⟩,h4⟩,I⟩:=h;have ep:=Gl h1;have eq:=mN h2;have F:(kT (kQ s)).natAbs.Coprime (gM (kG s))/\gM (kG s)≠0:=by
   rcases I with I|⟨⟨⟨Y,_⟩,_⟩,h7⟩
   . have U:kG s=dec 1:=by unfold kG;rw[if_neg (by rw[I];simp)]
     rw[U,dG];exact⟨Nat.coprime_one_right _,by omega⟩
   . exact⟨h7,fun e=>Y (by rw[<-eq,e])⟩
 let x:Rat:=⟨kT (kQ s),gM (kG s),F.2,F.1⟩
 have U:kQ s=zed x.num:=ep.symm;have O:kG s=dec x.den:=eq.symm;refine⟨x,mZ ?_,⟨?_,?_⟩,U,O⟩
 . rw[FA]
   have X:bl (kQ s)=(bl s).takeWhile (· != fD):=kR _;rw[U,LL]at X;by_cases E:mB s=true
   . have hd:bl (kG s)=((bl s).dropWhile (· != fD)).drop 1:=by unfold kG;rw[if_pos E,kR]
     rw[O,oD]at hd;have Z:x.den≠1:=fun e=>by
       rcases I with I|⟨⟨⟨_,Y⟩,_⟩,_⟩
       . rw[E]at I;cases I
       . exact Y (by rw[O,e])
     rw[if_neg Z,X,hd]
     conv=>lhs;rw[<-List.takeWhile_append_dropWhile (p:=(· != fD)) (l:=bl s)]
     congr 1
     cases hw:(bl s).dropWhile (· != fD)with
     | nil=>
       exfalso
       unfold mB at E;obtain⟨c,V,J⟩:=List.any_eq_true.1 E;rw[<-List.takeWhile_append_dropWhile (p:=(· != fD)) (l:=bl s),hw,List.append_nil]at V;have:=DY V;simp at this J;exact this J
     | cons c r=>
       have h0:(c != fD)=false:=by
         have:=List.head?_dropWhile_not (p:=(· != fD)) (l:=bl s);rw[hw]at this;simpa using this
       have:c=fD:=by simpa using h0
       rw[this];rfl
   . have E:mB s=false:=by simpa using E
     have Z:x.den=1:=by
       have:kG s=dec 1:=by unfold kG;rw[E];rfl
       rw[O]at this;exact xY.1 this
     rw[if_pos Z,X]
     symm
     refine xZ ?_;intro c V;unfold mB at E;rw[List.any_eq_false]at E;have:=E c V;simp at this |-;exact this
 . rw[U]at h3;exact(xH _).1 h3
 . rw[O]at h4;exact(jR _).1 h4
def pJ(n:Int):Bool:= !decide (n.natAbs<dZ)
def zY(x y:Rat):ByteArray×Int:=if(pJ (x.num*y.den)||pJ (y.num*x.den)||pJ (x.num*y.den+y.num*x.den)||pJ (x.den*y.den))=true then(emp,4)else(xG (x+y),0)
def BZ(a b:ByteArray):ByteArray×Int:=if(dI a&&dI b)=true then zY (rK a) (rK b)else(emp,3)
def LG(a b:ByteArray):ByteArray×Int:=if(dI a&&dI b)=true then zY (rK a) (-rK b)else(emp,3)
def PK(x y:Rat):ByteArray×Int:=if(pJ (x.num*y.num)||pJ (x.den*y.den))=true then(emp,4)else(xG (x*y),0)
def BU(a b:ByteArray):ByteArray×Int:=if(dI a&&dI b)=true then PK (rK a) (rK b)else(emp,3)
def Qz(x y:Rat):Int:=if x<y then -1 else if y<x then 1 else 0
def IN(a b:ByteArray):Int:=if(dI a&&dI b)=true then Qz (rK a) (rK b)else 0
def Kw(a:ByteArray):Int:=if dI a=true then(rK a).num.sign else 0
theorem aeR{n:Int}{d:Nat}(E:d≠0):n.fdiv (Nat.gcd n.natAbs d:Nat)=(mkRat n d).num:=by
 rw[Rat.num_mkRat,if_neg E,Nat.gcd_comm];exact Int.fdiv_eq_ediv_of_nonneg _ (by omega)
theorem ajO{n:Int}{d:Nat}(E:d≠0):(d:Int).fdiv (Nat.gcd n.natAbs d:Nat)=((mkRat n d).den:Int):=by
 rw[Rat.den_mkRat,if_neg E,Nat.gcd_comm,Int.fdiv_eq_ediv_of_nonneg _ (by omega)];rfl
theorem Ip{n:Int}{d:Nat}(F:d≠0)(I:n.natAbs<dZ)(E:d<dZ):DC (mkRat n d):=by
 constructor
 . rw[Rat.num_mkRat,if_neg F]
   have:(n/((d.gcd n.natAbs:Nat):Int)).natAbs<=n.natAbs:=by
     rw[Int.natAbs_ediv_of_dvd]
     . exact Nat.div_le_self _ _
     . exact Int.ofNat_dvd_left.2 (Nat.gcd_dvd_right _ _)
   omega
 . rw[Rat.den_mkRat,if_neg F]
   exact Nat.lt_of_le_of_lt (Nat.div_le_self _ _) E
theorem aiM{n:Int}{d:Nat}(E:d≠0):0<Nat.gcd n.natAbs d:=Nat.gcd_pos_of_pos_right _ (by omega)
theorem Wl{n:Int}{d:Nat}(E:d≠0)(h:d<dZ):Nat.gcd n.natAbs d<dZ:=Nat.lt_of_le_of_lt (Nat.gcd_le_right _ (by omega)) h
theorem nM{n:Int}:pJ n=false↔n.natAbs<dZ:=by simp[pJ]
theorem TT(x y:Rat):x+y=mkRat (x.num*y.den+y.num*x.den) (x.den*y.den):=Rat.add_def' x y
theorem ZL(x y:Rat):x*y=mkRat (x.num*y.num) (x.den*y.den):=Rat.mul_def' x y
theorem Fx(x y:Rat):((x.den:Int)*y.den).natAbs=x.den*y.den:=by rw[Int.natAbs_mul,Int.natAbs_natCast,Int.natAbs_natCast]
theorem MP(x y:Rat):x.den*y.den≠0:=Nat.mul_ne_zero x.den_nz y.den_nz
theorem FY{x y:Rat}(h:(zY x y).2=0):zY x y=(xG (x+y),0)/\DC (x+y):=by
 unfold zY at h |-;split at h
 . cases h
 . rename_i E
   rw[if_neg E];simp only[Bool.or_eq_true,not_or,Bool.not_eq_true,nM]at E;exact⟨rfl,by rw[TT];exact Ip (MP x y) E.1.2 (by rw[<-Fx];exact E.2)⟩
theorem MX{x y:Rat}(h:(PK x y).2=0):PK x y=(xG (x*y),0)/\DC (x*y):=by
 unfold PK at h |-;split at h
 . cases h
 . rename_i E
   rw[if_neg E];simp only[Bool.or_eq_true,not_or,Bool.not_eq_true,nM]at E;exact⟨rfl,by rw[ZL];exact Ip (MP x y) E.1 (by rw[<-Fx];exact E.2)⟩
def Ix(p q r s:Int):Int:=jY (p*s) (r*q)
theorem tF{p q:Int}(E:0<q):p=p.fdiv q*q+p.fmod q/\0<=p.fmod q/\p.fmod q<q:=
 ⟨by rw[Int.mul_comm];exact(Int.mul_fdiv_add_fmod p q).symm,Int.fmod_nonneg_of_pos _ E,Int.fmod_lt_of_pos _ E⟩
theorem kL{a b:Int}(h:a<b):jY a b= -1:=if_pos h
theorem kK{a b:Int}(h:b<a):jY a b=1:=by unfold jY;rw[if_neg (by omega),if_pos h]
theorem uM{a b:Int}(h:a=b):jY a b=0:=by unfold jY;rw[if_neg (by omega),if_neg (by omega)]
theorem Ko{a b:Int}:jY a b=0↔a=b:=by
 unfold jY;constructor
 . intro h
   split at h
   . cases h
   . split at h
     . cases h
     . omega
 . intro h;rw[if_neg (by omega),if_neg (by omega)]
theorem Wi(a b:Int):jY b a= -jY a b:=by
 rcases Int.lt_trichotomy a b with h|h|h
 . rw[kL h,kK h];rfl
 . rw[uM h,uM h.symm];rfl
 . rw[kK h,kL h]
theorem Ob{p q r s:Int}(F:0<q)(E:0<s)(h:p.fdiv q<r.fdiv s):p*s<r*q:=by
 obtain⟨V,a1,J⟩:=tF (p:=p) F;obtain⟨O,a2,U⟩:=tF (p:=r) E;have h1:p*s<(p.fdiv q+1)*q*s:=by
   refine Int.mul_lt_mul_of_pos_right ?_ E;rw[Int.add_mul];omega
 have I:(p.fdiv q+1)*q*s<=r.fdiv s*q*s:=Int.mul_le_mul_of_nonneg_right (Int.mul_le_mul_of_nonneg_right (by omega) (by omega)) (by omega);have X:r.fdiv s*q*s<=r*q:=by
   rw[Int.mul_right_comm];exact Int.mul_le_mul_of_nonneg_right (by omega) (by omega)
 omega
theorem Tq{p q r s:Int}(E:0<q)(F:0<s)(h:p.fdiv q≠r.fdiv s):Ix p q r s=jY (p.fdiv q) (r.fdiv s):=by
 unfold Ix;rcases Int.lt_or_gt_of_ne h with h|h
 . rw[kL h,kL (Ob E F h)]
 . rw[kK h,kK (Ob F E h)]
theorem W6{p q r s:Int}(F:0<q)(J:0<s)(h:p.fdiv q=r.fdiv s):Ix p q r s=jY (p.fmod q*s) (r.fmod s*q):=by
 obtain⟨U,_,_⟩:=tF (p:=p) F;obtain⟨I,_,_⟩:=tF (p:=r) J;unfold Ix;have h1:p*s=p.fdiv q*q*s+p.fmod q*s:=by
   conv=>lhs;rw[U]
   rw[Int.add_mul]
 have E:r*q=p.fdiv q*q*s+r.fmod s*q:=by
   conv=>lhs;rw[I]
   rw[Int.add_mul,<-h,Int.mul_right_comm]
 rw[h1,E];unfold jY;have V:(p.fdiv q*q*s+p.fmod q*s<p.fdiv q*q*s+r.fmod s*q)↔p.fmod q*s<r.fmod s*q:=by omega
 have O:(p.fdiv q*q*s+r.fmod s*q<p.fdiv q*q*s+p.fmod q*s)↔r.fmod s*q<p.fmod q*s:=by omega
 simp only[V,O]
theorem Xu(x q y s:Int):jY (x*s) (y*q)= -Ix q x s y:=by
 unfold Ix;rw[Int.mul_comm q y,Int.mul_comm s x];exact Wi _ _
theorem Yk(x y:Rat):Qz x y=Ix x.num x.den y.num y.den:=by
 unfold Qz Ix jY;simp only[Rat.lt_iff]
theorem abO(n:Int):n.sign=jY n 0:=by
 rcases Int.lt_trichotomy n 0 with h|h|h
 . rw[kL h,Int.sign_eq_neg_one_of_neg h]
 . subst h;rfl
 . rw[kK h,Int.sign_eq_one_of_pos h]
theorem V7(x:Rat):Qz x 0=x.num.sign:=by
 rw[Yk,abO];unfold Ix;simp
theorem A8(b:Nat)(l:List Nat)(k:Nat):ofL b (l.take (k+1))=ofL b (l.take k)+b^k*l.getD k 0:=by
 cases h:l[k]? with
 | none=>
   have E:=List.getElem?_eq_none_iff.1 h;rw[List.take_of_length_le (by omega),List.take_of_length_le (by omega)];simp[List.getD,h]
 | some x=>rw[lO b h];simp[List.getD,h]
theorem Lim.getD{b:Nat}(F:0<b){l:List Nat}(h:Lim b l)(k:Nat):l.getD k 0<b:=by
 cases E:l[k]? with
 | none=>simpa[List.getD,E]using F
 | some x=>simpa[List.getD,E]using h x (List.mem_of_getElem? E)
theorem Lim.snoc{b:Nat}{l:List Nat}(h:Lim b l){x:Nat}(F:x<b):Lim b (l++[x]):=fun y E=>by
 rcases List.mem_append.1 E with E|E
 . exact h y E
 . rw[List.mem_singleton.1 E];exact F
theorem Lim.set{b:Nat}{l:List Nat}(h:Lim b l){x k:Nat}(F:x<b):Lim b (l.set k x):=fun y E=>by
 rcases List.mem_or_eq_of_mem_set E with E|rfl
 . exact h y E
 . exact F
theorem Lim.take{b:Nat}{l:List Nat}(h:Lim b l)(k:Nat):Lim b (l.take k):=fun y E=>h y (List.mem_of_mem_take E)
theorem Lim.drop{b:Nat}{l:List Nat}(h:Lim b l)(k:Nat):Lim b (l.drop k):=fun y E=>h y (List.mem_of_mem_drop E)
theorem Lim.zeros{b:Nat}(E:0<b)(n:Nat):Lim b (List.replicate n 0):=fun y F=>by
 rw[(List.mem_replicate.1 F).2];exact E
theorem Az(b:Nat){l:List Nat}{k x:Nat}(h:l[k]?=some x):ofL b (l.drop k)=x+b*ofL b (l.drop (k+1)):=by
 obtain⟨F,E⟩:=List.getElem?_eq_some_iff.1 h;rw[List.drop_eq_getElem_cons F,E,ofL]
theorem QV{b:Nat}(I:0<b){l o:List Nat}{i n k c:Nat}(E:l[i]?=some n)(F:o.length=i)(h:ofL b o+b^i*c=ofL b (l.take i)*k):
   ofL b (o++[(n*k+c)%b])+b^(i+1)*((n*k+c)/b)=ofL b (l.take (i+1))*k:=by
 rw[tL,lO b E,F,Nat.pow_succ];have e:=Nat.mod_add_div (n*k+c) b;have J:b^i*((n*k+c)%b+b*((n*k+c)/b))=b^i*(n*k+c):=by rw[e]
 grind
theorem Yb{b:Nat}(F:0<b){x y o:List Nat}{i c:Nat}(E:o.length=i)(h:ofL b o+b^i*c=ofL b (x.take i)+ofL b (y.take i)):
   ofL b (o++[(x.getD i 0+y.getD i 0+c)%b])+b^(i+1)*((x.getD i 0+y.getD i 0+c)/b)=ofL b (x.take (i+1))+ofL b (y.take (i+1)):=by
 rw[tL,A8,A8,E,Nat.pow_succ];have e:=Nat.mod_add_div (x.getD i 0+y.getD i 0+c) b;have I:b^i*((x.getD i 0+y.getD i 0+c)%b+b*((x.getD i 0+y.getD i 0+c)/b))=b^i*(x.getD i 0+y.getD i 0+c):=by rw[e]
 grind
theorem Qw{b:Nat}{x y o:List Nat}{i c c' d:Nat}(E:o.length=i)(h:ofL b o+ofL b (y.take i)=ofL b (x.take i)+b^i*c)(F:d+y.getD i 0+c=x.getD i 0+b*c'):
   ofL b (o++[d])+ofL b (y.take (i+1))=ofL b (x.take (i+1))+b^(i+1)*c':=by
 rw[tL,A8,A8,E,Nat.pow_succ];have I:b^i*(d+y.getD i 0+c)=b^i*(x.getD i 0+b*c'):=by rw[F]
 grind
theorem NS{b x y c:Nat}(F:x<b)(I:y<b)(E:c<=1):(if(x:Int)-y-c<0 then(x:Int)-y-c+b else(x:Int)-y-c)=((if x<y+c then x+b-(y+c)else x-(y+c):Nat):Int):=by
 split <;> split <;> omega
theorem KY{b x y c:Nat}(F:x<b)(I:y<b)(E:c<=1):(if x<y+c then x+b-(y+c)else x-(y+c))+y+c=x+b*(if x<y+c then 1 else 0)/\(if x<y+c then x+b-(y+c)else x-(y+c))<b:=by
 split <;> constructor <;> omega
theorem V6{b:Nat}(U:2<=b){x y o:List Nat}{c:Nat}(J:Lim b o)(X:Lim b x)(I:o.length=x.length)(F:y.length<=x.length)(O:ofL b y<=ofL b x)(V:c<=1)(h:ofL b o+ofL b (y.take x.length)=ofL b (x.take x.length)+b^x.length*c):
   c=0/\ofL b o=ofL b x-ofL b y:=by
 rw[List.take_of_length_le F,List.take_length]at h;have h1:=oW (by omega) J;rw[I]at h1;rcases Nat.eq_zero_or_pos c with E|E
 . subst E;rw[Nat.mul_zero]at h;omega
 . have:c=1:=by omega
   subst this;rw[Nat.mul_one]at h;omega
theorem Z7{b:Nat}(O:0<b){y out E:List Nat}{i k x c v F:Nat}(J:out[i+k]?=some v)(I:y[k]?=some F)(h:ofL b out+b^(i+k)*c=ofL b E+b^i*(x*ofL b (y.take k))):
   ofL b (out.set (i+k) ((v+x*F+c)%b))+b^(i+(k+1))*((v+x*F+c)/b)=ofL b E+b^i*(x*ofL b (y.take (k+1))):=by
 have h1:=L6 b out (i+k) v ((v+x*F+c)%b) J;have e:=Nat.mod_add_div (v+x*F+c) b;have V:b^(i+k)*((v+x*F+c)%b+b*((v+x*F+c)/b))=b^(i+k)*(v+x*F+c):=by rw[e]
 rw[lO b I,show i+(k+1)=(i+k)+1 by omega,Nat.pow_succ];have U:b^(i+k)=b^i*b^k:=Nat.pow_add b i k
 grind
theorem aeJ{b:Nat}{y out E:List Nat}{i x c:Nat}(F:out[i+y.length]?=some 0)(h:ofL b out+b^(i+y.length)*c=ofL b E+b^i*(x*ofL b (y.take y.length))):
   ofL b (out.set (i+y.length) c)=ofL b E+b^i*(x*ofL b y):=by
 have h1:=L6 b out (i+y.length) 0 c F;rw[List.take_length]at h;rw[<-h];omega
theorem Zl{b r a:Nat}(X:2<=b){l:List Nat}{i x:Nat}{E:List Nat}(V:l[i]?=some x)(O:x<b)(U:r<a)(J:i<E.length)(h:ofL b (l.drop (i+1))=ofL b (E.drop (i+1))*a+r):
   ofL b (l.drop i)=ofL b ((E.set i ((x+b*r)/a)).drop i)*a+(x+b*r)%a/\(x+b*r)/a<b/\(x+b*r)%a<a:=by
 have F:0<a:=by omega
 have I:(E.set i ((x+b*r)/a))[i]?=some ((x+b*r)/a):=by simp[J]
 refine⟨?_,?_,Nat.mod_lt _ F⟩
 . rw[Az b V,Az b I,h,List.drop_set_of_lt (by omega)]
   have e:=Nat.mod_add_div (x+b*r) a
   grind
 . rw[Nat.div_lt_iff_lt_mul F]
   have:b*(r+1)<=b*a:=Nat.mul_le_mul_left _ U;rw[Nat.mul_add]at this;omega
theorem ajI{q r a n:Nat}(E:r<a)(h:n=q*a+r):q=n/a/\r=n%a:=by
 subst h;have F:0<a:=by omega
 constructor
 . rw[Nat.add_comm,Nat.add_mul_div_right _ _ F,Nat.div_eq_of_lt E,Nat.zero_add]
 . rw[Nat.add_comm,Nat.add_mul_mod_self_right,Nat.mod_eq_of_lt E]
theorem aaP(l:List UInt8):∀a:Nat,l.foldl (fun a c=>10*a+(c.toNat-48)) a=a*10^l.length+iR l:=by
 induction l with
 | nil=>intro a;simp[iR]
 | cons c l ih=>
   intro a;have h1:=ih (10*a+(c.toNat-48));have E:=ih (10*0+(c.toNat-48));simp only[List.foldl_cons,iR]at h1 E |-;rw[h1,E,List.length_cons,Nat.pow_succ]
   grind
theorem AU(a b:List UInt8):iR (a++b)=iR a*10^b.length+iR b:=by
 rw[iR,List.foldl_append];exact aaP b _
theorem Ft{l:List UInt8}(h:l.all isD=true):iR l<10^l.length:=by
 induction l using K4 with
 | h0=>simp[iR]
 | h1 l c ih=>
   rw[List.all_append]at h;simp only[Bool.and_eq_true,List.all_cons,List.all_nil,Bool.and_true]at h;have:=ih h.1;have E:=sL.1 h.2;rw[wT,List.length_append,List.length_cons,List.length_nil,Nat.pow_succ];omega
def Ql:Nat->Nat->List UInt8
 | 0,_=>[]
 | k+1,x=>Ql k (x/10)++[UInt8.ofNat (48+x%10)]
theorem JQ:∀(k x m:Nat),x<10^k->m≠0->decDigits (x+10^k*m)=decDigits m++Ql k x
 | 0,x,m,hx,hm=>by
   have:x=0:=by simpa using hx
   subst this;simp[Ql]
 | k+1,x,m,hx,hm=>by
   rw[Nat.pow_succ]at hx;have h1:10^(k+1)*m=10*(10^k*m):=by rw[Nat.pow_succ,Nat.mul_comm (10^k) 10,Nat.mul_assoc]
   have E:0<10^k*m:=Nat.mul_pos (Nat.pow_pos (by omega)) (by omega);rw[h1,decDigits,dif_neg (by omega),show(x+10*(10^k*m))/10=x/10+10^k*m by omega,show(x+10*(10^k*m))%10=x%10 by omega,JQ k (x/10) m (by omega) hm,Ql,List.append_assoc]
theorem Wy(k:Nat):Ql k 0=List.replicate k 48:=by
 induction k with
 | zero=>rfl
 | succ k ih=>
   rw[Ql,Nat.zero_div,ih,List.replicate_succ'];rfl
theorem Vd:∀(k x:Nat),1<=k->x<10^k->Ql k x=List.replicate (k-(decDigits x).length) 48++decDigits x
 | 0,x,hk,hx=>by omega
 | k+1,x,hk,hx=>by
   rw[Ql];by_cases E:x<10
   . rw[show x/10=0 by omega,Wy,decDigits_one E]
     simp[Nat.mod_eq_of_lt E]
   . have F : 1 <= k := by
       rcases Nat.eq_zero_or_pos k with h|h
       . subst h;simp at hx;omega
       . exact h
     rw[Nat.pow_succ]at hx;rw[Vd k (x/10) F (by omega)]
     conv=>rhs;rw[decDigits,dif_neg E]
     rw[List.length_append,List.length_cons,List.length_nil,List.append_assoc,show k+1-((decDigits (x/10)).length+(0+1))=k-(decDigits (x/10)).length by omega]
def aAk(x:Nat):List UInt8:=List.replicate (9-(decDigits x).length) 48++decDigits x
theorem acD{x m:Nat}(E:x<1000000000)(F:m≠0):decDigits (x+1000000000*m)=decDigits m++aAk x:=by
 have:=JQ 9 x m E F;rw[Vd 9 x (by omega) E]at this;exact this
theorem X5{b:Nat}(E:2<=b){n k:Nat}(I:k<(bO b n).length):ofL b ((bO b n).drop k)≠0:=by
 intro h;have J:n≠0:=fun e=>by subst e;rw[fJ]at I;simp at I
 have h1:=Tj E J;have F:ofL b (bO b n)=ofL b ((bO b n).take k)+b^k*ofL b ((bO b n).drop k):=by
   have:=qI b ((bO b n).take k) ((bO b n).drop k);rw[List.take_append_drop,List.length_take,Nat.min_eq_left (by omega)]at this;exact this
 rw[fF E,h,Nat.mul_zero,Nat.add_zero]at F;have O:=oW (b:=b) (by omega) ((eV E n).take k);rw[List.length_take,Nat.min_eq_left (by omega),<-F]at O;have:b^k<=b^((bO b n).length-1):=Nat.pow_le_pow_right (by omega) (by omega);omega
def dl(l:List UInt8):List Nat:=(l.map fun c=>c.toNat-48).reverse
def txt(l:List Nat):List UInt8:=(l.map fun x=>UInt8.ofNat (48+x)).reverse
theorem Xs{n:Nat}(E:n≠0):txt (bO 10 n)=decDigits n:=by
 induction n using Nat.strongRecOn with
 | _ n ih=>
   rw[qL (by omega) E,decDigits];simp only[txt,List.map_cons,List.reverse_cons];split
   . rename_i h
     rw[show n/10=0 by omega,fJ,Nat.mod_eq_of_lt h];rfl
   . rename_i h
     rw[<-ih (n/10) (by omega) (by omega)];rfl
end Go.Nu
end
section
namespace Go.Proofs.YtohmomanmikphaaGreatDoor.Nu
open Go.Proofs.Tryz(prog)
open Go.Aw Go.Aw.D Go.Proofs Ty Go.Nu
abbrev bas:Nat:=1000000000
def jK(n:Nat):List AV:=[int n]
theorem NA(n:Nat):(jK n).length=1:=(rfl)
theorem apW(n:Nat):(jK n).getD 0 .any=int n:=(rfl)
attribute [go_sem] NA apW
theorem cI{H:aK}{k:IntKind}{a b:Int}(h:a=b):Conv H (.v (.int k a)) (.v (.int k b)):=h▸.refl _
theorem cB{H:aK}{a b:Bool}(h:a=b):Conv H (.v (.bool a)) (.v (.bool b)):=h▸.refl _
theorem cS{H:aK}{a b:ByteArray}(h:a=b):Conv H (.v (.string a)) (.v (.string b)):=h▸.refl _
theorem ltB{k n:Nat}(h:decide ((k:Int)<(n:Int))=true):k<n:=by simpa using h
theorem geB{k n:Nat}(E:k<=n)(h:decide ((k:Int)<(n:Int))=false):k=n:=by
 have:¬k<n:=by simpa using h
 omega
theorem avW(s:ByteArray):s.toList=bl s:=ByteArray.toList_eq s
theorem allN(l:List Nat):cZ 1 (l.map jK):=yQ NA l
theorem atZ(s:ByteArray)(k:Nat):s.data.getD k 0=(bl s).getD k 0:=by simp[bl,Array.getD_eq_getD_getElem?,List.getD]
theorem amZ(a:Array UInt8):bl ⟨a⟩=a.toList:=rfl
attribute [go_sem] avW atZ amZ
theorem amW{α:Type}{q:α->Bool}{l:List α}{k:Nat}{c:α}(h:l[k]?=some c)(E:q c=false):l.all q=false:=by
 cases F:l.all q with
 | false=>rfl
 | true=>
   have:=Xaj.1 F c (Xac h);rw[E]at this;cases this
theorem afX{α:Type}{q:α->Bool}{l:List α}(h:∀c∈l,q c=true):l.all q=true:=Xaj.2 h
theorem sW{α:Type}{p:α->Prop}{l:List α}{k:Nat}{x:α}(F:l[k]?=some x)(I:p x)(h:∀x∈l.take k,p x):∀x∈l.take (k+1),p x:=by
 rw[bQ F];intro y E;rcases Xau.1 E with E|E
 . exact h y E
 . rw[Xbf.1 E];exact I
theorem avI{c:UInt8}{n:Nat}(E:n<256):(((c.toNat:Int) == (n:Int))=true)↔c=UInt8.ofNat n:=by
 rw[Xba];constructor
 . intro h
   have:c.toNat=n:=by omega
   rw[<-this,UInt8.ofNat_toNat]
 . intro h
   rw[h,UInt8.toNat_ofNat'];omega
theorem QI(l:List UInt8):(l == []||(((l.getD 0 0).toNat:Int) == 48&& !(l == [48])))= !(l != []&&(l.length == 1||l.getD 0 0 != 48)):=by
 cases l with
 | nil=>rfl
 | cons c r=>
   have E:(((c.toNat:Int) == 48)=true)↔c=48:=avI (n:=48) (by omega);by_cases h:c=48
   . subst h
     cases r <;> rfl
   . have h1 : ((c.toNat : Int) == 48) = false := by
       rw[<-Xcd,E];exact h
     simp[h1,h]
theorem aeQ(c:UInt8):(decide ((c.toNat:Int)<48)||decide ((c.toNat:Int)>57))= !isD c:=by
 unfold isD;rw[Xas];simp only[Xbq,decide_eq_true_eq,Xbb,Xcm,decide_eq_false_iff_not];omega
theorem u8w{n:Nat}(h:48<=n)(E:n<256):IntKind.u8.wrap ((n:Int)-48)=((n-48:Nat):Int):=by
 have e:IntKind.u8.wrap ((n:Int)-48)=((n:Int)-48)%256:=rfl;rw[e];omega
theorem Vh{l:List UInt8}{k:Nat}{c:UInt8}(h:l[k]?=some c):l.getD k 0=c:=by simp[List.getD,h]
theorem C4(s:ByteArray)(h:s.size<=4611686018427387904):PC prog 110 [str s] (boo (gY s)):=by
 have Y:=gT s;refine pcd Tryz.func110 ?_;unfold Tryz.f110;simp only[gdS];simp only[go_sem];refine⟨fun h0=>⟨by omega,?_⟩,?_⟩
 . have:bl s≠[]:=by simpa using h0
   have:=List.length_pos_iff.2 this;omega
 rw[QI];refine aB (fun U=>?_) (fun U=>?_)
 . simp only[go_sem]
   refine cB ?_;unfold gY fQ;rw[Xbb]at U;rw[U];rfl
 rw[Xcg]at U;simp only[go_sem];refine⟨fun ρ _=>∃k:Nat,k<=(bl s).length/\ρ 0=str s/\ρ 16=int s.size/\ρ 17=int k/\∀c∈(bl s).take k,isD c=true,fun ρ _=>(bl s).length-aV (ρ 17),⟨0,Xab _,rfl,rfl,rfl,by simp⟩,?_⟩;rintro ρ H ⟨k,Z,h0,O,J,V⟩;simp only[go_sem,h0,O,J];refine aB (fun F=>?_) (fun E=>?_)
 . have F:k<(bl s).length:=by have:=ltB F;omega
   obtain⟨c,X⟩:=aN F;have hi:=Vh X;simp only[go_sem,h0,O,J,hi,aeQ];refine⟨⟨by omega,by omega⟩,fun _=>⟨by omega,by omega⟩,aB (fun I=>?_) (fun I=>?_)⟩
   . simp only[go_sem]
     refine cB ?_;unfold gY fQ;rw[amW X (by simpa using I),Bool.and_false]
   . simp only[go_sem,h0,O,J,aT (show k<=4611686018427387904 by omega)]
     exact⟨⟨k+1,F,rfl,sW X (by simpa using I) V⟩,by simp only[aE];omega⟩
 . have E:k=(bl s).length:=by rw[<-Y]at E;exact geB Z E
   subst E;rw[Xag]at V;simp only[go_sem];refine cB ?_;unfold gY fQ;rw[U,afX V];rfl
theorem xF:∀(l:List Nat) (x:Nat),mX (l++[x])=if x=0 then mX l else l++[x]
 | [],x=>by simp only[Xbr,mX]
 | y::l,x=>by
   rw[List.cons_append,mX,xF l x];by_cases h:x=0
   . rw[if_pos h,if_pos h,mX]
   . rw[if_neg h,if_neg h]
     cases l <;> rfl
theorem amX(l:List Nat)(h:l.length<=4611686018427387904):PC prog 235 [.sl (l.map jK)] (.sl ((mX l).map jK)):=by
 refine pcd Tryz.func235 ?_;unfold Tryz.f235;simp only[gdS];simp only[go_sem];refine⟨fun ρ _=>∃k:Nat,k<=l.length/\ρ 0=.sl ((l.take k).map jK)/\mX (l.take k)=mX l,fun ρ _=>match ρ 0 with| .sl es=>es.length|_=>0,⟨l.length,Xah _,by rw[Xag];rfl,by rw[Xag]⟩,?_⟩;rintro ρ H ⟨k,Z,h0,I⟩;have F:(l.take k).length=k:=by rw[Xao];omega
 cases k with
 | zero=>
   simp only[go_sem,h0,F,show decide (((0:Nat):Int)>0)=false from rfl];refine aB (fun J=>by cases J) (fun _=>?_);simp only[go_sem,h0];have O:mX l=[]:=by rw[<-I];rfl
   rw[O];exact .refl _
 | succ k=>
 have X:IntKind.i64.wrap (((k+1:Nat):Int)-1)=(k:Int):=by rw[bH (by omega)];omega
 obtain⟨x,Y⟩:=aN (show k<l.length by omega);have V:(l.take (k+1))[k]?=some x:=by rw[List.getElem?_take,if_pos (by omega)];exact Y
 have U:l.take (k+1)=l.take k++[x]:=bQ Y;simp only[go_sem,h0,F,X,aC V,show decide (((k+1:Nat):Int)>0)=true from decide_eq_true (by omega)];refine⟨⟨by omega,by omega⟩,aB (fun J=>?_) (fun J=>?_)⟩
 . have E:x=0:=by simpa using J
   simp only[go_sem,h0,F,X];refine⟨by omega,⟨⟨k,by omega,?_,?_⟩,?_⟩⟩
   . rw[<-List.map_take,List.take_take,Nat.min_eq_left (by omega)]
   . rw[U,xF,if_pos E]at I;exact I
   . rw[<-List.map_take,Xaa,Xao];omega
 . have E:x≠0:=by simpa using J
   simp only[go_sem,h0];rw[U,xF,if_neg E]at I;rw[U,I];exact .refl _
abbrev nl(n:Nat):AV:=.sl ((bO bas n).map jK)
theorem K9:nl 0=.sl []:=by
 simp only[nl,fJ];rfl
theorem Kr{l:List Nat}(F:Lim bas l)(h:l.length<=4611686018427387904){n:Nat}(E:ofL bas l=n):PC prog 235 [.sl (l.map jK)] (nl n):=by
 have:=amX l h
 rwa [MU (by decide) F E]at this
def dJ(l:List Nat):Row:=⟨3,1,l.map jK⟩
theorem wM{H:aK}{k:Nat}{l:List Nat}{x:Nat}:aI H k (some ⟨3,1,l.map jK++[[int (x:Int)]]⟩) k=some (dJ (l++[x])):=by
 rw[aA];simp only[dJ,Xar,Xbc,Xbs];rfl
theorem Yj(s:ByteArray)(hr:(bl s).all isD=true)(h:s.size<=4096):PC prog 234 [str s] (nl (gM s)):=by
 have hs:=gT s;refine pcb (fun t=>t == 3) Tryz.func234 ?_;unfold Tryz.f234;simp only[gdS];simp only[go_sem];refine aL fun j hj=>?_
 simp only[go_sem];refine⟨fun ρ H=>∃(m j:Nat) (o:List Nat),m<=(bl s).length/\ρ 0=str (s.extract 0 m)/\ρ 3=.os j/\H j=some (dJ o)/\Lim bas o/\o.length<=(bl s).length-m/\ofL bas o+bas^o.length*iR ((bl s).take m)=gM s,fun ρ _=>match ρ 0 with| .v (.string t)=>t.size|_=>0,⟨(bl s).length,j,[],Xah _,?_,by simp only[go_sem],aA _ _ _,by simp[Lim],by simp,?_⟩,?_⟩
 . rw[show s.extract 0 (bl s).length=s from mZ (by rw[kE,Xag,Xca])];rfl
 . rw[Xag];simp[ofL,gM]
 clear hj j;rintro ρ H ⟨m,j,o,hm,h0,F,U,ho,ad,hv⟩;have E:(s.extract 0 m).size=m:=by rw[<-gT,kE,Xca,Xao];omega
 simp only[go_sem,h0,F,E];refine aB (fun hb=>?_) (fun hb=>?_)
 . have X:0<m:=by simpa using hb
   have e9:fP 0 (IntKind.i64.wrap ((m:Int)-9))=((m-9:Nat):Int):=by
     rw[bH (by omega)];unfold fP;split <;> omega
   simp only[go_sem,h0,F,E];refine⟨fun ρ H=>∃i:Nat,m-9<=i/\i<=m/\ρ 0=str (s.extract 0 m)/\ρ 3=.os j/\ρ 4=int (m-9:Nat)/\ρ 5=int (iR (((bl s).take i).drop (m-9)):Nat)/\ρ 6=int i/\H j=some (dJ o),fun ρ _=>m-aV (ρ 6),
     ⟨m-9,Xah _,by omega,by simp only[go_sem,h0],by simp only[go_sem,F],?_,?_,?_,U⟩,?_⟩
   . simp only[go_sem,e9]
   . simp only[go_sem]
     rw[List.drop_eq_nil_of_le (by rw[Xao];omega)];rfl
   . simp only[go_sem,e9]
   clear h0 F U;rintro ρ H ⟨i,ae,ab,h0,F,h4,Z,h6,U⟩;simp only[go_sem,h0,F,h4,Z,h6,E];refine aB (fun I=>?_) (fun J=>?_)
   . have I:i<m:=ltB I
     obtain⟨c,O⟩:=aN (show i<(bl s).length by omega);have hx:(bl (s.extract 0 m)).getD i 0=c:=by rw[kE,Xca];exact Vh (by rw[List.getElem?_take,if_pos I];exact O)
     have hd:=sL.1 (Xaj.1 hr c (Xac O));have ac:=Ft (l:=((bl s).take i).drop (m-9)) (Xaj.2 fun c O=>Xaj.1 hr c (List.mem_of_mem_take (List.mem_of_mem_drop O)));have aa:10^(((bl s).take i).drop (m-9)).length<=10^9:=Xav (by omega) (by rw[Xbw,Xao];omega);have e1:((bl s).take (i+1)).drop (m-9)=((bl s).take i).drop (m-9)++[c]:=by
       rw[bQ O,List.drop_append_of_le_length (by rw[Xao];omega)]
     have e2:IntKind.i64.wrap (IntKind.i64.wrap (10*((iR (((bl s).take i).drop (m-9)):Nat):Int))+IntKind.i64.wrap (IntKind.u8.wrap ((c.toNat:Int)-48)))=((iR (((bl s).take (i+1)).drop (m-9)):Nat):Int):=by
       rw[e1,wT,u8w hd.1 (by omega)];generalize iR (((bl s).take i).drop (m-9))=V at *;rw[show IntKind.i64.wrap (10*(V:Int))=10*(V:Int)from bH (by omega),show IntKind.i64.wrap (((c.toNat-48:Nat):Int))=((c.toNat-48:Nat):Int)from bH (by omega),bH (by omega)];omega
     simp only[go_sem,h0,F,h4,Z,h6,E,hx,e2,aT (show i<=4611686018427387904 by omega)];exact⟨⟨by omega,by omega⟩,⟨i+1,by omega,by omega,rfl,rfl,U⟩,by simp only[aE];omega⟩
   . have J:i=m:=geB ab J
     subst J;simp only[go_sem,h0,F,h4,Z,h6,E];have hL:(((bl s).take i).drop (i-9)).length=i-(i-9):=by rw[Xbw,Xao];omega
     have hA:(((bl s).take i).drop (i-9)).all isD=true:=Xaj.2 fun c O=>Xaj.1 hr c (List.mem_of_mem_take (List.mem_of_mem_drop O))
     have ac:=Ft hA;have aa:10^(((bl s).take i).drop (i-9)).length<=10^9:=Xav (by omega) (by omega);have Y:iR ((bl s).take i)=iR ((bl s).take (i-9))*10^(((bl s).take i).drop (i-9)).length+iR (((bl s).take i).drop (i-9)):=by
       rw[<-AU]
       congr 1
       conv=>lhs;rw[<-List.take_append_drop (i-9) ((bl s).take i)]
       rw[List.take_take,Nat.min_eq_left (by omega)]
     generalize iR (((bl s).take i).drop (i-9))=x at *;refine aZ U ⟨rfl,rfl⟩ ⟨rfl,trivial⟩ (by simp only[dJ,Xaa,Xad,List.length_nil];omega) (fun j' af=>?_);simp only[go_sem,h0,F,h4,Z,h6,E];refine⟨⟨by omega,by omega⟩,⟨⟨i-9,j',o++[x],by omega,?_,rfl,wM,ho.snoc (show x<1000000000 by omega),?_,?_⟩,?_⟩⟩
     . congr 2
       refine mZ ?_;rw[kE,kE,kE];simp only[Xca,List.take_take];rw[Nat.min_eq_left (by omega)]
     . rw[Xae,Xad,List.length_nil];omega
     . rw[<-hv,Y,tL,Xae,Xad,List.length_nil,Xbj]
       by_cases h9:9<=i
       . rw[hL,show i-(i-9)=9 by omega]
         grind
       . rw[show i-9=0 by omega]
         simp only[List.take_zero,iR,List.foldl_nil]
         grind
     . rw[<-gT,kE,kE]
       simp only[Xca,Xao];omega
 . have X:m=0:=by simpa using hb
   subst X;simp only[go_sem,h0,F];refine PC.useF [j] (.cons _ _ _ _ (.row _ _ _ (by simp[U];rfl) (ConvE.refl _)) .nil) (Kr ho (by omega) (n:=gM s) (by rw[<-hv];simp[iR])) ?_;simp only[go_sem];exact .refl _
theorem neN{a b:Nat}(h:((a:Int) != (b:Int))=true):a≠b:=by
 rw[bne_iff_ne]at h;omega
theorem eqN{a b:Nat}(h:((a:Int) != (b:Int))=false):a=b:=by
 rw[bne_eq_false_iff_eq]at h;omega
theorem agB{a b:Int}(h:a<=b):jY a b<=0:=by
 unfold jY;split
 . omega
 . rw[if_neg (by omega)];omega
theorem Ub(n:Int):PC prog 302 [int n] (boo false):=by
 refine pcd Tryz.func302 ?_;unfold Tryz.f302;simp only[gdS];simp only[go_sem];exact cB (by simp)
theorem Dr(a b:Int):PC prog 265 [int a,int b] (int (jY a b)):=by
 refine pcd Tryz.func265 ?_;unfold Tryz.f265;simp only[gdS];simp only[go_sem];refine PC.use (Ub a) ?_;simp only[go_sem];refine PC.use (Ub b) ?_;simp only[go_sem];refine aB (fun h=>by cases h) (fun _=>?_);simp only[go_sem];refine aB (fun h=>by cases h) (fun _=>?_);simp only[go_sem];refine aB (fun h=>?_) (fun h=>?_)
 . simp only[go_sem]
   exact cI (by rw[kL (by simpa using h)])
 . simp only[go_sem]
   refine aB (fun E=>?_) (fun E=>?_)
   . simp only[go_sem]
     exact cI (by rw[kK (by simpa using E)])
   . simp only[go_sem]
     exact cI (by rw[uM (by simp at h E;omega)])
theorem Sf(l:List Nat)(i:Nat)(hi:i<=4611686018427387904):PC prog 226 [.sl (l.map jK),int i] (int (l.getD i 0:Nat)):=by
 refine pcd Tryz.func226 ?_;unfold Tryz.f226;simp only[gdS];simp only[go_sem];refine aB (fun h=>?_) (fun h=>?_)
 . have h:=ltB h
   obtain⟨x,E⟩:=aN h;have F:=inB h;simp only[go_sem,aC E,F];exact cI (by simp[List.getD,E])
 . simp only[go_sem]
   have h:¬i<l.length:=by simpa using h
   exact cI (by simp[List.getD,List.getElem?_eq_none (by omega:l.length<=i)])
theorem ajZ{l r:List Nat}(I:Lim bas l)(O:Lim bas r)(E:l.length=r.length){k x y:Nat}(U:l[k]?=some x)(J:r[k]?=some y)(V:l.drop (k+1)=r.drop (k+1))(F:x≠y):jY (x:Int) y=jY (ofL bas l) (ofL bas r):=by
 rcases Nat.lt_or_gt_of_ne F with h|h
 . have:=Jr (b:=bas) (by decide) I O E U J h V
   rw[kL (by omega),kL (by omega)]
 . have:=Jr (b:=bas) (by decide) O I E.symm J U h V.symm
   rw[kK (by omega),kK (by omega)]
theorem DA(m n:Nat)(hm:(bO bas m).length<=1048576)(hn:(bO bas n).length<=1048576):PC prog 227 [nl m,nl n] (int (jY m n)):=by
 have om:=fF (b:=bas) (by decide) m;have on:=fF (b:=bas) (by decide) n;have lm:=eV (b:=bas) (by decide) m;have ln:=eV (b:=bas) (by decide) n;have aa:(bO bas m).length<(bO bas n).length->m<n:=Kz (by decide);have X:(bO bas n).length<(bO bas m).length->n<m:=Kz (by decide);simp only[nl];generalize bO bas m=a at *;generalize bO bas n=b at *;refine pcd Tryz.func227 ?_;unfold Tryz.f227;simp only[gdS];simp only[go_sem];refine aB (fun h=>?_) (fun h=>?_)
 . simp only[go_sem]
   refine PC.use (Dr _ _) ?_;simp only[go_sem];refine cI ?_;have h:a.length≠b.length:=neN h;rcases Nat.lt_or_gt_of_ne h with h|h
   . have:=aa h
     rw[kL (by omega),kL (by omega)]
   . have:=X h
     rw[kK (by omega),kK (by omega)]
 have J:a.length=b.length:=eqN h;simp only[go_sem];refine⟨fun ρ _=>∃k:Nat,k<=a.length/\ρ 0=.sl (a.map jK)/\ρ 1=.sl (b.map jK)/\ρ 5=int ((k:Int)-1)/\a.drop k=b.drop k,fun ρ _=>match ρ 5 with| .v (.int _ z)=>(z+1).toNat|_=>0,⟨a.length,Xah _,by simp only[go_sem],by simp only[go_sem],by simp only[go_sem,oX (show a.length<=4611686018427387904 by omega)],by rw[List.drop_eq_nil_of_le (Xah _),List.drop_eq_nil_of_le (by omega)]⟩,?_⟩;rintro ρ H ⟨k,hk,h0,h1,F,hd⟩;simp only[go_sem,h0,h1,F];refine aB (fun V=>?_) (fun V=>?_)
 . have I:0<k:=by simp at V;omega
   obtain⟨k,rfl⟩:∃j,k=j+1:=⟨k-1,by omega⟩;rw[show((k+1:Nat):Int)-1=(k:Int)by omega]at F |-;obtain⟨x,U⟩:=aN (show k<a.length by omega);obtain⟨y,O⟩:=aN (show k<b.length by omega);have b1:=inB (show k<a.length by omega);have b2:=inB (show k<b.length by omega);simp only[go_sem,h0,h1,F];refine cN (by rfl) (by kernel_rfl) ?_;simp only[go_sem,h0,h1,F,aC U,aC O,b1,b2];refine aB (fun E=>?_) (fun E=>?_)
   . simp only[go_sem,h0,h1,F]
     refine cN (by rfl) (by kernel_rfl) ?_;simp only[go_sem,h0,h1,F,aC U,aC O,b1,b2];refine⟨_,(Dr x y).q rfl,?_⟩;simp only[go_sem];exact cI (by rw[ajZ lm ln J U O hd (neN E),om,on])
   . have Z:x=y:=eqN E
     simp only[go_sem,h0,h1,F,oX (show k<=4611686018427387904 by omega)];refine⟨⟨k,by omega,rfl,?_⟩,by omega⟩;have e1:a.drop k=x::a.drop (k+1):=by rw[List.drop_eq_getElem_cons (by omega)];congr 1;exact(List.getElem?_eq_some_iff.1 U).2
     have e2:b.drop k=y::b.drop (k+1):=by rw[List.drop_eq_getElem_cons (by omega)];congr 1;exact(List.getElem?_eq_some_iff.1 O).2
     rw[e1,e2,hd,Z]
 . have I:k=0:=by simp at V;omega
   subst I;simp only[go_sem];refine cI ?_;have Y:a=b:=by simpa using hd
   rw[uM];rw[<-om,<-on,Y]
def tw(a b:ByteArray)(n:Nat):List (List AV):=if lA a b=0 then(bO bas n).map jK else[]
theorem Gj{a b:ByteArray}{n:Nat}(h:lA a b=0):tw a b n=(bO bas n).map jK:=if_pos h
theorem Vu{a b:ByteArray}{n:Nat}(h:lA a b≠0):tw a b n=[]:=if_neg h
theorem Qe(a b:ByteArray)(O:a.size<=1048576)(U:b.size<=1048576):PC prog 179 [str a,str b] (.tup [.sl (tw a b (gM a)),.sl (tw a b (gM b)),int (lA a b)]):=by
 refine pcd Tryz.func179 ?_;unfold Tryz.f179;simp only[gdS];simp only[go_sem];refine PC.use (C4 a (by omega)) ?_;simp only[go_sem];refine⟨_,fun _=>(C4 b (by omega)).q rfl,?_⟩;simp only[go_sem];refine aB (fun h=>?_) (fun h=>?_)
 . simp only[go_sem]
   have e:lA a b=3:=by unfold lA;rw[if_pos h]
   rw[Vu (by rw[e];decide),Vu (by rw[e];decide),e];exact .refl _
 have E:gY a=true/\gY b=true:=by simpa using h
 simp only[go_sem];refine aB (fun I=>?_) (fun I=>?_)
 . simp only[go_sem]
   have J:(decide (a.size>4096)||decide (b.size>4096))=true:=by simp at I |-;omega
   have e:lA a b=4:=by unfold lA;rw[if_neg (by rw[h];simp),if_pos J]
   rw[Vu (by rw[e];decide),Vu (by rw[e];decide),e];exact .refl _
 have F:a.size<=4096/\b.size<=4096:=by simp at I;omega
 have e:lA a b=0:=Lg E.1 E.2 F.1 F.2;have d:∀{s:ByteArray},gY s=true->(bl s).all isD=true:=fun h=>by
   unfold gY fQ at h;simp only[Xak]at h;exact h.2
 simp only[go_sem];refine PC.use (Yj a (d E.1) F.1) ?_;simp only[go_sem];refine PC.use (Yj b (d E.2) F.2) ?_;simp only[go_sem];rw[Gj e,Gj e,e];exact .refl _
theorem Fl{H:aK}{j:Nat}:aI H j (some ⟨3,1,[]⟩) j=some (dJ []):=aA _ _ _
theorem Uz(m k:Nat)(hm:(bO bas m).length<=1048576)(hk:k<bas):PC prog 237 [nl m,int k] (nl (m*k)):=by
 have hk:k<1000000000:=hk;have om:=fF (b:=bas) (by decide) m;have lm:=eV (b:=bas) (by decide) m;simp only[nl];generalize bO bas m=l at *;have ad:IntKind.i64.wrap ((l.length:Int)+1)=((l.length+1:Nat):Int):=aT (by omega);refine pcb (fun t=>t == 5) Tryz.func237 ?_;unfold Tryz.f237;simp only[gdS];simp only[go_sem];refine⟨by omega,aL fun j hj=>?_⟩;simp only[go_sem];refine⟨fun ρ H=>∃(i j c:Nat) (o:List Nat),i<=l.length/\ρ 1=int k/\ρ 13=.sl (l.map jK)/\ρ 14=int l.length/\ρ 5=.os j/\ρ 6=int c/\ρ 15=int i/\H j=some (dJ o)/\Lim bas o/\o.length=i/\c<1000000000/\ofL bas o+bas^i*c=ofL bas (l.take i)*k,fun ρ _=>l.length-aV (ρ 15),
   ⟨0,j,0,[],Xab _,by simp only[go_sem],by simp only[go_sem],by simp only[go_sem,Xaa],by simp only[go_sem],by simp only[go_sem];rfl,by simp only[go_sem];rfl,Fl,by simp[Lim],rfl,by omega,by simp[ofL]⟩,?_⟩
 clear hj j;rintro ρ H ⟨i,j,c,o,hi,h1,F,I,V,X,U,Rj,ho,J,hc,hv⟩;simp only[go_sem,h1,F,I,V,X,U];refine aB (fun E=>?_) (fun O=>?_)
 . have E:=ltB E
   obtain⟨n,hn⟩:=aN E;have b1:=inB E;have ac:n<1000000000:=lm n (Xac hn);have ab:n*k<=999999999*999999999:=Nat.mul_le_mul (by omega) (by omega);have e1:IntKind.i64.wrap (IntKind.i64.wrap ((n:Int)*(k:Int))+(c:Int))=((n*k+c:Nat):Int):=by
     rw[show(n:Int)*(k:Int)=((n*k:Nat):Int)from(Int.natCast_mul n k).symm];generalize n*k=p at *;rw[show IntKind.i64.wrap (p:Int)=(p:Int)from bH (by omega),bH (by omega)];omega
   have Z:=QV (b:=bas) (by decide) hn J hv;simp only[go_sem,h1,F,I,V,X,U,aC hn,b1,e1];have hq:(n*k+c)/1000000000<1000000000:=by omega
   have e2:IntKind.i64.wrap ((((n*k+c:Nat):Int)).tdiv 1000000000)=(((n*k+c)/1000000000:Nat):Int):=by
     generalize n*k+c=p at *;rw[Xbx (by omega),bH (by omega)];omega
   have e3:(((n*k+c:Nat):Int)).tmod 1000000000=(((n*k+c)%1000000000:Nat):Int):=by
     rw[Xch (by omega)];omega
   simp only[e2,e3];refine⟨by decide,?_⟩;refine aZ Rj ⟨rfl,rfl⟩ ⟨rfl,trivial⟩ (by simp only[dJ,Xaa,Xad,List.length_nil];omega) (fun Y aa=>?_);simp only[go_sem,h1,F,I,V,X,U,e2,aT (show i<=4611686018427387904 by omega)];refine⟨by decide,⟨i+1,Y,_,o++[(n*k+c)%bas],E,rfl,rfl,rfl,wM,ho.snoc (Nat.mod_lt _ (by decide)),by simp[J],hq,Z⟩,by simp only[aE];omega⟩
 . have O:=geB hi O
   subst O;simp only[go_sem,V,X];refine aZ Rj ⟨rfl,rfl⟩ ⟨rfl,trivial⟩ (by simp only[dJ,Xaa,Xad,List.length_nil];omega) (fun Y aa=>?_);simp only[go_sem];have hT:Lim bas (o++[c]):=ho.snoc hc;have hV:ofL bas (o++[c])=m*k:=by rw[tL,J,hv,Xag,om]
   refine PC.useF [Y] (.cons _ _ _ _ (.row _ _ _ (by simp only[Xbf,if_true];exact wM) (ConvE.refl _)) .nil) (Kr hT (by simp;omega) hV) ?_;simp only[go_sem];exact .refl _
theorem Fy(m n:Nat)(hm:(bO bas m).length<=1048576)(ae:n<=m):PC prog 228 [nl m,nl n] (nl (m-n)):=by
 have om:=fF (b:=bas) (by decide) m;have on:=fF (b:=bas) (by decide) n;have lm:=eV (b:=bas) (by decide) m;have ln:=eV (b:=bas) (by decide) n;have af:=fO (b:=bas) (by decide) ae;simp only[nl];generalize bO bas m=x at *;generalize bO bas n=y at *;refine pcb (fun t=>t == 5) Tryz.func228 ?_;unfold Tryz.f228;simp only[gdS];simp only[go_sem];refine⟨by omega,aL fun j hj=>?_⟩;simp only[go_sem];refine⟨fun ρ H=>∃(i j c:Nat) (o:List Nat),i<=x.length/\ρ 0=.sl (x.map jK)/\ρ 1=.sl (y.map jK)/\ρ 13=int x.length/\ρ 5=.os j/\ρ 6=int c/\ρ 14=int i/\H j=some (dJ o)/\Lim bas o/\o.length=i/\c<=1/\ofL bas o+ofL bas (y.take i)=ofL bas (x.take i)+bas^i*c,fun ρ _=>x.length-aV (ρ 14),
   ⟨0,j,0,[],Xab _,by simp only[go_sem],by simp only[go_sem],by simp only[go_sem,Xaa],by simp only[go_sem],by simp only[go_sem];rfl,by simp only[go_sem];rfl,Fl,by simp[Lim],rfl,by omega,by simp[ofL]⟩,?_⟩
 clear hj j;rintro ρ H ⟨i,j,c,o,hi,h0,h1,E,J,U,F,Z,ho,X,hc,hv⟩;simp only[go_sem,h0,h1,E,J,U,F];refine aB (fun O=>?_) (fun Y=>?_)
 . have O:=ltB O
   obtain⟨a,ha⟩:=aN O;have ag:x.getD i 0=a:=by simp[List.getD,ha]
   have b1:=inB O;have aa:a<1000000000:=lm a (Xac ha);have ac:y.getD i 0<1000000000:=ln.getD (by decide) i;simp only[go_sem,h0,h1,E,J,U,F];refine cN (by rfl) (by kernel_rfl) ?_;simp only[go_sem,h0,h1,E,J,U,F,aC ha,b1];refine⟨_,(Sf y i (by omega)).q rfl,?_⟩;have ah:=NS (b:=1000000000) aa ac hc;have ab:=KY (b:=1000000000) aa ac hc;have ad:=Qw (b:=bas) (x:=x) (y:=y) (c':=if a<y.getD i 0+c then 1 else 0) (d:=if a<y.getD i 0+c then a+1000000000-(y.getD i 0+c)else a-(y.getD i 0+c)) X hv (by rw[ag];exact ab.1);generalize y.getD i 0=yi at *;have e1:IntKind.i64.wrap (IntKind.i64.wrap ((a:Int)-(yi:Int))-(c:Int))=(a:Int)-yi-c:=by
     rw[show IntKind.i64.wrap ((a:Int)-(yi:Int))=(a:Int)-yi from bH (by omega),bH (by omega)]
   simp only[go_sem,h0,h1,E,J,U,F,e1];refine bK (fun I H'=>I 0=.sl (x.map jK)/\I 1=.sl (y.map jK)/\I 13=int x.length/\I 5=.os j/\I 14=int i/\H' j=some (dJ o)/\I 8=int (if a<yi+c then a+1000000000-(yi+c)else a-(yi+c):Nat)/\I 6=int (if a<yi+c then 1 else 0:Nat)) ?_ fun K hK=>aB (fun V=>?_) (fun V=>?_)
   rotate_left
   . have V:a<yi+c:=by simp at V;omega
     have e2:IntKind.i64.wrap ((a:Int)-yi-c+1000000000)=((a+1000000000-(yi+c):Nat):Int):=by rw[bH (by omega)];omega
     simp only[go_sem,h0,h1,E,J,U,F,e2];exact hK _ _ ⟨by simp only[go_sem,h0],by simp only[go_sem,h1],by simp only[go_sem,E],by simp only[go_sem,J],by simp only[go_sem,F],Z,by simp only[go_sem,if_pos V],by simp only[go_sem,if_pos V];rfl⟩
   . have V:¬a<yi+c:=by simp at V;omega
     simp only[go_sem,h0,h1,E,J,U,F];refine hK _ _ ⟨by simp only[go_sem,h0],by simp only[go_sem,h1],by simp only[go_sem,E],by simp only[go_sem,J],by simp only[go_sem,F],Z,?_,by simp only[go_sem,if_neg V];rfl⟩;simp only[go_sem,if_neg V]
     congr 2
     omega
   clear h0 h1 E J U F Z;rintro ρ H ⟨h0,h1,E,J,F,Z,h8,U⟩;simp only[go_sem,h0,h1,E,J,U,F,h8];refine aZ Z ⟨rfl,rfl⟩ ⟨rfl,trivial⟩ (by simp only[dJ,Xaa,Xad,List.length_nil];omega) (fun j' ai=>?_);simp only[go_sem,h0,h1,E,J,U,F,aT (show i<=4611686018427387904 by omega)];exact⟨⟨i+1,j',_,_,O,rfl,rfl,rfl,wM,ho.snoc ab.2,by simp[X],by split <;> omega,ad⟩,by simp only[aE];omega⟩
 . have Y:=geB hi Y
   subst Y;simp only[go_sem,J];obtain⟨_,hV⟩:=V6 (b:=bas) (by decide) ho lm X af (by omega) hc hv;refine PC.useF [j] (.cons _ _ _ _ (.row _ _ _ (by simp only[Xbf,if_true];exact Z) (ConvE.refl _)) .nil) (Kr ho (by omega) (hV.trans (by rw[om,on]))) ?_;simp only[go_sem];exact .refl _
theorem half{d r q:Nat}(h1:d*q<=r)(F:r<d*(q+1))(E:0<d):q=r/d:=by
 symm
 exact(Nat.div_eq_iff E).2 ⟨by rw[Nat.mul_comm];exact h1,by rw[Nat.mul_add,Nat.mul_one]at F;rw[Nat.mul_comm q d];omega⟩
theorem FE(r d:Nat)(hr:(bO bas r).length<=1048576)(hd:0<d)(ab:(bO bas d).length<=1048575)(h:r<d*bas):PC prog 236 [nl r,nl d] (int (r/d:Nat)):=by
 refine pcd Tryz.func236 ?_;unfold Tryz.f236;simp only[gdS];simp only[go_sem];refine⟨fun ρ _=>∃a b:Nat,a<=b/\b<1000000000/\ρ 0=nl r/\ρ 1=nl d/\ρ 5=int a/\ρ 6=int b/\d*a<=r/\r<d*(b+1),fun ρ _=>aV (ρ 6)-aV (ρ 5),⟨0,999999999,by omega,by omega,by simp only[go_sem],by simp only[go_sem],by simp only[go_sem];rfl,by simp only[go_sem];rfl,by simp,h⟩,?_⟩;rintro ρ H ⟨a,b,X,hb,h0,h1,F,J,U,O⟩;simp only[go_sem,h0,h1,F,J];refine aB (fun V=>?_) (fun I=>?_)
 . have V:=ltB V
   have e1:IntKind.i64.wrap ((IntKind.i64.wrap (IntKind.i64.wrap ((a:Int)+(b:Int))+1)).tdiv 2)=(((a+b+1)/2:Nat):Int):=by
     rw[show IntKind.i64.wrap ((a:Int)+(b:Int))=((a+b:Nat):Int)by rw[bH (by omega)];omega,aT (by omega),Xbx (by omega),bH (by omega)];omega
   simp only[go_sem,h0,h1,F,J,e1];refine⟨by decide,?_⟩;have Z:(a+b+1)/2<bas:=show _<1000000000 by omega
   have ac:a<(a+b+1)/2:=by omega
   have aa:(a+b+1)/2<=b:=by omega
   generalize (a+b+1)/2=m at *;refine PC.use (Uz d m (by omega) Z) ?_;simp only[go_sem,h0,h1,F,J];have Y:(bO bas (d*m)).length<=1048576:=by
     have h1:=oW (b:=bas) (by decide) (eV (b:=bas) (by decide) d);rw[fF (by decide)]at h1;have h2:d*m<bas^((bO bas d).length+1):=by
       rw[Xbj];exact Xcb (Nat.mul_lt_mul_of_pos_left Z hd) (Nat.mul_le_mul_right _ (Nat.le_of_lt h1))
     have:=lF (b:=bas) (by decide) h2;omega
   refine PC.use (DA (d*m) r Y hr) ?_;simp only[go_sem,h0,h1,F,J];refine aB (fun E=>?_) (fun E=>?_)
   . have E : d * m <= r := by
       rcases Xbk r (d*m)with h|h
       . rw[kK (by omega)]at E;simp at E
       . exact h
     simp only[go_sem,h0,h1,F,J];exact⟨⟨m,b,by omega,hb,rfl,rfl,E,O⟩,by simp only[aE];omega⟩
   . have E : r < d * m := by
       rcases Xbk r (d*m)with h|h
       . exact h
       . exfalso
         exact of_decide_eq_false E (agB (by omega))
     simp only[go_sem,h0,h1,F,J];refine⟨⟨a,m-1,by omega,by omega,rfl,?_,U,?_⟩,?_⟩
     . rw[oX (by omega)];congr 2;omega
     . rw[show m-1+1=m by omega];exact E
     . rw[oX (by omega)];simp only[aE];omega
 . have I:=geB X I
   subst I;simp only[go_sem,F];exact cI (by rw[half U O hd])
theorem Fq{E:List Nat}{k v q:Nat}(h:E[k]?=some v):({ dJ E with es:=(dJ E).es.set k (nH ((dJ E).es.getD k []) 0 [int (q:Int)]) }:Row)=dJ (E.set k q):=by
 simp only[dJ,aC h,List.map_set];rfl
theorem NZ(m n:Nat)(hm:(bO bas m).length<=1048570)(hn:0<n)(ap:(bO bas n).length<=1048570):PC prog 180 [nl m,nl n] (.tup [nl (m/n),nl (m%n)]):=by
 have om:=fF (b:=bas) (by decide) m;have lm:=eV (b:=bas) (by decide) m;rw[show nl m=.sl ((bO bas m).map jK)from rfl];generalize bO bas m=l at *;refine pcb (fun t=>t == 6||t == 23) Tryz.func180 ?_;unfold Tryz.f180;simp only[gdS];simp only[go_sem];refine⟨by omega,aL fun j hj=>?_⟩;simp only[go_sem];refine⟨fun ρ H=>∃(k r:Nat) (E:List Nat),k<=l.length/\ρ 0=.sl (l.map jK)/\ρ 1=nl n/\ρ 6=.os j/\ρ 7=nl r/\ρ 8=int ((k:Int)-1)/\H j=some (dJ E)/\Lim bas E/\E.length=l.length/\r<n/\ofL bas (l.drop k)=ofL bas (E.drop k)*n+r/\E.take k=List.replicate k 0,fun ρ _=>match ρ 8 with| .v (.int _ z)=>(z+1).toNat|_=>0,
   ⟨l.length,0,List.replicate l.length 0,Xah _,by simp only[go_sem],by simp only[go_sem],by simp only[go_sem],?_,?_,?_,Lim.zeros (by decide) _,by simp,hn,by simp[ofL],by simp⟩,?_⟩
 . simp only[go_sem]
   exact K9.symm
 . simp only[go_sem,oX (show l.length<=4611686018427387904 by omega)]
 . rw[aA]
   simp only[dJ,List.map_replicate];rfl
 clear hj;rintro ρ H ⟨k,r,E,hk,h0,h1,J,F,I,Rj,hq,aa,hr,hv,hz⟩;simp only[go_sem,h0,h1,J,F,I];refine aB (fun hb=>?_) (fun hb=>?_)
 . have ad:0<k:=by simp at hb;omega
   obtain⟨k,rfl⟩:∃j,k=j+1:=⟨k-1,by omega⟩;rw[show((k+1:Nat):Int)-1=(k:Int)by omega]at I |-;obtain⟨x,hx⟩:=aN (show k<l.length by omega);have af:x<bas:=lm x (Xac hx);have b1:=inB (show k<l.length by omega);have b2:=inB (show k<E.length by omega);have Z:E[k]?=some 0:=by
     have h1:(E.take (k+1))[k]?=(List.replicate (k+1) 0)[k]?:=by rw[hz]
     rw[List.getElem?_take,if_pos (by omega)]at h1;rw[h1];simp
   obtain⟨hV,hQ,hR⟩:=Zl (b:=bas) (a:=n) (by decide) hx af hr (show k<E.length by omega) hv;have au:(bO bas r).length<=1048570:=Xal (fO (by decide) (Nat.le_of_lt hr)) ap;have am:x+bas*r<n*bas:=by
     have:bas*(r+1)<=bas*n:=Nat.mul_le_mul_left _ hr;rw[Nat.mul_add]at this;rw[Nat.mul_comm n bas];omega
   have U:(E.set k ((x+bas*r)/n)).take k=List.replicate k 0:=by
     rw[List.take_set_of_le (by omega)];have h1:(E.take (k+1)).take k=(List.replicate (k+1) 0).take k:=by rw[hz]
     rw[List.take_take,Nat.min_eq_left (by omega)]at h1;rw[h1];simp
   have aj:ofL bas (x::bO bas r)=x+bas*r:=by rw[ofL,fF (by decide)]
   have al:Lim bas (x::bO bas r):=fun y hy=>by
     rcases Xbe.1 hy with rfl|hy
     . exact af
     . exact eV (by decide) r y hy
   have av:(bO bas (x+bas*r)).length<=1048575:=by
     refine Xal (lF (b:=bas) (k:=(bO bas r).length+1) (by decide) ?_) (by omega);have h1:=oW (b:=bas) (by decide) al;rw[aj]at h1;simpa using h1
   generalize ar:x+bas*r=R at *;have ah:R-n*(R/n)=R%n:=by have:=Nat.mod_add_div R n;omega
   have aw:(bO bas (n*(R/n))).length<=1048576:=Xal (fO (by decide) (Nat.mul_div_le R n)) (by omega);simp only[go_sem,h0,h1,J,F,I,aC hx,b1];refine aL fun i hi=>?_
   simp only[go_sem,h0,h1,J,F,I];have ab:=eZ (r':=⟨3,1,[[int (x:Int)]]⟩) Rj hi;refine aZ (aA _ _ _) ⟨rfl,rfl⟩ (allN _) (by simp only[Xaa,Xad,List.length_nil];omega) (fun i2 ae=>?_);have ai:=dF ab (aP Rj hi).symm ae (r':=⟨3,1,[[int (x:Int)]]++(bO bas r).map jK⟩);have aq:j≠i2:=aP ab ae;simp only[go_sem,h0,h1,J,F,I];refine PC.useF [i2] (.cons _ _ _ _ (.row _ _ _ (by simp only[Xbf,if_true];exact aA _ _ _) (ConvE.refl _)) .nil) (Kr al (by simp;omega) aj) ?_;generalize ak:(fun k=>if k∈[i2]then none else _)=HN;have O:HN j=some (dJ E):=by rw[<-ak];simp only[Xbf,if_neg aq];exact ai
   clear ak ai ab Rj;simp only[go_sem,h0,h1,J,F,I];refine PC.use (DA R n (by omega) (by omega)) ?_;simp only[go_sem,h0,h1,J,F,I];refine aB (fun hc=>?_) (fun hc=>?_)
   . have X : R < n := by
       rcases Nat.lt_trichotomy R n with h|h|h
       . exact h
       . rw[uM (by omega)]at hc;cases hc
       . rw[kK (by omega)]at hc;cases hc
     simp only[go_sem,h0,h1,J,F,I,oX (show k<=4611686018427387904 by omega)];have V:E.set k (R/n)=E:=by
       rw[Nat.div_eq_of_lt X];obtain⟨h1,h2⟩:=List.getElem?_eq_some_iff.1 Z;rw[<-h2];exact List.set_getElem_self h1
     rw[V,Xci X]at hV;rw[V]at U;exact⟨⟨k,R,E,by omega,rfl,rfl,O,hq,aa,X,hV,U⟩,by omega⟩
   simp only[go_sem,h0,h1,J,F,I];refine aB (fun ac=>?_) (fun ac=>?_)
   . have ag : R = n := by
       have:=Ko.1 (by simpa using ac);omega
     simp only[go_sem,h0,h1,J,F,I,O,show(dJ E).es.length=E.length from Xaa _,b2];refine⟨rfl,dM so3 O (by simp only[dJ,Xaa];exact⟨by simpa using b2.2,rfl,Xah 1⟩) ?_⟩;simp only[go_sem,h0,h1,J,F,I,oX (show k<=4611686018427387904 by omega)];have V:R/n=1:=by rw[ag];exact Nat.div_self hn
     have an:R%n=0:=by rw[ag];exact Nat.mod_self n
     rw[V,an]at hV;rw[V]at U;refine⟨⟨k,0,E.set k 1,by omega,K9.symm,rfl,?_,hq.set (by decide),by simp[aa],hn,hV,U⟩,by omega⟩;exact congrArg some (Fq (q:=1) Z)
   simp only[go_sem,h0,h1,J,F,I,O];refine PC.use (FE R n (by omega) hn (by omega) am) ?_;simp only[go_sem,h0,h1,J,F,I,O,show(dJ E).es.length=E.length from Xaa _,b2];refine⟨rfl,dM so3 O (by simp only[dJ,Xaa];exact⟨by simpa using b2.2,rfl,Xah 1⟩) ?_⟩;generalize hP:aI HN j _=HP;have Y:HP j=some (dJ (E.set k (R/n))):=by
     rw[<-hP,aA];exact congrArg some (Fq (q:=R/n) Z)
   have hg:(E.set k (R/n))[k]?=some (R/n):=List.getElem?_set_self (by omega);clear hP O;simp only[go_sem,h0,h1,J,F,I,Y];have ao:(dJ (E.set k (R/n))).es.getD k []=jK (R/n):=aC hg;have b3:0<=(k:Int)/\(k:Int)<((dJ (E.set k (R/n))).es.length:Nat):=by
     simp only[dJ,Xaa,List.length_set];exact b2
   simp only[go_sem,ao,b3];refine⟨rfl,⟨by omega,Nat.zero_lt_one⟩,?_⟩;refine PC.use (Uz n (R/n) (by omega) hQ) ?_;simp only[go_sem,h0,h1,J,F,I,Y];refine PC.use (Fy R (n*(R/n)) (by omega) (Nat.mul_div_le R n)) ?_;simp only[go_sem,h0,h1,J,F,I,oX (show k<=4611686018427387904 by omega),ah];exact⟨⟨k,R%n,E.set k (R/n),by omega,rfl,rfl,Y,hq.set hQ,by simp[aa],hR,hV,U⟩,by omega⟩
 . have ad:k=0:=by simp at hb;omega
   subst ad;simp only[go_sem,h0,h1,J,F,I];obtain⟨e1,e2⟩:=ajI hr hv;rw[Xca,Xca,om]at e1;rw[Xca,om]at e2;refine PC.useF [j] (.cons _ _ _ _ (.row _ _ _ (by simp only[Xbf,if_true];exact Rj) (ConvE.refl _)) .nil) (Kr hq (by omega) e1) ?_;simp only[go_sem,F,e2];exact .refl _
end Go.Proofs.YtohmomanmikphaaGreatDoor.Nu
end
section
namespace Go.Proofs
open Go.Shelf
def Tryz.lays169_ren:Go.Shelf.Ren:=⟨fun|169=>264|n=>n,fun|70=>278|9=>9|0=>0|72=>280|37=>192|127=>311|3=>3|5=>5|n=>n,fun|n=>n⟩
theorem Tryz.lays169:Go.Proofs.Lays.n169 Tryz.prog Tryz.lays169_ren:={
 mixed:=by kernel_rfl
 f169:=Tryz.func264.trans (congrArg some (by kernel_rfl))
 t0:=Tryz.underlying0
 a0:=Tryz.isAgg0
 z0:=Tryz.sizeOf0
 v0:=Tryz.zeroValue0
 t3:=Tryz.underlying3
 a3:=Tryz.isAgg3
 z3:=Tryz.sizeOf3
 v3:=Tryz.zeroValue3
 t9:=Tryz.underlying9
 a9:=Tryz.isAgg9
 z9:=Tryz.sizeOf9
 v9:=Tryz.zeroValue9
 t37:=Tryz.underlying192
 a37:=Tryz.isAgg192
 z37:=Tryz.sizeOf192
 v37:=Tryz.zeroValue192
 t70:=Tryz.underlying278
 a70:=Tryz.isAgg278
 z70:=Tryz.sizeOf278
 v70:=Tryz.zeroValue278
 t72:=Tryz.underlying280
 a72:=Tryz.isAgg280
 z72:=Tryz.sizeOf280
 v72:=Tryz.zeroValue280
 t127:=Tryz.underlying311
 a127:=Tryz.isAgg311
 z127:=Tryz.sizeOf311
 v127:=Tryz.zeroValue311 }
theorem Tryz.Builder_Extra_169:Builder.Extra Tryz.prog Tryz.lays169_ren:={
 sizeBuilder:=by kernel_rfl
 liesBuilder:=by kernel_rfl
 t5:=Tryz.underlying5
 a5:=Tryz.isAgg5
 z5:=Tryz.sizeOf5
 v5:=Tryz.zeroValue5
 infoByte:=by kernel_rfl
 cellsByte:=by kernel_rfl
 sizeByte:=by kernel_rfl
 neB5:=by decide }
open Go.RowKit in
theorem Tryz.Builder_String_any (B b:Nat) (l:List UInt8) (w:World) (h:Lib.IsBuilder 280 5 B b (Lib.byteCells l) w) (hBw:B<=w.heap.size):
    Calls Tryz.prog 264 #[.pointer (some ⟨b,0,none⟩)] w fun e w'=>e=.returned (.string ⟨l.toArray⟩)/\Below B w w':=Any.Builder_String_any Tryz.lays169 Tryz.Builder_Extra_169 B b l w h hBw
def Tryz.lays106_ren:Go.Shelf.Ren:=⟨fun|106=>229|213=>266|265=>303|n=>n,fun|9=>9|3=>3|n=>n,fun|n=>n⟩
theorem Tryz.lays106:Go.Proofs.Lays.n106 Tryz.prog Tryz.lays106_ren:={
 mixed:=by kernel_rfl
 f106:=Tryz.func229.trans (congrArg some (by kernel_rfl))
 f213:=Tryz.func266.trans (congrArg some (by kernel_rfl))
 f265:=Tryz.func303.trans (congrArg some (by kernel_rfl))
 t3:=Tryz.underlying3
 a3:=Tryz.isAgg3
 z3:=Tryz.sizeOf3
 v3:=Tryz.zeroValue3
 t9:=Tryz.underlying9
 a9:=Tryz.isAgg9
 z9:=Tryz.sizeOf9
 v9:=Tryz.zeroValue9 }
open Go.RowKit in
theorem Tryz.strings_Compare (a b:ByteArray) (w:World):
    Calls Tryz.prog 229 #[.string a,.string b] w fun e w'=>e=.returned (.int .i64 (Lib.compareBytes a.data.toList b.data.toList))/\w'=w:=Any.strings_Compare Tryz.lays106 a b w
def Tryz.lays103_ren:Go.Shelf.Ren:=⟨fun|103=>184|210=>239|206=>238|n=>n,fun|9=>9|4=>4|24=>218|3=>3|n=>n,fun|n=>n⟩
theorem Tryz.lays103:Go.Proofs.Lays.n103 Tryz.prog Tryz.lays103_ren:={
 mixed:=by kernel_rfl
 f103:=Tryz.func184.trans (congrArg some (by kernel_rfl))
 f206:=Tryz.func238.trans (congrArg some (by kernel_rfl))
 f210:=Tryz.func239.trans (congrArg some (by kernel_rfl))
 t3:=Tryz.underlying3
 a3:=Tryz.isAgg3
 z3:=Tryz.sizeOf3
 v3:=Tryz.zeroValue3
 t4:=Tryz.underlying4
 a4:=Tryz.isAgg4
 z4:=Tryz.sizeOf4
 v4:=Tryz.zeroValue4
 t9:=Tryz.underlying9
 a9:=Tryz.isAgg9
 z9:=Tryz.sizeOf9
 v9:=Tryz.zeroValue9
 t24:=Tryz.underlying218
 a24:=Tryz.isAgg218
 z24:=Tryz.sizeOf218
 v24:=Tryz.zeroValue218 }
open Go.RowKit in
theorem Tryz.strings_CutPrefix (s p:ByteArray) (w:World):
    Calls Tryz.prog 184 #[.string s,.string p] w fun e w'=>e=.returned (.tuple #[.string ⟨(Lib.trimPrefix s.data.toList p.data.toList).toArray⟩,.bool (Lib.hasPrefix s.data.toList p.data.toList)])/\w'=w:=Any.strings_CutPrefix Tryz.lays103 s p w
def Tryz.laysM171_ren:Go.Shelf.Ren:=⟨fun|171=>224|243=>261|246=>296|283=>337|284=>338|285=>339|286=>340|129=>366|317=>365|318=>367|319=>368|320=>369|337=>383|338=>384|n=>n,fun|3=>3|9=>9|2=>2|4=>4|171=>347|0=>0|53=>348|37=>192|5=>5|173=>351|212=>373|51=>312|20=>20|213=>374|46=>181|232=>393|233=>394|n=>n,fun|17=>1|18=>2|19=>3|n=>n⟩
theorem Tryz.laysM171:Go.Proofs.LaysM.n171 Tryz.prog Tryz.laysM171_ren:={
 mixed:=by kernel_rfl
 f129:=Tryz.func366.trans (congrArg some (by kernel_rfl))
 f171:=Tryz.func224.trans (congrArg some (by kernel_rfl))
 f243:=Tryz.func261.trans (congrArg some (by kernel_rfl))
 f246:=Tryz.func296.trans (congrArg some (by kernel_rfl))
 f283:=Tryz.func337.trans (congrArg some (by kernel_rfl))
 f284:=Tryz.func338.trans (congrArg some (by kernel_rfl))
 f285:=Tryz.func339.trans (congrArg some (by kernel_rfl))
 f286:=Tryz.func340.trans (congrArg some (by kernel_rfl))
 f317:=Tryz.func365.trans (congrArg some (by kernel_rfl))
 f318:=Tryz.func367.trans (congrArg some (by kernel_rfl))
 f319:=Tryz.func368.trans (congrArg some (by kernel_rfl))
 f320:=Tryz.func369.trans (congrArg some (by kernel_rfl))
 f337:=Tryz.func383.trans (congrArg some (by kernel_rfl))
 f338:=Tryz.func384.trans (congrArg some (by kernel_rfl))
 t0:=Tryz.underlying0
 a0:=Tryz.isAgg0
 z0:=Tryz.sizeOf0
 v0:=Tryz.zeroValue0
 t2:=Tryz.underlying2
 a2:=Tryz.isAgg2
 z2:=Tryz.sizeOf2
 v2:=Tryz.zeroValue2
 t3:=Tryz.underlying3
 a3:=Tryz.isAgg3
 z3:=Tryz.sizeOf3
 v3:=Tryz.zeroValue3
 t4:=Tryz.underlying4
 a4:=Tryz.isAgg4
 z4:=Tryz.sizeOf4
 v4:=Tryz.zeroValue4
 t5:=Tryz.underlying5
 a5:=Tryz.isAgg5
 z5:=Tryz.sizeOf5
 v5:=Tryz.zeroValue5
 t9:=Tryz.underlying9
 a9:=Tryz.isAgg9
 z9:=Tryz.sizeOf9
 v9:=Tryz.zeroValue9
 t20:=Tryz.underlying20
 a20:=Tryz.isAgg20
 z20:=Tryz.sizeOf20
 v20:=Tryz.zeroValue20
 t37:=Tryz.underlying192
 a37:=Tryz.isAgg192
 z37:=Tryz.sizeOf192
 v37:=Tryz.zeroValue192
 t46:=Tryz.underlying181
 a46:=Tryz.isAgg181
 z46:=Tryz.sizeOf181
 v46:=Tryz.zeroValue181
 t51:=Tryz.underlying312
 a51:=Tryz.isAgg312
 z51:=Tryz.sizeOf312
 v51:=Tryz.zeroValue312
 t53:=Tryz.underlying348
 a53:=Tryz.isAgg348
 z53:=Tryz.sizeOf348
 v53:=Tryz.zeroValue348
 t171:=Tryz.underlying347
 a171:=Tryz.isAgg347
 z171:=Tryz.sizeOf347
 v171:=Tryz.zeroValue347
 t173:=Tryz.underlying351
 a173:=Tryz.isAgg351
 z173:=Tryz.sizeOf351
 v173:=Tryz.zeroValue351
 t212:=Tryz.underlying373
 a212:=Tryz.isAgg373
 z212:=Tryz.sizeOf373
 v212:=Tryz.zeroValue373
 t213:=Tryz.underlying374
 a213:=Tryz.isAgg374
 z213:=Tryz.sizeOf374
 t232:=Tryz.underlying393
 a232:=Tryz.isAgg393
 z232:=Tryz.sizeOf393
 v232:=Tryz.zeroValue393
 t233:=Tryz.underlying394
 a233:=Tryz.isAgg394
 z233:=Tryz.sizeOf394
 v233:=Tryz.zeroValue394
 g17:=by kernel_rfl
 g18:=by kernel_rfl
 g19:=by kernel_rfl
 i0:=by kernel_rfl
 i2:=by kernel_rfl
 i3:=by kernel_rfl
 i4:=by kernel_rfl
 i5:=by kernel_rfl
 i9:=by kernel_rfl
 i20:=by kernel_rfl
 i37:=by kernel_rfl
 i46:=by kernel_rfl
 i51:=by kernel_rfl
 i53:=by kernel_rfl
 i171:=by kernel_rfl
 i173:=by kernel_rfl
 i212:=by kernel_rfl
 i232:=by kernel_rfl
 i233:=by kernel_rfl
 m17:=by kernel_rfl
 m18:=by kernel_rfl
 m19:=by kernel_rfl }
open Go.RowKit Go.Sort Go.Lib in
theorem Tryz.strconv_Itoa (n:Int) (h0: -9223372036854775808<=n) (h1:n<=9223372036854775807) (w:World) (htab:Lib.TabIs Tryz.prog w "internal/strconv.uint64pow10" .u64 Lib.pow10Tab):
    Calls Tryz.prog 224 #[.int .i64 n] w fun e w'=>e=.returned (.string ⟨(Lib.itoa n).toArray⟩)/\∃k os,w'=grow (w.drewN k) os:=Any.strconv_Itoa Tryz.laysM171 n h0 h1 w htab
def Tryz.lays219_ren:Go.Shelf.Ren:=⟨fun|219=>233|217=>268|225=>269|224=>270|267=>271|266=>304|314=>305|n=>n,fun|9=>9|3=>3|4=>4|5=>5|46=>181|146=>313|51=>312|n=>n,fun|1=>0|n=>n⟩
theorem Tryz.lays219:Go.Proofs.Lays.n219 Tryz.prog Tryz.lays219_ren:={
 mixed:=by kernel_rfl
 f217:=Tryz.func268.trans (congrArg some (by kernel_rfl))
 f219:=Tryz.func233.trans (congrArg some (by kernel_rfl))
 f224:=Tryz.func270.trans (congrArg some (by kernel_rfl))
 f225:=Tryz.func269.trans (congrArg some (by kernel_rfl))
 f266:=Tryz.func304.trans (congrArg some (by kernel_rfl))
 f267:=Tryz.func271.trans (congrArg some (by kernel_rfl))
 f314:=Tryz.func305.trans (congrArg some (by kernel_rfl))
 t3:=Tryz.underlying3
 a3:=Tryz.isAgg3
 z3:=Tryz.sizeOf3
 v3:=Tryz.zeroValue3
 t4:=Tryz.underlying4
 a4:=Tryz.isAgg4
 z4:=Tryz.sizeOf4
 v4:=Tryz.zeroValue4
 t5:=Tryz.underlying5
 a5:=Tryz.isAgg5
 z5:=Tryz.sizeOf5
 v5:=Tryz.zeroValue5
 t9:=Tryz.underlying9
 a9:=Tryz.isAgg9
 z9:=Tryz.sizeOf9
 v9:=Tryz.zeroValue9
 t46:=Tryz.underlying181
 a46:=Tryz.isAgg181
 z46:=Tryz.sizeOf181
 v46:=Tryz.zeroValue181
 t51:=Tryz.underlying312
 a51:=Tryz.isAgg312
 z51:=Tryz.sizeOf312
 v51:=Tryz.zeroValue312
 t146:=Tryz.underlying313
 a146:=Tryz.isAgg313
 z146:=Tryz.sizeOf313
 v146:=Tryz.zeroValue313
 g1:=by kernel_rfl }
open Go.RowKit Go.Lib in
theorem Tryz.stringslite_Index_one (s:ByteArray) (c:UInt8) (w:World):
    Calls Tryz.prog 233 #[.string s,.string ⟨#[c]⟩] w fun e w'=>e=.returned (.int .i64 (Lib.indexByte s.data.toList c))/\w'=w:=Any.stringslite_Index_one Tryz.lays219 s c w
def Tryz.lays144_ren:Go.Shelf.Ren:=⟨fun|144=>109|143=>178|219=>233|217=>268|225=>269|224=>270|267=>271|266=>304|314=>305|n=>n,fun|9=>9|4=>4|3=>3|5=>5|46=>181|146=>313|51=>312|n=>n,fun|1=>0|n=>n⟩
theorem Tryz.lays144:Go.Proofs.Lays.n144 Tryz.prog Tryz.lays144_ren:={
 mixed:=by kernel_rfl
 f143:=Tryz.func178.trans (congrArg some (by kernel_rfl))
 f144:=Tryz.func109.trans (congrArg some (by kernel_rfl))
 f217:=Tryz.func268.trans (congrArg some (by kernel_rfl))
 f219:=Tryz.func233.trans (congrArg some (by kernel_rfl))
 f224:=Tryz.func270.trans (congrArg some (by kernel_rfl))
 f225:=Tryz.func269.trans (congrArg some (by kernel_rfl))
 f266:=Tryz.func304.trans (congrArg some (by kernel_rfl))
 f267:=Tryz.func271.trans (congrArg some (by kernel_rfl))
 f314:=Tryz.func305.trans (congrArg some (by kernel_rfl))
 t3:=Tryz.underlying3
 a3:=Tryz.isAgg3
 z3:=Tryz.sizeOf3
 v3:=Tryz.zeroValue3
 t4:=Tryz.underlying4
 a4:=Tryz.isAgg4
 z4:=Tryz.sizeOf4
 v4:=Tryz.zeroValue4
 t5:=Tryz.underlying5
 a5:=Tryz.isAgg5
 z5:=Tryz.sizeOf5
 v5:=Tryz.zeroValue5
 t9:=Tryz.underlying9
 a9:=Tryz.isAgg9
 z9:=Tryz.sizeOf9
 v9:=Tryz.zeroValue9
 t46:=Tryz.underlying181
 a46:=Tryz.isAgg181
 z46:=Tryz.sizeOf181
 v46:=Tryz.zeroValue181
 t51:=Tryz.underlying312
 a51:=Tryz.isAgg312
 z51:=Tryz.sizeOf312
 v51:=Tryz.zeroValue312
 t146:=Tryz.underlying313
 a146:=Tryz.isAgg313
 z146:=Tryz.sizeOf313
 v146:=Tryz.zeroValue313
 g1:=by kernel_rfl }
open Go.RowKit Go.Lib in
theorem Tryz.strings_Contains_one (s:ByteArray) (c:UInt8) (w:World):
    Calls Tryz.prog 109 #[.string s,.string ⟨#[c]⟩] w fun e w'=>e=.returned (.bool (decide (0<=Lib.indexByte s.data.toList c)))/\w'=w:=Any.strings_Contains_one Tryz.lays144 s c w
def Tryz.lays101_ren:Go.Shelf.Ren:=⟨fun|101=>112|208=>182|206=>238|n=>n,fun|9=>9|4=>4|3=>3|n=>n,fun|n=>n⟩
theorem Tryz.lays101:Go.Proofs.Lays.n101 Tryz.prog Tryz.lays101_ren:={
 mixed:=by kernel_rfl
 f101:=Tryz.func112.trans (congrArg some (by kernel_rfl))
 f206:=Tryz.func238.trans (congrArg some (by kernel_rfl))
 f208:=Tryz.func182.trans (congrArg some (by kernel_rfl))
 t3:=Tryz.underlying3
 a3:=Tryz.isAgg3
 z3:=Tryz.sizeOf3
 v3:=Tryz.zeroValue3
 t4:=Tryz.underlying4
 a4:=Tryz.isAgg4
 z4:=Tryz.sizeOf4
 v4:=Tryz.zeroValue4
 t9:=Tryz.underlying9
 a9:=Tryz.isAgg9
 z9:=Tryz.sizeOf9
 v9:=Tryz.zeroValue9 }
open Go.RowKit Go.Lib in
theorem Tryz.strings_TrimPrefix (s p:ByteArray) (w:World):
    Calls Tryz.prog 112 #[.string s,.string p] w fun e w'=>e=.returned (.string ⟨(Lib.trimPrefix s.data.toList p.data.toList).toArray⟩)/\w'=w:=Any.strings_TrimPrefix Tryz.lays101 s p w
def Tryz.lays105_ren:Go.Shelf.Ren:=⟨fun|105=>263|212=>298|99=>299|165=>300|166=>262|170=>301|169=>264|263=>342|264=>343|206=>238|240=>297|241=>344|276=>341|277=>370|n=>n,fun|9=>9|3=>3|4=>4|20=>20|0=>0|46=>181|109=>307|5=>5|72=>280|76=>283|51=>312|146=>313|53=>348|148=>356|70=>278|37=>192|75=>282|127=>311|164=>353|80=>209|n=>n,fun|n=>n⟩
theorem Tryz.lays105:Go.Proofs.Lays.n105 Tryz.prog Tryz.lays105_ren:={
 mixed:=by kernel_rfl
 f99:=Tryz.func299.trans (congrArg some (by kernel_rfl))
 f105:=Tryz.func263.trans (congrArg some (by kernel_rfl))
 f165:=Tryz.func300.trans (congrArg some (by kernel_rfl))
 f166:=Tryz.func262.trans (congrArg some (by kernel_rfl))
 f169:=Tryz.func264.trans (congrArg some (by kernel_rfl))
 f170:=Tryz.func301.trans (congrArg some (by kernel_rfl))
 f206:=Tryz.func238.trans (congrArg some (by kernel_rfl))
 f212:=Tryz.func298.trans (congrArg some (by kernel_rfl))
 f240:=Tryz.func297.trans (congrArg some (by kernel_rfl))
 f241:=Tryz.func344.trans (congrArg some (by kernel_rfl))
 f263:=Tryz.func342.trans (congrArg some (by kernel_rfl))
 f264:=Tryz.func343.trans (congrArg some (by kernel_rfl))
 f276:=Tryz.func341.trans (congrArg some (by kernel_rfl))
 f277:=Tryz.func370.trans (congrArg some (by kernel_rfl))
 t0:=Tryz.underlying0
 a0:=Tryz.isAgg0
 z0:=Tryz.sizeOf0
 v0:=Tryz.zeroValue0
 t3:=Tryz.underlying3
 a3:=Tryz.isAgg3
 z3:=Tryz.sizeOf3
 v3:=Tryz.zeroValue3
 t4:=Tryz.underlying4
 a4:=Tryz.isAgg4
 z4:=Tryz.sizeOf4
 v4:=Tryz.zeroValue4
 t5:=Tryz.underlying5
 a5:=Tryz.isAgg5
 z5:=Tryz.sizeOf5
 v5:=Tryz.zeroValue5
 t9:=Tryz.underlying9
 a9:=Tryz.isAgg9
 z9:=Tryz.sizeOf9
 v9:=Tryz.zeroValue9
 t20:=Tryz.underlying20
 a20:=Tryz.isAgg20
 z20:=Tryz.sizeOf20
 v20:=Tryz.zeroValue20
 t37:=Tryz.underlying192
 a37:=Tryz.isAgg192
 z37:=Tryz.sizeOf192
 v37:=Tryz.zeroValue192
 t46:=Tryz.underlying181
 a46:=Tryz.isAgg181
 z46:=Tryz.sizeOf181
 v46:=Tryz.zeroValue181
 t51:=Tryz.underlying312
 a51:=Tryz.isAgg312
 z51:=Tryz.sizeOf312
 v51:=Tryz.zeroValue312
 t53:=Tryz.underlying348
 a53:=Tryz.isAgg348
 z53:=Tryz.sizeOf348
 v53:=Tryz.zeroValue348
 t70:=Tryz.underlying278
 a70:=Tryz.isAgg278
 z70:=Tryz.sizeOf278
 v70:=Tryz.zeroValue278
 t72:=Tryz.underlying280
 a72:=Tryz.isAgg280
 z72:=Tryz.sizeOf280
 v72:=Tryz.zeroValue280
 t75:=Tryz.underlying282
 a75:=Tryz.isAgg282
 z75:=Tryz.sizeOf282
 v75:=Tryz.zeroValue282
 t76:=Tryz.underlying283
 a76:=Tryz.isAgg283
 z76:=Tryz.sizeOf283
 v76:=Tryz.zeroValue283
 t109:=Tryz.underlying307
 a109:=Tryz.isAgg307
 z109:=Tryz.sizeOf307
 v109:=Tryz.zeroValue307
 t127:=Tryz.underlying311
 a127:=Tryz.isAgg311
 z127:=Tryz.sizeOf311
 v127:=Tryz.zeroValue311
 t146:=Tryz.underlying313
 a146:=Tryz.isAgg313
 z146:=Tryz.sizeOf313
 v146:=Tryz.zeroValue313
 t148:=Tryz.underlying356
 a148:=Tryz.isAgg356
 z148:=Tryz.sizeOf356
 v148:=Tryz.zeroValue356
 t164:=Tryz.underlying353
 a164:=Tryz.isAgg353
 z164:=Tryz.sizeOf353
 v164:=Tryz.zeroValue353 }
theorem Tryz.Builder_Extra_105:Builder.Extra Tryz.prog Tryz.lays105_ren:={
 sizeBuilder:=by kernel_rfl
 liesBuilder:=by kernel_rfl
 t5:=Tryz.underlying5
 a5:=Tryz.isAgg5
 z5:=Tryz.sizeOf5
 v5:=Tryz.zeroValue5
 infoByte:=by kernel_rfl
 cellsByte:=by kernel_rfl
 sizeByte:=by kernel_rfl
 neB5:=by decide }
open Go.RowKit Go.Lib in
theorem Tryz.strings_Repeat (s:ByteArray) (c:Nat) (w:World) (hc:c<=9223372036854775807) (hlen:s.size*c<=140737488355328):
    Calls Tryz.prog 263 #[.string s,.int .i64 c] w fun e w'=>e=.returned (.string ⟨(Lib.repeatL s.data.toList c).toArray⟩)/\Below w.heap.size w w':=Any.strings_Repeat Tryz.lays105 Tryz.Builder_Extra_105 s c w hc hlen
end Go.Proofs
end
