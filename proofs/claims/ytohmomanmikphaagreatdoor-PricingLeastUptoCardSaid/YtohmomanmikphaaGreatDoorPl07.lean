import Derived.Lib.ItoaMem
import Derived.Laws.Strings
import Derived.Shelf.Strings.Builder1
import Derived.Shelf.Strings.Builder2
import Derived.Shelf.Small.Strs
import Derived.Shelf.Small.Wraps
import Derived.Shelf.Strings.BuilderF
import Derived.Shelf.Strings.BuilderK
import Derived.Shelf.Strings.Builder2Cap
import Derived.Shelf.Strconv.Itoa0
import Derived.Shelf.Strconv.Itoa1
import Derived.Shelf.LaysM
import Derived.Shelf.Strconv.Itoa2
import Derived.Shelf.Strconv.Itoa3
import Derived.Shelf.Strings.Search1
import Derived.Shelf.Strings.Search2
import Derived.Shelf.Strings.Search3
import Derived.Shelf.Strings.Cut
import Derived.Shelf.Strings.Shaped
import Derived.Shelf.Strings.Prefix
import Derived.Shelf.Bits.Mul64
import Derived.Shelf.Strings.Repeat
import Derived.Shelf.Strings.BuilderCap
import Derived.Ground.Names2Prog
import Derived.Shelf.Slices.SearchI
import Derived.Test.YtohmomanmikphaaGreatDoorProg
import Derived.Test.YtohmomanmikphaaGreatDoorPl06
set_option linter.unusedSimpArgs false
set_option linter.unusedVariables false
set_option maxRecDepth 100000
section
namespace Go.Aw
open Go.RowKit
section
variable{P:Program}{S:Sg}{w:World}{H:aH}{f:FuncId}{args args':List AV}{K:AV->aH->Prop}
theorem St.frz(I:St S w H)(l:List Nat):St (S.froze fun k=>if k∈l then H k else none) w (fun k=>if k∈l then none else H k)/\Grow S w (S.froze fun k=>if k∈l then H k else none) w/\St S w fun k=>if k∈l then H k else none:=by
 let Hf:aH:=fun k=>if k∈l then H k else none
 let Hr:aH:=fun k=>if k∈l then none else H k
 have M:∀k r',Hf k=some r'->k∈l/\H k=some r':=fun k r' u=>by
   by_cases e:k∈l
   . exact⟨e,by simpa[Hf,e]using u⟩
   . simp[Hf,e]at u
 have F:∀k r',Hr k=some r'->¬k∈l/\H k=some r':=fun k r' u=>by
   by_cases e:k∈l
   . simp[Hr,e]at u
   . exact⟨e,by simpa[Hr,e]using u⟩
 refine⟨⟨?_,?_,fun k r' u=>(I.rows k r' (F k r' u).2).keep (S.le_froze Hf) (fG.refl S w) (fun _ _=>rfl),?_,fun k k' r1 J u Z O g E T=>I.disj k k' r1 J (F k r1 u).2 (F k' J Z).2 O g E T,I.tabs.keep (S.le_froze Hf) (fG.refl S w)⟩,⟨S.le_froze Hf,fun k u=>.inl u,rfl,rfl,rfl,Nat.le_refl _,fun _ _=>rfl,?_⟩,I.drop fun k r' u=>(M k r' u).2⟩
 . rintro g (E|E)
   . exact .inl (I.ro_fz g E)
   . exact .inr E
 . rintro g (E|⟨k,r',u,E⟩)
   . exact I.fz_lt g E
   . exact(I.rows k r' (M k r' u).2).block_lt E
 . rintro k r' u g E (h1|⟨i,J,hi,h2⟩)
   . exact I.free k r' (F k r' u).2 g E h1
   . exact I.disj k i r' J (F k r' u).2 (M i J hi).2 (fun e=>(F k r' u).1 (e▸(M i J hi).1)) g E h2
 . rintro g (E|⟨k,r',u,E⟩)
   . exact .inl E
   . exact .inr (I.free k r' (M k r' u).2 g E)
theorem bA.frz(l:List Nat)(J:ConvL (fun k=>if k∈l then H k else none) args args')(h:bA P f args' (fun k=>if k∈l then none else H k) K):bA P f args H K:=by
 intro S w vals hS ha;obtain⟨h1,E,T⟩:=hS.frz l;refine(h _ w vals h1 (J.rep T ha)).mono fun e w' ⟨v,r,H',S',I,F,u,Z,M,hn⟩=>⟨v,r,H',S',I,F,u,Z,E.trans M,fun k O h0=>hn k O ?_⟩
 by_cases e:k∈l
 . simp[e]
 . simpa[e]using h0
theorem PC.useF{r:AV}(l:List Nat)(E:ConvL (fun k=>if k∈l then H k else none) args args')(h:PC P f args' r)(u:K r (fun k=>if k∈l then none else H k)):bA P f args H K:=bA.frz l E (PC.use h u)
theorem PC.lib{a:List Value}{r:AV}{v:Value}(O:∀S w,rep S w r v)(h:∀w,(∀t∈UT,qV w t.1=some t.2)->Calls P f a.toArray w fun e w'=>e=.returned v/\Below w.heap.size w w'):PC P f (a.map .v) r:=by
 intro S w vals I hf J;obtain rfl:vals=a:=by
   clear h;induction a generalizing vals with
   | nil=>
     cases vals with
     | nil=>rfl
     | cons x r=>simp[bG]at J
   | cons x a ih=>
     simp only[List.map_cons,bG]at J;obtain⟨u,t,rfl,h1,M⟩:=J;simp only[rep]at h1;subst h1;rw[ih t M]
 refine(h w fun t Z=>(I.tabs t Z).2).mono fun e w' ⟨T,E⟩=>?_
 exact⟨v,r,bY,S,T,rfl,I.after E.size fun k F=>E.block k F,O S w',I.grow E.os E.tape E.output E.size fun k F=>E.block k F,eY.refl _ _⟩
end
end Go.Aw
end
section
namespace Go.Nu
open Go Go.Lib
def ofL(b:Nat):List Nat->Nat
 | []=>0
 | x::r=>x+b*ofL b r
def Lim(b:Nat)(l:List Nat):Prop:=∀x∈l,x<b
def aO(b:Nat)(n:Nat):List Nat:=if h:n=0\/b<2 then[]else n%b::aO b (n/b)
termination_by n
decreasing_by exact Nat.div_lt_self (by omega) (by omega)
def lW:List Nat->List Nat
 | []=>[]
 | x::r=>match lW r with
   | []=>if x=0 then[]else[x]
   | y::t=>x::y::t
theorem oP(b:Nat):∀l r:List Nat,ofL b (l++r)=ofL b l+b^l.length*ofL b r
 | [],r=>by simp[ofL]
 | x::l,r=>by
   simp only[List.cons_append,ofL,oP b l r,List.length_cons,Nat.pow_succ,Nat.mul_add,Nat.add_assoc];rw[Nat.mul_comm (b^l.length) b,Nat.mul_assoc]
theorem rB(b:Nat)(l:List Nat)(x:Nat):ofL b (l++[x])=ofL b l+b^l.length*x:=by rw[oP];simp[ofL]
theorem iR{b:Nat}(F:0<b):∀{l:List Nat},Lim b l->ofL b l<b^l.length
 | [],_=>by simp[ofL]
 | x::l,h=>by
   have h1:=h x (by simp);have u:=iR F (l:=l) fun y E=>h y (by simp[E])
   simp only[ofL,List.length_cons,Nat.pow_succ];have:b*(ofL b l+1)<=b*b^l.length:=Nat.mul_le_mul_left _ u;rw[Nat.mul_add]at this;rw[Nat.mul_comm (b^l.length) b];omega
theorem jA(b:Nat){l:List Nat}{k x:Nat}(h:l[k]?=some x):ofL b (l.take (k+1))=ofL b (l.take k)+b^k*x:=by
 rw[List.take_add_one,h];simp only[Option.toList];rw[rB,List.length_take,Nat.min_eq_left (Nat.le_of_lt (List.getElem?_eq_some_iff.1 h).1)]
theorem Jh(b:Nat):∀(l:List Nat) (k x v:Nat),l[k]?=some x->ofL b (l.set k v)+b^k*x=ofL b l+b^k*v
 | [],k,x,v,h=>by simp at h
 | y::l,0,x,v,h=>by
   simp only[List.getElem?_cons_zero,Option.some.injEq]at h;subst h;simp only[List.set_cons_zero,ofL,Nat.pow_zero,Nat.one_mul];omega
 | y::l,k+1,x,v,h=>by
   have:=Jh b l k x v (by simpa using h);have u:b*(ofL b (l.set k v)+b^k*x)=b*(ofL b l+b^k*v):=by rw[this]
   simp only[List.set_cons_succ,ofL,Nat.pow_succ];rw[Nat.mul_add,Nat.mul_add,<-Nat.mul_assoc,<-Nat.mul_assoc]at u;rw[Nat.mul_comm (b^k) b];omega
theorem Iw(b n:Nat):ofL b (List.replicate n 0)=0:=by
 induction n with
 | zero=>rfl
 | succ n ih=>simp[List.replicate_succ,ofL,ih]
theorem dD(b:Nat):aO b 0=[]:=by rw[aO];simp
theorem lL{b n:Nat}(E:2<=b)(u:n≠0):aO b n=n%b::aO b (n/b):=by
 rw[aO,dif_neg (by omega)]
theorem bZ{b:Nat}(F:2<=b)(n:Nat):Lim b (aO b n):=by
 induction n using Nat.strongRecOn with
 | _ n ih=>
   by_cases E:n=0
   . subst E;rw[dD];intro x u;cases u
   . rw[lL F E]
     intro x u;rcases List.mem_cons.1 u with rfl|u
     . exact Nat.mod_lt _ (by omega)
     . exact ih (n/b) (Nat.div_lt_self (by omega) (by omega)) x u
theorem cD{b:Nat}(E:2<=b)(n:Nat):ofL b (aO b n)=n:=by
 induction n using Nat.strongRecOn with
 | _ n ih=>
   by_cases u:n=0
   . subst u;rw[dD];rfl
   . rw[lL E u,ofL,ih (n/b) (Nat.div_lt_self (by omega) (by omega))]
     exact Nat.mod_add_div n b
theorem mU{b n:Nat}(u:2<=b):aO b n=[]↔n=0:=by
 constructor
 . intro h
   have:=cD u n;rw[h]at this;exact this.symm
 . rintro rfl;exact dD b
theorem Gf{b x m:Nat}(E:2<=b)(u:x<b)(h:x+b*m≠0):aO b (x+b*m)=x::aO b m:=by
 rw[lL E h,Nat.add_mul_mod_self_left,Nat.mod_eq_of_lt u,Nat.add_mul_div_left _ _ (by omega),Nat.div_eq_of_lt u,Nat.zero_add]
theorem Fr{b:Nat}(E:2<=b):∀{l:List Nat},Lim b l->lW l=aO b (ofL b l)
 | [],_=>by rw[ofL,dD];rfl
 | x::l,h=>by
   have ih:=Fr E (l:=l) fun y J=>h y (by simp[J])
   have I:=h x (by simp);rw[lW,ih];by_cases h0:ofL b l=0
   . simp only[ofL,h0,dD]
     by_cases u:x=0
     . subst u;simp[dD]
     . rw[if_neg u,Gf E I (by omega),dD]
   . have F:aO b (ofL b l)≠[]:=fun e=>h0 ((mU E).1 e)
     rw[ofL,Gf E I (by have:0<b*ofL b l:=Nat.mul_pos (by omega) (by omega);omega)];split
     . rename_i e;exact absurd e F
     . rename_i e;rw[e]
theorem J2{b:Nat}(E:2<=b){l:List Nat}{n:Nat}(h:Lim b l)(u:ofL b l=n):lW l=aO b n:=by rw[Fr E h,u]
theorem gF{b:Nat}(E:2<=b){n k:Nat}(h:n<b^k):(aO b n).length<=k:=by
 induction k generalizing n with
 | zero => have : n = 0 := by simpa using h
           subst this;rw[dD];exact Nat.le_refl _
 | succ k ih=>
   by_cases u:n=0
   . subst u;rw[dD];exact Nat.zero_le _
   . rw[lL E u,List.length_cons]
     refine Nat.succ_le_succ (ih ?_);rw[Nat.div_lt_iff_lt_mul (by omega)]
     rwa [Nat.pow_succ]at h
theorem Jx{b:Nat}(u:2<=b){n k:Nat}(h:b^k<=n):k<(aO b n).length:=by
 have h1:=iR (b:=b) (by omega) (bZ u n);rw[cD u]at h1;exact(Nat.pow_lt_pow_iff_right (by omega)).1 (Nat.lt_of_le_of_lt h h1)
theorem cC{b:Nat}(u:2<=b){m n:Nat}(h:m<=n):(aO b m).length<=(aO b n).length:=by
 refine gF u ?_;have h1:=iR (b:=b) (by omega) (bZ u n);rw[cD u]at h1;omega
theorem Qg{b:Nat}(u:2<=b){n:Nat}(E:n≠0):b^((aO b n).length-1)<=n:=by
 induction n using Nat.strongRecOn with
 | _ n ih=>
   rw[lL u E,List.length_cons,Nat.add_sub_cancel];by_cases h0:n/b=0
   . rw[h0,dD];simp;omega
   . have:=ih (n/b) (Nat.div_lt_self (by omega) (by omega)) h0
     have F:(aO b (n/b)).length=((aO b (n/b)).length-1)+1:=by
       have:aO b (n/b)≠[]:=fun e=>h0 ((mU u).1 e)
       have:=List.length_pos_iff.2 this;omega
     rw[F,Nat.pow_succ];exact Nat.le_trans (Nat.mul_le_mul_right b this) (Nat.div_mul_le_self n b)
theorem Hy{b:Nat}(Z:0<b){l r:List Nat}(hl:Lim b l)(hr:Lim b r)(F:l.length=r.length){k x y:Nat}(E:l[k]?=some x)(M:r[k]?=some y)(u:x<y)(J:l.drop (k+1)=r.drop (k+1)):ofL b l<ofL b r:=by
 have hk:k<l.length:=(List.getElem?_eq_some_iff.1 E).1;have e1:l=l.take (k+1)++l.drop (k+1):=(List.take_append_drop _ _).symm;have T:r=r.take (k+1)++r.drop (k+1):=(List.take_append_drop _ _).symm;rw[e1,T,oP,oP,J,jA b E,jA b M,List.length_take,List.length_take,Nat.min_eq_left (by omega),Nat.min_eq_left (by omega)];have h1:=iR Z (l:=l.take k) fun z O=>hl z (List.mem_of_mem_take O)
 rw[List.length_take,Nat.min_eq_left (by omega)]at h1;have I:b^k*(x+1)<=b^k*y:=Nat.mul_le_mul_left _ u;rw[Nat.mul_add]at I;omega
theorem IC{b:Nat}(u:2<=b){m n:Nat}(h:(aO b m).length<(aO b n).length):m<n:=by
 rcases Nat.lt_or_ge m n with h1|h1
 . exact h1
 . have:=cC u h1;omega
theorem Ep{α:Type}{p:List α->Prop}(h0:p [])(h1:∀l c,p l->p (l++[c]))(l:List α):p l:=by
 have:∀r:List α,p r.reverse:=fun r=>by
   induction r with
   | nil=>exact h0
   | cons c r ih=>rw[List.reverse_cons];exact h1 _ _ ih
 rw[<-List.reverse_reverse l];exact this _
def isD(c:UInt8):Bool:=decide (48<=c.toNat)&&decide (c.toNat<=57)
def fU(l:List UInt8):Nat:=l.foldl (fun a c=>10*a+(c.toNat-48)) 0
def eD(l:List UInt8):Bool:=l != []&&(l.length == 1||l.getD 0 0 != 48)&&l.all isD
def dec(n:Nat):ByteArray:=⟨(decDigits n).toArray⟩
theorem lP(l:List UInt8)(c:UInt8):fU (l++[c])=10*fU l+(c.toNat-48):=by simp[fU]
theorem CZ{α:Type}{l r:List α}{k:Nat}{d:α}(h:k<l.length):(l++r).getD k d=l.getD k d:=by
 simp only[List.getD,List.getElem?_append_left h]
theorem lQ{d:Nat}(h:d<10):(UInt8.ofNat (48+d)).toNat=48+d:=by
 rw[UInt8.toNat_ofNat'];omega
theorem nE(n:Nat):fU (decDigits n)=n:=by
 induction n using Nat.strongRecOn with
 | _ n ih=>
   rw[decDigits];split
   . rename_i h
     simp only[fU,List.foldl_cons,List.foldl_nil,lQ h];omega
   . rename_i h
     rw[lP,ih (n/10) (by omega),lQ (by omega)];omega
theorem sG(n:Nat):(decDigits n).all isD=true:=by
 induction n using Nat.strongRecOn with
 | _ n ih=>
   rw[decDigits];split
   . rename_i h
     simp only[List.all_cons,List.all_nil,Bool.and_true,isD,lQ h,Bool.and_eq_true,decide_eq_true_eq];omega
   . rename_i h
     rw[List.all_append,ih (n/10) (by omega)];simp only[List.all_cons,List.all_nil,Bool.and_true,Bool.true_and,isD,lQ (show n%10<10 by omega),Bool.and_eq_true,decide_eq_true_eq];omega
theorem ES(n:Nat):decDigits n≠[]:=by
 rw[decDigits];split <;> simp
theorem gL(n:Nat):0<(decDigits n).length:=List.length_pos_iff.2 (ES n)
theorem V0{n:Nat}(h:n≠0):(decDigits n).getD 0 0≠48:=by
 induction n using Nat.strongRecOn with
 | _ n ih=>
   rw[decDigits];split
   . rename_i h1
     simp only[List.getD_cons_zero];intro e;have:=lQ h1;rw[e]at this;simp at this;omega
   . rename_i h1
     have u:=ih (n/10) (by omega) (by omega);have E:=gL (n/10);rw[CZ E];exact u
theorem yT{n:Nat}:(decDigits n).length=1↔n<10:=by
 rw[decDigits];split
 . simp_all
 . rename_i h
   have:=gL (n/10);simp only[List.length_append,List.length_cons,List.length_nil];omega
theorem Tl(n:Nat):eD (decDigits n)=true:=by
 unfold eD;simp only[Bool.and_eq_true,bne_iff_ne,ne_eq,Bool.or_eq_true,beq_iff_eq];refine⟨⟨ES n,?_⟩,sG n⟩;by_cases h:n=0
 . left;rw[yT];omega
 . right;exact V0 h
theorem kS{c:UInt8}:isD c=true↔48<=c.toNat/\c.toNat<=57:=by simp[isD]
theorem YA{c:UInt8}(h:isD c=true):UInt8.ofNat (48+(c.toNat-48))=c:=by
 rw[kS]at h;rw[show 48+(c.toNat-48)=c.toNat by omega];exact UInt8.ofNat_toNat
theorem XG:∀{l:List UInt8},l.all isD=true->l≠[]->l.getD 0 0≠48->10^(l.length-1)<=fU l:=by
 intro l;induction l using Ep with
 | h0=>intro _ h;exact absurd rfl h
 | h1 l c ih=>
   intro u _ h0;rw[List.all_append]at u;simp only[Bool.and_eq_true,List.all_cons,List.all_nil,Bool.and_true]at u;rw[lP];by_cases E:l=[]
   . subst E
     simp only[List.nil_append,List.getD_cons_zero]at h0;simp only[List.nil_append,List.length_cons,List.length_nil,Nat.zero_add,Nat.sub_self,Nat.pow_zero];have:=kS.1 u.2;have h1:c.toNat≠48:=fun e=>h0 (UInt8.toNat.inj e)
     omega
   . have F:=List.length_pos_iff.2 E
     rw[CZ F]at h0;have:=ih u.1 E h0;simp only[List.length_append,List.length_cons,List.length_nil,Nat.zero_add,Nat.add_sub_cancel];rw[show l.length=(l.length-1)+1 by omega,Nat.pow_succ];omega
theorem J9:∀{l:List UInt8},eD l=true->decDigits (fU l)=l:=by
 intro l;induction l using Ep with
 | h0=>intro h;simp[eD]at h
 | h1 l c ih=>
   intro h;unfold eD at h;simp only[Bool.and_eq_true,bne_iff_ne,ne_eq,Bool.or_eq_true,beq_iff_eq,List.all_append,List.all_cons,List.all_nil,Bool.and_true]at h;obtain⟨⟨_,h1⟩,F,E⟩:=h;have O:=kS.1 E;by_cases u:l=[]
   . subst u
     rw[List.nil_append];rw[show fU [c]=c.toNat-48 by simp[fU],decDigits_one (by omega),YA E]
   . have J:=List.length_pos_iff.2 u
     have h0:l.getD 0 0≠48:=by
       rcases h1 with h1|h1
       . simp only[List.length_append,List.length_cons,List.length_nil]at h1;omega
       . rwa [CZ J]at h1
     have M:=XG F u h0;have I:1<=fU l:=Nat.le_trans (Nat.one_le_pow _ _ (by omega)) M;rw[lP,decDigits,dif_neg (by omega)];rw[show(10*fU l+(c.toNat-48))/10=fU l by omega,show(10*fU l+(c.toNat-48))%10=c.toNat-48 by omega,YA E,ih];unfold eD;simp only[Bool.and_eq_true,bne_iff_ne,ne_eq,Bool.or_eq_true,beq_iff_eq];exact⟨⟨u,.inr h0⟩,F⟩
theorem jE{n k:Nat}(F:1<=k):(decDigits n).length<=k↔n<10^k:=by
 rw[decDigits_length];constructor
 . intro h
   exact Nat.lt_of_lt_of_le (lt_pow_nDigits n) (Nat.pow_le_pow_right (by omega) h)
 . intro h
   by_cases h0:n<10
   . rw[nDigits_small h0];exact F
   . induction k generalizing n with
     | zero=>omega
     | succ k ih=>
       by_cases u:k=0
       . subst u;simp at h;omega
       . rw[nDigits_big h0]
         rw[Nat.pow_succ]at h;have:=Nat.succ_le_succ (show nDigits (n/10)<=k from by
           by_cases E:n/10<10
           . rw[nDigits_small E];omega
           . exact ih (by omega) (by omega) E)
         exact this
def bl(s:ByteArray):List UInt8:=s.data.toList
theorem jC{a b:ByteArray}(h:bl a=bl b):a=b:=by
 cases a;cases b;simp only[bl]at h;rw[Array.toList_inj.1 h]
theorem cF(s:ByteArray):(bl s).length=s.size:=by unfold bl;rw[Array.length_toList];rfl
def eqB(a b:ByteArray):Bool:=bl a == bl b
theorem jQ{a b:ByteArray}:eqB a b=true↔a=b:=by
 unfold eqB;rw[beq_iff_eq];exact⟨jC,fun h=>by rw[h]⟩
theorem kW{a b:ByteArray}:eqB a b=false↔a≠b:=by rw[<-Bool.not_eq_true,jQ]
theorem iK(l:List UInt8):bl ⟨l.toArray⟩=l:=by simp[bl]
theorem kM(a b:ByteArray):bl (a++b)=bl a++bl b:=by unfold bl;rw[ByteArray.data_append,Array.toList_append]
theorem alP(s:ByteArray):(⟨(bl s).toArray⟩:ByteArray)=s:=jC (iK _)
def emp:ByteArray:=ByteArray.empty
theorem ajG:bl emp=[]:=rfl
theorem eQ(s:ByteArray)(a b:Nat):bl (s.extract a b)=((bl s).take b).drop a:=by
 simp[bl,ByteArray.data_extract,Array.toList_extract,List.extract_eq_take_drop,List.drop_take]
def Yj:Nat:=4096
def cK:Nat:=10^Yj
theorem Jm{n k:Nat}(h:n<10^k)(u:k<=4096):n<cK:=Nat.lt_of_lt_of_le h (Nat.pow_le_pow_right (show 0<10 by omega) (show k<=Yj from u))
theorem adC:0<cK:=Nat.pow_pos (show 0<10 by omega)
def dC(s:ByteArray):Bool:=eD (bl s)
def dU(s:ByteArray):Nat:=fU (bl s)
theorem gO(n:Nat):bl (dec n)=decDigits n:=iK _
theorem kB(n:Nat):dC (dec n)=true:=by unfold dC;rw[gO];exact Tl n
theorem bU(n:Nat):dU (dec n)=n:=by unfold dU;rw[gO];exact nE n
theorem iB{s:ByteArray}(h:dC s=true):dec (dU s)=s:=jC (by rw[gO];exact J9 h)
theorem iA(n:Nat):(dec n).size=(decDigits n).length:=by rw[<-cF,gO]
theorem gI(n:Nat):(dec n).size<=4096↔n<cK:=by rw[iA];exact jE (k:=Yj) (by decide)
theorem vX{s:ByteArray}(h:dC s=true):s.size<=4096↔dU s<cK:=by
 have:=gI (dU s)
 rwa [iB h]at this
theorem pB{m n:Nat}:dec m=dec n↔m=n:=⟨fun h=>by rw[<-bU m,h,bU],fun h=>by rw[h]⟩
def szN(n:Nat):ByteArray×Int:=if n<cK then(dec n,0)else(emp,4)
def iI(a b:ByteArray):Int:=if(!dC a|| !dC b)=true then 3 else if(decide (a.size>4096)||decide (b.size>4096))=true then 4 else 0
def QU(a b:ByteArray):ByteArray×Int:=if iI a b=0 then szN (dU a+dU b)else(emp,iI a b)
def OW(a b:ByteArray):ByteArray×Int:=if iI a b=0 then(if dU a<dU b then(emp,2)else szN (dU a-dU b))else(emp,iI a b)
def Pf(a b:ByteArray):ByteArray×Int:=if iI a b=0 then szN (dU a*dU b)else(emp,iI a b)
def By(a b:ByteArray):ByteArray×ByteArray×Int:=if iI a b=0 then(if dU b=0 then(emp,emp,10)else(dec (dU a/dU b),dec (dU a%dU b),0))else(emp,emp,iI a b)
def xC(a b:ByteArray):ByteArray×Int:=if iI a b=0 then szN (Nat.gcd (dU a) (dU b))else(emp,iI a b)
theorem Eo{a b:ByteArray}(u:dC a=true)(E:dC b=true)(I:a.size<=4096)(F:b.size<=4096):iI a b=0:=by
 unfold iI;rw[u,E];simp;omega
theorem uR{m n:Nat}(E:m<cK)(u:n<cK):iI (dec m) (dec n)=0:=Eo (kB m) (kB n) ((gI m).2 E) ((gI n).2 u)
theorem pC{a b:ByteArray}(h:iI a b=0):∃m n,a=dec m/\b=dec n/\m<cK/\n<cK:=by
 unfold iI at h;split at h
 . cases h
 . rename_i h1
   split at h
   . cases h
   . rename_i u
     simp only[Bool.or_eq_true,Bool.not_eq_true',not_or,Bool.not_eq_false,decide_eq_true_eq,Nat.not_lt]at h1 u;exact⟨dU a,dU b,(iB h1.1).symm,(iB h1.2).symm,(vX h1.1).1 u.1,(vX h1.2).1 u.2⟩
theorem wK{n:Nat}(h:n<cK):szN n=(dec n,0):=if_pos h
def eJ(s:ByteArray):Bool:=(bl s).head? == some 45
def dP(s:ByteArray):ByteArray:=if eJ s=true then⟨((bl s).drop 1).toArray⟩else s
def dV(s:ByteArray):Bool:=dC (dP s)&& !(eJ s&&eqB (dP s) (dec 0))
def eU(s:ByteArray):Int:=if eJ s=true then -(dU (dP s):Int)else dU (dP s)
def zed(n:Int):ByteArray:=⟨(itoa n).toArray⟩
theorem cN(n:Nat):zed n=dec n:=by unfold zed;rw[itoa_nonneg];rfl
theorem Bu{n:Nat}(h:1<=n):zed (-(n:Int))=⟨((45:UInt8)::decDigits n).toArray⟩:=by unfold zed;rw[itoa_neg n h]
theorem A6(n:Nat):eJ (dec n)=false:=by
 unfold eJ;rw[gO];have h1:=sG n;have u:=ES n;cases h:decDigits n with
 | nil=>exact absurd h u
 | cons c r=>
   rw[h]at h1;simp only[List.all_cons,Bool.and_eq_true]at h1;have:=kS.1 h1.1;simp only[List.head?_cons,beq_eq_false_iff_ne,ne_eq,Option.some.injEq];intro e;rw[e]at this;simp at this
theorem Mh(n:Nat):dP (dec n)=dec n:=by unfold dP;rw[A6];rfl
theorem ED(l:List UInt8):eJ ⟨((45:UInt8)::l).toArray⟩=true:=by unfold eJ;rw[iK];rfl
theorem Up(l:List UInt8):dP ⟨((45:UInt8)::l).toArray⟩=⟨l.toArray⟩:=by unfold dP;rw[ED,if_pos rfl,iK];rfl
theorem oO(n:Int):eJ (zed n)=decide (n<0):=by
 rcases Int.lt_or_le n 0 with h|h
 . obtain⟨m,rfl⟩:∃m:Nat,n= -(m:Int):=⟨n.natAbs,by omega⟩
   rw[Bu (by omega),ED];simp;omega
 . obtain⟨m,rfl⟩:∃m:Nat,n=m:=⟨n.toNat,by omega⟩
   rw[cN,A6];simp
theorem iD(n:Int):dP (zed n)=dec n.natAbs:=by
 rcases Int.lt_or_le n 0 with h|h
 . obtain⟨m,rfl⟩:∃m:Nat,n= -(m:Int):=⟨n.natAbs,by omega⟩
   rw[Bu (by omega),Up,Int.natAbs_neg,Int.natAbs_natCast];rfl
 . obtain⟨m,rfl⟩:∃m:Nat,n=m:=⟨n.toNat,by omega⟩
   rw[cN,Mh,Int.natAbs_natCast]
theorem mK(n:Int):dV (zed n)=true:=by
 unfold dV;rw[iD,oO,kB];simp only[Bool.true_and,Bool.not_eq_true',Bool.and_eq_false_iff,decide_eq_false_iff_not];by_cases h:n<0
 . right
   refine kW.2 fun e=>?_
   rw[pB]at e;omega
 . left;exact h
theorem bX(n:Int):eU (zed n)=n:=by
 unfold eU;rw[iD,oO,bU];split
 . rename_i h;simp only[decide_eq_true_eq]at h;omega
 . rename_i h;simp only[decide_eq_true_eq]at h;omega
theorem rD{s:ByteArray}(h:dV s=true):zed (eU s)=s:=by
 unfold dV at h;simp only[Bool.and_eq_true,Bool.not_eq_true',Bool.and_eq_false_iff]at h;obtain⟨h1,E⟩:=h;have I:=iB h1;unfold eU;by_cases u:eJ s=true
 . have O : dP s ≠ dec 0 := by
     rcases E with E|E
     . rw[u]at E;cases E
     . exact kW.1 E
   rw[if_pos u];have M:1<=dU (dP s):=by
     rcases Nat.eq_zero_or_pos (dU (dP s))with F|F
     . exact absurd (by rw[<-I,F]) O
     . exact F
   rw[Bu M];refine jC ?_;rw[iK,<-gO,I];unfold dP;rw[if_pos u,iK];unfold eJ at u;cases J:bl s with
   | nil=>rw[J]at u;cases u
   | cons c r=>
     rw[J]at u;simp only[List.head?_cons,beq_iff_eq,Option.some.injEq]at u;subst u;rfl
 . rw[if_neg u,cN,I]
   unfold dP;rw[if_neg u]
theorem Vy{m n:Int}:zed m=zed n↔m=n:=⟨fun h=>by rw[<-bX m,h,bX],fun h=>by rw[h]⟩
def szZ(n:Int):ByteArray×Int:=if n.natAbs<cK then(zed n,0)else(emp,4)
def iO(a b:ByteArray):Int:=if(!dV a|| !dV b)=true then 3 else if(decide ((dP a).size>4096)||decide ((dP b).size>4096))=true then 4 else 0
def GZ(a b:ByteArray):ByteArray×Int:=if iO a b=0 then szZ (eU a+eU b)else(emp,iO a b)
def Ue(a b:ByteArray):ByteArray×Int:=if iO a b=0 then szZ (eU a-eU b)else(emp,iO a b)
def tH(a b:ByteArray):ByteArray×Int:=if iO a b=0 then szZ (eU a*eU b)else(emp,iO a b)
def rX(a b:ByteArray):ByteArray×ByteArray×Int:=if iO a b=0 then(if eU b=0 then(emp,emp,10)else(zed ((eU a).fdiv (eU b)),zed ((eU a).fmod (eU b)),0))else(emp,emp,iO a b)
def fR(a b:Int):Int:=if a<b then -1 else if b<a then 1 else 0
def NZ(a b:ByteArray):Int:=if dV a=true/\dV b=true then fR (eU a) (eU b)else 0
def xG(a:ByteArray):Int:=if dV a=true then(eU a).sign else 0
theorem nM{m n:Int}(E:m.natAbs<cK)(u:n.natAbs<cK):iO (zed m) (zed n)=0:=by
 unfold iO;rw[mK,mK,iD,iD];have:=(gI m.natAbs).2 E;have:=(gI n.natAbs).2 u;simp;omega
theorem mZ{a b:ByteArray}(h:iO a b=0):∃m n:Int,a=zed m/\b=zed n/\m.natAbs<cK/\n.natAbs<cK:=by
 unfold iO at h;split at h
 . cases h
 . rename_i h1
   split at h
   . cases h
   . rename_i u
     simp only[Bool.or_eq_true,Bool.not_eq_true',not_or,Bool.not_eq_false,decide_eq_true_eq,Nat.not_lt]at h1 u;have E:=rD h1.1;have F:=rD h1.2;refine⟨eU a,eU b,E.symm,F.symm,?_,?_⟩
     . have:=u.1
       rw[<-E,iD]at this;exact(gI _).1 this
     . have:=u.2
       rw[<-F,iD]at this;exact(gI _).1 this
def dM:UInt8:=47
def jJ(s:ByteArray):Bool:=(bl s).any (· == dM)
def fD(s:ByteArray):ByteArray:=⟨((bl s).takeWhile (· != dM)).toArray⟩
def eZ(s:ByteArray):ByteArray:=if jJ s=true then⟨(((bl s).dropWhile (· != dM)).drop 1).toArray⟩else dec 1
def bQ(s:ByteArray):Bool:=(dV (fD s)&&dC (eZ s)&&decide ((dP (fD s)).size<=4096)&&decide ((eZ s).size<=4096)) &&
 (!jJ s||(!eqB (eZ s) (dec 0)&& !eqB (eZ s) (dec 1)&& !eqB (fD s) (dec 0)&&Nat.gcd (eU (fD s)).natAbs (dU (eZ s)) == 1))
def gJ(s:ByteArray):Rat:=mkRat (eU (fD s)) (dU (eZ s))
def slB:ByteArray:=⟨#[47]⟩
def jM(x:Rat):ByteArray:=if x.den=1 then zed x.num else zed x.num++slB++dec x.den
def pW(x:Rat):Prop:=x.num.natAbs<cK/\x.den<cK
theorem wN{α:Type}{p:α->Bool}:∀{l:List α},(∀c∈l,p c=true)->l.takeWhile p=l
 | [],_=>rfl
 | a::l,h=>by rw[List.takeWhile_cons,if_pos (h a (by simp)),wN fun c u=>h c (by simp[u])]
theorem CQ{α:Type}{p:α->Bool}:∀{l:List α} {c:α},c∈l.takeWhile p->p c=true
 | [],c,h=>by simp at h
 | a::l,c,h=>by
   rw[List.takeWhile_cons]at h;split at h
   . rename_i u
     rcases List.mem_cons.1 h with rfl|h
     . exact u
     . exact CQ h
   . cases h
theorem LN{c:UInt8}(h:isD c=true):(c != dM)=true:=by
 have:=kS.1 h;simp only[bne_iff_ne,ne_eq];intro e;rw[e]at this;simp[dM]at this
theorem DU(n:Nat):∀c∈decDigits n,(c != dM)=true:=fun c u=>LN (List.all_eq_true.1 (sG n) c u)
theorem qL(n:Int):∀c∈itoa n,(c != dM)=true:=by
 intro c u;unfold itoa at u;split at u
 . rcases List.mem_cons.1 u with rfl|u
   . decide
   . exact DU _ c u
 . exact DU _ c u
theorem EA(n:Int):bl (zed n)=itoa n:=iK _
theorem ahU:bl slB=[dM]:=rfl
theorem Hz{l r:List UInt8}(h:∀c∈l,(c != dM)=true):(l++dM::r).takeWhile (· != dM)=l:=by
 rw[List.takeWhile_append_of_pos h];simp
theorem IN{l r:List UInt8}(h:∀c∈l,(c != dM)=true):(l++dM::r).dropWhile (· != dM)=dM::r:=by
 rw[List.dropWhile_append_of_pos h];simp
theorem AU{l:List UInt8}(h:∀c∈l,(c != dM)=true):l.any (· == dM)=false:=by
 rw[List.any_eq_false];intro c u e;have:=h c u;simp at this e;exact this e
theorem sS(x:Rat):bl (jM x)=if x.den=1 then itoa x.num else itoa x.num++dM::decDigits x.den:=by
 unfold jM;split
 . exact EA _
 . rw[kM,kM,EA,gO,ahU];simp
theorem F7(x:Rat):jJ (jM x)= !(x.den == 1):=by
 unfold jJ;rw[sS];split
 . rename_i h;rw[AU (qL _),h];rfl
 . rename_i h
   rw[List.any_append];simp[h]
theorem G3(x:Rat):fD (jM x)=zed x.num:=by
 refine jC ?_;unfold fD;rw[iK,sS,EA];split
 . exact wN (qL _)
 . exact Hz (qL _)
theorem Hv(x:Rat):eZ (jM x)=dec x.den:=by
 unfold eZ;rw[F7,sS];by_cases h:x.den=1
 . simp[h]
 . simp only[h,beq_eq_false_iff_ne.2 h,Bool.not_false,if_true,if_false]
   rw[IN (qL _)];rfl
theorem eH(x:Rat):gJ (jM x)=x:=by
 unfold gJ;rw[G3,Hv,bX,bU,Rat.mkRat_self]
theorem oK(n:Int):(dP (zed n)).size<=4096↔n.natAbs<cK:=by rw[iD];exact gI _
theorem mT{x:Rat}(h:pW x):bQ (jM x)=true:=by
 unfold bQ;rw[G3,Hv,mK,kB,F7,bX,bU];simp only[Bool.true_and,Bool.and_eq_true,decide_eq_true_eq,Bool.or_eq_true,Bool.not_not,beq_iff_eq,Bool.not_eq_true',kW,ne_eq];refine⟨⟨(oK _).2 h.1,(gI _).2 h.2⟩,?_⟩;by_cases h1:x.den=1
 . exact .inl h1
 . refine .inr ⟨⟨⟨?_,?_⟩,?_⟩,x.reduced⟩
   . rw[pB];exact x.den_nz
   . rw[pB];exact h1
   . rw[<-cN,Vy]
     intro h0;apply h1;have:=x.reduced;rw[h0]at this;simpa[Nat.Coprime]using this
theorem dZ{s:ByteArray}(h:bQ s=true):∃x:Rat,s=jM x/\pW x/\fD s=zed x.num/\eZ s=dec x.den:=by
 unfold bQ at h;simp only[Bool.and_eq_true,decide_eq_true_eq,Bool.or_eq_true,Bool.not_eq_true',kW,ne_eq,beq_iff_eq]at h;obtain⟨⟨⟨⟨h1,h2⟩,h3⟩,h4⟩,F⟩:=h;have ep:=rD h1;have eq:=iB h2;have E:(eU (fD s)).natAbs.Coprime (dU (eZ s))/\dU (eZ s)≠0:=by
   rcases F with F|⟨⟨⟨T,_⟩,_⟩,h7⟩
   . have M:eZ s=dec 1:=by unfold eZ;rw[if_neg (by rw[F];simp)]
     rw[M,bU];exact⟨Nat.coprime_one_right _,by omega⟩
   . exact⟨h7,fun e=>T (by rw[<-eq,e])⟩
 let x:Rat:=⟨eU (fD s),dU (eZ s),E.2,E.1⟩
 have M:fD s=zed x.num:=ep.symm;have I:eZ s=dec x.den:=eq.symm;refine⟨x,jC ?_,⟨?_,?_⟩,M,I⟩
 . rw[sS]
   have hn:bl (fD s)=(bl s).takeWhile (· != dM):=iK _;rw[M,EA]at hn;by_cases u:jJ s=true
   . have hd:bl (eZ s)=((bl s).dropWhile (· != dM)).drop 1:=by unfold eZ;rw[if_pos u,iK]
     rw[I,gO]at hd;have Z:x.den≠1:=fun e=>by
       rcases F with F|⟨⟨⟨_,T⟩,_⟩,_⟩
       . rw[u]at F;cases F
       . exact T (by rw[I,e])
     rw[if_neg Z,hn,hd]
     conv=>lhs;rw[<-List.takeWhile_append_dropWhile (p:=(· != dM)) (l:=bl s)]
     congr 1
     cases hw:(bl s).dropWhile (· != dM)with
     | nil=>
       exfalso
       unfold jJ at u;obtain⟨c,O,J⟩:=List.any_eq_true.1 u;rw[<-List.takeWhile_append_dropWhile (p:=(· != dM)) (l:=bl s),hw,List.append_nil]at O;have:=CQ O;simp at this J;exact this J
     | cons c r=>
       have h0:(c != dM)=false:=by
         have:=List.head?_dropWhile_not (p:=(· != dM)) (l:=bl s);rw[hw]at this;simpa using this
       have:c=dM:=by simpa using h0
       rw[this];rfl
   . have u:jJ s=false:=by simpa using u
     have Z:x.den=1:=by
       have:eZ s=dec 1:=by unfold eZ;rw[u];rfl
       rw[I]at this;exact pB.1 this
     rw[if_pos Z,hn]
     symm
     refine wN ?_;intro c O;unfold jJ at u;rw[List.any_eq_false]at u;have:=u c O;simp at this |-;exact this
 . rw[M]at h3;exact(oK _).1 h3
 . rw[I]at h4;exact(gI _).1 h4
theorem WG{x y:Rat}:jM x=jM y↔x=y:=⟨fun h=>by rw[<-eH x,h,eH],fun h=>by rw[h]⟩
def lF(n:Int):Bool:= !decide (n.natAbs<cK)
def CY(x y:Rat):ByteArray×Int:=if(lF (x.num*y.den)||lF (y.num*x.den)||lF (x.num*y.den+y.num*x.den)||lF (x.den*y.den))=true then(emp,4)else(jM (x+y),0)
def rO(a b:ByteArray):ByteArray×Int:=if(bQ a&&bQ b)=true then CY (gJ a) (gJ b)else(emp,3)
def zT(a b:ByteArray):ByteArray×Int:=if(bQ a&&bQ b)=true then CY (gJ a) (-gJ b)else(emp,3)
def Dr(x y:Rat):ByteArray×Int:=if(lF (x.num*y.num)||lF (x.den*y.den))=true then(emp,4)else(jM (x*y),0)
def rW(a b:ByteArray):ByteArray×Int:=if(bQ a&&bQ b)=true then Dr (gJ a) (gJ b)else(emp,3)
def Ju(x y:Rat):Int:=if x<y then -1 else if y<x then 1 else 0
def zU(a b:ByteArray):Int:=if(bQ a&&bQ b)=true then Ju (gJ a) (gJ b)else 0
def yQ(a:ByteArray):Int:=if bQ a=true then(gJ a).num.sign else 0
theorem Q7{n:Int}{d:Nat}(u:d≠0):n.fdiv (Nat.gcd n.natAbs d:Nat)=(mkRat n d).num:=by
 rw[Rat.num_mkRat,if_neg u,Nat.gcd_comm];exact Int.fdiv_eq_ediv_of_nonneg _ (by omega)
theorem Sx{n:Int}{d:Nat}(u:d≠0):(d:Int).fdiv (Nat.gcd n.natAbs d:Nat)=((mkRat n d).den:Int):=by
 rw[Rat.den_mkRat,if_neg u,Nat.gcd_comm,Int.fdiv_eq_ediv_of_nonneg _ (by omega)];rfl
theorem BA{n:Int}{d:Nat}(E:d≠0)(F:n.natAbs<cK)(u:d<cK):pW (mkRat n d):=by
 constructor
 . rw[Rat.num_mkRat,if_neg E]
   have:(n/((d.gcd n.natAbs:Nat):Int)).natAbs<=n.natAbs:=by
     rw[Int.natAbs_ediv_of_dvd]
     . exact Nat.div_le_self _ _
     . exact Int.ofNat_dvd_left.2 (Nat.gcd_dvd_right _ _)
   omega
 . rw[Rat.den_mkRat,if_neg E]
   exact Nat.lt_of_le_of_lt (Nat.div_le_self _ _) u
theorem RG{n:Int}{d:Nat}(u:d≠0):0<Nat.gcd n.natAbs d:=Nat.gcd_pos_of_pos_right _ (by omega)
theorem Iv{n:Int}{d:Nat}(u:d≠0)(h:d<cK):Nat.gcd n.natAbs d<cK:=Nat.lt_of_le_of_lt (Nat.gcd_le_right _ (by omega)) h
theorem fW{n:Int}:lF n=false↔n.natAbs<cK:=by simp[lF]
theorem JY(x y:Rat):x+y=mkRat (x.num*y.den+y.num*x.den) (x.den*y.den):=Rat.add_def' x y
theorem Qr(x y:Rat):x*y=mkRat (x.num*y.num) (x.den*y.den):=Rat.mul_def' x y
theorem yY(x y:Rat):((x.den:Int)*y.den).natAbs=x.den*y.den:=by rw[Int.natAbs_mul,Int.natAbs_natCast,Int.natAbs_natCast]
theorem Cq(x y:Rat):x.den*y.den≠0:=Nat.mul_ne_zero x.den_nz y.den_nz
theorem Au{x y:Rat}(h:(CY x y).2=0):CY x y=(jM (x+y),0)/\pW (x+y):=by
 unfold CY at h |-;split at h
 . cases h
 . rename_i u
   rw[if_neg u];simp only[Bool.or_eq_true,not_or,Bool.not_eq_true,fW]at u;exact⟨rfl,by rw[JY];exact BA (Cq x y) u.1.2 (by rw[<-yY];exact u.2)⟩
theorem ML{x y:Rat}(h:(Dr x y).2=0):Dr x y=(jM (x*y),0)/\pW (x*y):=by
 unfold Dr at h |-;split at h
 . cases h
 . rename_i u
   rw[if_neg u];simp only[Bool.or_eq_true,not_or,Bool.not_eq_true,fW]at u;exact⟨rfl,by rw[Qr];exact BA (Cq x y) u.1 (by rw[<-yY];exact u.2)⟩
def FY(p q r s:Int):Int:=fR (p*s) (r*q)
theorem nW{p q:Int}(u:0<q):p=p.fdiv q*q+p.fmod q/\0<=p.fmod q/\p.fmod q<q:=
 ⟨by rw[Int.mul_comm];exact(Int.mul_fdiv_add_fmod p q).symm,Int.fmod_nonneg_of_pos _ u,Int.fmod_lt_of_pos _ u⟩
theorem gV{a b:Int}(h:a<b):fR a b= -1:=if_pos h
theorem gT{a b:Int}(h:b<a):fR a b=1:=by unfold fR;rw[if_neg (by omega),if_pos h]
theorem nZ{a b:Int}(h:a=b):fR a b=0:=by unfold fR;rw[if_neg (by omega),if_neg (by omega)]
theorem Cm{a b:Int}:fR a b=0↔a=b:=by
 unfold fR;constructor
 . intro h
   split at h
   . cases h
   . split at h
     . cases h
     . omega
 . intro h;rw[if_neg (by omega),if_neg (by omega)]
theorem Te(a b:Int):fR b a= -fR a b:=by
 rcases Int.lt_trichotomy a b with h|h|h
 . rw[gV h,gT h];rfl
 . rw[nZ h,nZ h.symm];rfl
 . rw[gT h,gV h]
theorem Mm{p q r s:Int}(E:0<q)(u:0<s)(h:p.fdiv q<r.fdiv s):p*s<r*q:=by
 obtain⟨T,a1,O⟩:=nW (p:=p) E;obtain⟨J,a2,M⟩:=nW (p:=r) u;have h1:p*s<(p.fdiv q+1)*q*s:=by
   refine Int.mul_lt_mul_of_pos_right ?_ u;rw[Int.add_mul];omega
 have F:(p.fdiv q+1)*q*s<=r.fdiv s*q*s:=Int.mul_le_mul_of_nonneg_right (Int.mul_le_mul_of_nonneg_right (by omega) (by omega)) (by omega);have I:r.fdiv s*q*s<=r*q:=by
   rw[Int.mul_right_comm];exact Int.mul_le_mul_of_nonneg_right (by omega) (by omega)
 omega
theorem FF{p q r s:Int}(E:0<q)(u:0<s)(h:p.fdiv q≠r.fdiv s):FY p q r s=fR (p.fdiv q) (r.fdiv s):=by
 unfold FY;rcases Int.lt_or_gt_of_ne h with h|h
 . rw[gV h,gV (Mm E u h)]
 . rw[gT h,gT (Mm u E h)]
theorem G8{p q r s:Int}(J:0<q)(M:0<s)(h:p.fdiv q=r.fdiv s):FY p q r s=fR (p.fmod q*s) (r.fmod s*q):=by
 obtain⟨O,_,_⟩:=nW (p:=p) J;obtain⟨F,_,_⟩:=nW (p:=r) M;unfold FY;have h1:p*s=p.fdiv q*q*s+p.fmod q*s:=by
   conv=>lhs;rw[O]
   rw[Int.add_mul]
 have u:r*q=p.fdiv q*q*s+r.fmod s*q:=by
   conv=>lhs;rw[F]
   rw[Int.add_mul,<-h,Int.mul_right_comm]
 rw[h1,u];unfold fR;have E:(p.fdiv q*q*s+p.fmod q*s<p.fdiv q*q*s+r.fmod s*q)↔p.fmod q*s<r.fmod s*q:=by omega
 have I:(p.fdiv q*q*s+r.fmod s*q<p.fdiv q*q*s+p.fmod q*s)↔r.fmod s*q<p.fmod q*s:=by omega
 simp only[E,I]
theorem I7(x q y s:Int):fR (x*s) (y*q)= -FY q x s y:=by
 unfold FY;rw[Int.mul_comm q y,Int.mul_comm s x];exact Te _ _
theorem QM(x y:Rat):Ju x y=FY x.num x.den y.num y.den:=by
 unfold Ju FY fR;simp only[Rat.lt_iff]
theorem VC(n:Int):n.sign=fR n 0:=by
 rcases Int.lt_trichotomy n 0 with h|h|h
 . rw[gV h,Int.sign_eq_neg_one_of_neg h]
 . subst h;rfl
 . rw[gT h,Int.sign_eq_one_of_pos h]
theorem Hg(x:Rat):Ju x 0=x.num.sign:=by
 rw[QM,VC];unfold FY;simp
theorem qS(b:Nat)(l:List Nat)(k:Nat):ofL b (l.take (k+1))=ofL b (l.take k)+b^k*l.getD k 0:=by
 cases h:l[k]? with
 | none=>
   have u:=List.getElem?_eq_none_iff.1 h;rw[List.take_of_length_le (by omega),List.take_of_length_le (by omega)];simp[List.getD,h]
 | some x=>rw[jA b h];simp[List.getD,h]
theorem Lim.getD{b:Nat}(E:0<b){l:List Nat}(h:Lim b l)(k:Nat):l.getD k 0<b:=by
 cases u:l[k]? with
 | none=>simpa[List.getD,u]using E
 | some x=>simpa[List.getD,u]using h x (List.mem_of_getElem? u)
theorem Lim.snoc{b:Nat}{l:List Nat}(h:Lim b l){x:Nat}(E:x<b):Lim b (l++[x]):=fun y u=>by
 rcases List.mem_append.1 u with u|u
 . exact h y u
 . rw[List.mem_singleton.1 u];exact E
theorem Lim.set{b:Nat}{l:List Nat}(h:Lim b l){x k:Nat}(E:x<b):Lim b (l.set k x):=fun y u=>by
 rcases List.mem_or_eq_of_mem_set u with u|rfl
 . exact h y u
 . exact E
theorem Lim.take{b:Nat}{l:List Nat}(h:Lim b l)(k:Nat):Lim b (l.take k):=fun y u=>h y (List.mem_of_mem_take u)
theorem Lim.drop{b:Nat}{l:List Nat}(h:Lim b l)(k:Nat):Lim b (l.drop k):=fun y u=>h y (List.mem_of_mem_drop u)
theorem Lim.zeros{b:Nat}(E:0<b)(n:Nat):Lim b (List.replicate n 0):=fun y u=>by
 rw[(List.mem_replicate.1 u).2];exact E
theorem yP(b:Nat){l:List Nat}{k x:Nat}(h:l[k]?=some x):ofL b (l.drop k)=x+b*ofL b (l.drop (k+1)):=by
 obtain⟨u,E⟩:=List.getElem?_eq_some_iff.1 h;rw[List.drop_eq_getElem_cons u,E,ofL]
theorem PT{b:Nat}(I:0<b){l o:List Nat}{i n k c:Nat}(u:l[i]?=some n)(E:o.length=i)(h:ofL b o+b^i*c=ofL b (l.take i)*k):
   ofL b (o++[(n*k+c)%b])+b^(i+1)*((n*k+c)/b)=ofL b (l.take (i+1))*k:=by
 rw[rB,jA b u,E,Nat.pow_succ];have e:=Nat.mod_add_div (n*k+c) b;have F:b^i*((n*k+c)%b+b*((n*k+c)/b))=b^i*(n*k+c):=by rw[e]
 grind
theorem K8{b:Nat}(F:0<b){x y o:List Nat}{i c:Nat}(u:o.length=i)(h:ofL b o+b^i*c=ofL b (x.take i)+ofL b (y.take i)):
   ofL b (o++[(x.getD i 0+y.getD i 0+c)%b])+b^(i+1)*((x.getD i 0+y.getD i 0+c)/b)=ofL b (x.take (i+1))+ofL b (y.take (i+1)):=by
 rw[rB,qS,qS,u,Nat.pow_succ];have e:=Nat.mod_add_div (x.getD i 0+y.getD i 0+c) b;have E:b^i*((x.getD i 0+y.getD i 0+c)%b+b*((x.getD i 0+y.getD i 0+c)/b))=b^i*(x.getD i 0+y.getD i 0+c):=by rw[e]
 grind
theorem AG{b:Nat}{x y o:List Nat}{i c c' d:Nat}(E:o.length=i)(h:ofL b o+ofL b (y.take i)=ofL b (x.take i)+b^i*c)(u:d+y.getD i 0+c=x.getD i 0+b*c'):
   ofL b (o++[d])+ofL b (y.take (i+1))=ofL b (x.take (i+1))+b^(i+1)*c':=by
 rw[rB,qS,qS,E,Nat.pow_succ];have F:b^i*(d+y.getD i 0+c)=b^i*(x.getD i 0+b*c'):=by rw[u]
 grind
theorem DF{b x y c:Nat}(E:x<b)(u:y<b)(F:c<=1):(if(x:Int)-y-c<0 then(x:Int)-y-c+b else(x:Int)-y-c)=((if x<y+c then x+b-(y+c)else x-(y+c):Nat):Int):=by
 split <;> split <;> omega
theorem uZ{b x y c:Nat}(E:x<b)(u:y<b)(F:c<=1):(if x<y+c then x+b-(y+c)else x-(y+c))+y+c=x+b*(if x<y+c then 1 else 0)/\(if x<y+c then x+b-(y+c)else x-(y+c))<b:=by
 split <;> constructor <;> omega
theorem Cu{b:Nat}(O:2<=b){x y o:List Nat}{c:Nat}(F:Lim b o)(T:Lim b x)(J:o.length=x.length)(E:y.length<=x.length)(I:ofL b y<=ofL b x)(M:c<=1)(h:ofL b o+ofL b (y.take x.length)=ofL b (x.take x.length)+b^x.length*c):
   c=0/\ofL b o=ofL b x-ofL b y:=by
 rw[List.take_of_length_le E,List.take_length]at h;have h1:=iR (by omega) F;rw[J]at h1;rcases Nat.eq_zero_or_pos c with u|u
 . subst u;rw[Nat.mul_zero]at h;omega
 . have:c=1:=by omega
   subst this;rw[Nat.mul_one]at h;omega
theorem Mq{b:Nat}(O:0<b){y out E:List Nat}{i k x c v u:Nat}(I:out[i+k]?=some v)(F:y[k]?=some u)(h:ofL b out+b^(i+k)*c=ofL b E+b^i*(x*ofL b (y.take k))):
   ofL b (out.set (i+k) ((v+x*u+c)%b))+b^(i+(k+1))*((v+x*u+c)/b)=ofL b E+b^i*(x*ofL b (y.take (k+1))):=by
 have h1:=Jh b out (i+k) v ((v+x*u+c)%b) I;have e:=Nat.mod_add_div (v+x*u+c) b;have M:b^(i+k)*((v+x*u+c)%b+b*((v+x*u+c)/b))=b^(i+k)*(v+x*u+c):=by rw[e]
 rw[jA b F,show i+(k+1)=(i+k)+1 by omega,Nat.pow_succ];have J:b^(i+k)=b^i*b^k:=Nat.pow_add b i k
 grind
theorem RZ{b:Nat}{y out u:List Nat}{i x c:Nat}(E:out[i+y.length]?=some 0)(h:ofL b out+b^(i+y.length)*c=ofL b u+b^i*(x*ofL b (y.take y.length))):
   ofL b (out.set (i+y.length) c)=ofL b u+b^i*(x*ofL b y):=by
 have h1:=Jh b out (i+y.length) 0 c E;rw[List.take_length]at h;rw[<-h];omega
theorem NH{b r a:Nat}(T:2<=b){l:List Nat}{i x:Nat}{u:List Nat}(M:l[i]?=some x)(O:x<b)(I:r<a)(F:i<u.length)(h:ofL b (l.drop (i+1))=ofL b (u.drop (i+1))*a+r):
   ofL b (l.drop i)=ofL b ((u.set i ((x+b*r)/a)).drop i)*a+(x+b*r)%a/\(x+b*r)/a<b/\(x+b*r)%a<a:=by
 have E:0<a:=by omega
 have J:(u.set i ((x+b*r)/a))[i]?=some ((x+b*r)/a):=by simp[F]
 refine⟨?_,?_,Nat.mod_lt _ E⟩
 . rw[yP b M,yP b J,h,List.drop_set_of_lt (by omega)]
   have e:=Nat.mod_add_div (x+b*r) a
   grind
 . rw[Nat.div_lt_iff_lt_mul E]
   have:b*(r+1)<=b*a:=Nat.mul_le_mul_left _ I;rw[Nat.mul_add]at this;omega
theorem ZX{q r a n:Nat}(u:r<a)(h:n=q*a+r):q=n/a/\r=n%a:=by
 subst h;have E:0<a:=by omega
 constructor
 . rw[Nat.add_comm,Nat.add_mul_div_right _ _ E,Nat.div_eq_of_lt u,Nat.zero_add]
 . rw[Nat.add_comm,Nat.add_mul_mod_self_right,Nat.mod_eq_of_lt u]
theorem XW(l:List UInt8):∀a:Nat,l.foldl (fun a c=>10*a+(c.toNat-48)) a=a*10^l.length+fU l:=by
 induction l with
 | nil=>intro a;simp[fU]
 | cons c l ih=>
   intro a;have h1:=ih (10*a+(c.toNat-48));have u:=ih (10*0+(c.toNat-48));simp only[List.foldl_cons,fU]at h1 u |-;rw[h1,u,List.length_cons,Nat.pow_succ]
   grind
theorem sX(a b:List UInt8):fU (a++b)=fU a*10^b.length+fU b:=by
 rw[fU,List.foldl_append];exact XW b _
theorem Em{l:List UInt8}(h:l.all isD=true):fU l<10^l.length:=by
 induction l using Ep with
 | h0=>simp[fU]
 | h1 l c ih=>
   rw[List.all_append]at h;simp only[Bool.and_eq_true,List.all_cons,List.all_nil,Bool.and_true]at h;have:=ih h.1;have u:=kS.1 h.2;rw[lP,List.length_append,List.length_cons,List.length_nil,Nat.pow_succ];omega
def NN:Nat->Nat->List UInt8
 | 0,_=>[]
 | k+1,x=>NN k (x/10)++[UInt8.ofNat (48+x%10)]
theorem Im:∀(k x m:Nat),x<10^k->m≠0->decDigits (x+10^k*m)=decDigits m++NN k x
 | 0,x,m,hx,hm=>by
   have:x=0:=by simpa using hx
   subst this;simp[NN]
 | k+1,x,m,hx,hm=>by
   rw[Nat.pow_succ]at hx;have h1:10^(k+1)*m=10*(10^k*m):=by rw[Nat.pow_succ,Nat.mul_comm (10^k) 10,Nat.mul_assoc]
   have u:0<10^k*m:=Nat.mul_pos (Nat.pow_pos (by omega)) (by omega);rw[h1,decDigits,dif_neg (by omega),show(x+10*(10^k*m))/10=x/10+10^k*m by omega,show(x+10*(10^k*m))%10=x%10 by omega,Im k (x/10) m (by omega) hm,NN,List.append_assoc]
theorem Uz(k:Nat):NN k 0=List.replicate k 48:=by
 induction k with
 | zero=>rfl
 | succ k ih=>
   rw[NN,Nat.zero_div,ih,List.replicate_succ'];rfl
theorem Sj:∀(k x:Nat),1<=k->x<10^k->NN k x=List.replicate (k-(decDigits x).length) 48++decDigits x
 | 0,x,hk,hx=>by omega
 | k+1,x,hk,hx=>by
   rw[NN];by_cases u:x<10
   . rw[show x/10=0 by omega,Uz,decDigits_one u]
     simp[Nat.mod_eq_of_lt u]
   . have E : 1 <= k := by
       rcases Nat.eq_zero_or_pos k with h|h
       . subst h;simp at hx;omega
       . exact h
     rw[Nat.pow_succ]at hx;rw[Sj k (x/10) E (by omega)]
     conv=>rhs;rw[decDigits,dif_neg u]
     rw[List.length_append,List.length_cons,List.length_nil,List.append_assoc,show k+1-((decDigits (x/10)).length+(0+1))=k-(decDigits (x/10)).length by omega]
def asM(x:Nat):List UInt8:=List.replicate (9-(decDigits x).length) 48++decDigits x
theorem V3{x m:Nat}(u:x<1000000000)(E:m≠0):decDigits (x+1000000000*m)=decDigits m++asM x:=by
 have:=Im 9 x m u E;rw[Sj 9 x (by omega) u]at this;exact this
theorem Xy{b:Nat}(u:2<=b){n k:Nat}(F:k<(aO b n).length):ofL b ((aO b n).drop k)≠0:=by
 intro h;have J:n≠0:=fun e=>by subst e;rw[dD]at F;simp at F
 have h1:=Qg u J;have E:ofL b (aO b n)=ofL b ((aO b n).take k)+b^k*ofL b ((aO b n).drop k):=by
   have:=oP b ((aO b n).take k) ((aO b n).drop k);rw[List.take_append_drop,List.length_take,Nat.min_eq_left (by omega)]at this;exact this
 rw[cD u,h,Nat.mul_zero,Nat.add_zero]at E;have I:=iR (b:=b) (by omega) ((bZ u n).take k);rw[List.length_take,Nat.min_eq_left (by omega),<-E]at I;have:b^k<=b^((aO b n).length-1):=Nat.pow_le_pow_right (by omega) (by omega);omega
def dl(l:List UInt8):List Nat:=(l.map fun c=>c.toNat-48).reverse
theorem Fp(l:List UInt8):(dl l).length=l.length:=by simp[dl]
theorem OQ(l:List UInt8):ofL 10 (dl l)=fU l:=by
 induction l using Ep with
 | h0=>rfl
 | h1 l c ih=>
   rw[lP,<-ih];simp only[dl,List.map_append,List.map_cons,List.map_nil,List.reverse_append,List.reverse_cons,List.reverse_nil,List.nil_append,List.singleton_append,ofL];omega
theorem Oh{l:List UInt8}(h:l.all isD=true):Lim 10 (dl l):=by
 intro x u;simp only[dl,List.mem_reverse,List.mem_map]at u;obtain⟨c,E,rfl⟩:=u;have:=kS.1 (List.all_eq_true.1 h c E);omega
def txt(l:List Nat):List UInt8:=(l.map fun x=>UInt8.ofNat (48+x)).reverse
theorem adZ{l:List Nat}(h:Lim 10 l):(txt l).all isD=true:=by
 rw[List.all_eq_true];intro c u;simp only[txt,List.mem_reverse,List.mem_map]at u;obtain⟨x,E,rfl⟩:=u;have:=h x E;rw[kS,lQ this];omega
theorem ajM{l:List Nat}(h:Lim 10 l):dl (txt l)=l:=by
 simp only[dl,txt,List.map_reverse,List.reverse_reverse,List.map_map]
 conv=>rhs;rw[<-List.map_id l]
 refine List.map_congr_left fun x u=>?_
 simp only[Function.comp,lQ (h x u),id];omega
theorem Yk{l:List Nat}(h:Lim 10 l):fU (txt l)=ofL 10 l:=by rw[<-OQ,ajM h]
theorem CM{n:Nat}(u:n≠0):txt (aO 10 n)=decDigits n:=by
 induction n using Nat.strongRecOn with
 | _ n ih=>
   rw[lL (by omega) u,decDigits];simp only[txt,List.map_cons,List.reverse_cons];split
   . rename_i h
     rw[show n/10=0 by omega,dD,Nat.mod_eq_of_lt h];rfl
   . rename_i h
     rw[<-ih (n/10) (by omega) (by omega)];rfl
end Go.Nu
end
section
namespace Go.Proofs.YtohmomanmikphaaGreatDoor.Nu
open Go.Proofs.Tryz(prog)
open Go.Aw Go.Aw.D Go.Proofs Ty Go.Nu
abbrev bas:Nat:=1000000000
def eO(n:Nat):List AV:=[int n]
theorem L7(n:Nat):(eO n).length=1:=(rfl)
theorem agB(n:Nat):(eO n).getD 0 .any=int n:=(rfl)
attribute [go_sem] L7 agB
theorem cI{H:aH}{k:IntKind}{a b:Int}(h:a=b):Conv H (.v (.int k a)) (.v (.int k b)):=h▸.refl _
theorem cB{H:aH}{a b:Bool}(h:a=b):Conv H (.v (.bool a)) (.v (.bool b)):=h▸.refl _
theorem cS{H:aH}{a b:ByteArray}(h:a=b):Conv H (.v (.string a)) (.v (.string b)):=h▸.refl _
theorem ltB{k n:Nat}(h:decide ((k:Int)<(n:Int))=true):k<n:=by simpa using h
theorem geB{k n:Nat}(u:k<=n)(h:decide ((k:Int)<(n:Int))=false):k=n:=by
 have:¬k<n:=by simpa using h
 omega
theorem awZ(s:ByteArray):s.toList=bl s:=ByteArray.toList_eq s
theorem arC(l:List Nat):cZ 1 (l.map eO):=Av L7 l
theorem axZ(s:ByteArray)(k:Nat):s.data.getD k 0=(bl s).getD k 0:=by simp[bl,Array.getD_eq_getD_getElem?,List.getD]
theorem ahE(a:Array UInt8):bl ⟨a⟩=a.toList:=rfl
attribute [go_sem] awZ axZ ahE
theorem QS{α:Type}{q:α->Bool}{l:List α}{k:Nat}{c:α}(h:l[k]?=some c)(u:q c=false):l.all q=false:=by
 cases E:l.all q with
 | false=>rfl
 | true=>
   have:=Xao.1 E c (Xae h);rw[u]at this;cases this
theorem JG{α:Type}{q:α->Bool}{l:List α}(h:∀c∈l,q c=true):l.all q=true:=Xao.2 h
theorem iS{α:Type}{p:α->Prop}{l:List α}{k:Nat}{x:α}(F:l[k]?=some x)(E:p x)(h:∀x∈l.take k,p x):∀x∈l.take (k+1),p x:=by
 rw[bP F];intro y u;rcases Xbe.1 u with u|u
 . exact h y u
 . rw[Xaq.1 u];exact E
theorem arS{c:UInt8}{n:Nat}(u:n<256):(((c.toNat:Int) == (n:Int))=true)↔c=UInt8.ofNat n:=by
 rw[Xaw];constructor
 . intro h
   have:c.toNat=n:=by omega
   rw[<-this,UInt8.ofNat_toNat]
 . intro h
   rw[h,UInt8.toNat_ofNat'];omega
theorem QY(l:List UInt8):(l == []||(((l.getD 0 0).toNat:Int) == 48&& !(l == [48])))= !(l != []&&(l.length == 1||l.getD 0 0 != 48)):=by
 cases l with
 | nil=>rfl
 | cons c r=>
   have u:(((c.toNat:Int) == 48)=true)↔c=48:=arS (n:=48) (by omega);by_cases h:c=48
   . subst h
     cases r <;> rfl
   . have h1 : ((c.toNat : Int) == 48) = false := by
       rw[<-Bool.not_eq_true,u];exact h
     simp[h1,h]
theorem JO(c:UInt8):(decide ((c.toNat:Int)<48)||decide ((c.toNat:Int)>57))= !isD c:=by
 unfold isD;rw[Xax];simp only[Xbt,decide_eq_true_eq,Xbp,Bool.and_eq_false_iff,decide_eq_false_iff_not];omega
theorem u8w{n:Nat}(h:48<=n)(u:n<256):IntKind.u8.wrap ((n:Int)-48)=((n-48:Nat):Int):=by
 have e:IntKind.u8.wrap ((n:Int)-48)=((n:Int)-48)%256:=rfl;rw[e];omega
theorem pD{l:List UInt8}{k:Nat}{c:UInt8}(h:l[k]?=some c):l.getD k 0=c:=by simp[List.getD,h]
theorem BV(s:ByteArray)(h:s.size<=4611686018427387904):PC prog 110 [str s] (boo (dC s)):=by
 have Z:=cF s;refine pcd Tryz.func110 ?_;unfold Tryz.f110;simp only[gdS];simp only[go_sem];refine⟨fun h0=>⟨by omega,?_⟩,?_⟩
 . have:bl s≠[]:=by simpa using h0
   have:=Xbv.2 this;omega
 rw[QY];refine aA (fun M=>?_) (fun M=>?_)
 . simp only[go_sem]
   refine cB ?_;unfold dC eD;rw[Xbp]at M;rw[M];rfl
 rw[Xbl]at M;simp only[go_sem];refine⟨fun ρ _=>∃k:Nat,k<=(bl s).length/\ρ 0=str s/\ρ 16=int s.size/\ρ 17=int k/\∀c∈(bl s).take k,isD c=true,fun ρ _=>(bl s).length-aT (ρ 17),⟨0,Xab _,rfl,rfl,rfl,by simp⟩,?_⟩;rintro ρ H ⟨k,hk,h0,J,F,T⟩;simp only[go_sem,h0,J,F];refine aA (fun u=>?_) (fun E=>?_)
 . have u:k<(bl s).length:=by have:=ltB u;omega
   obtain⟨c,O⟩:=aN u;have hi:=pD O;simp only[go_sem,h0,J,F,hi,JO];refine⟨⟨by omega,by omega⟩,fun _=>⟨by omega,by omega⟩,aA (fun I=>?_) (fun I=>?_)⟩
   . simp only[go_sem]
     refine cB ?_;unfold dC eD;rw[QS O (by simpa using I),Bool.and_false]
   . simp only[go_sem,h0,J,F,aP (show k<=4611686018427387904 by omega)]
     exact⟨⟨k+1,u,rfl,iS O (by simpa using I) T⟩,by simp only[aE];omega⟩
 . have E:k=(bl s).length:=by rw[<-Z]at E;exact geB hk E
   subst E;rw[Xag]at T;simp only[go_sem];refine cB ?_;unfold dC eD;rw[M,JG T];rfl
theorem uU:∀(l:List Nat) (x:Nat),lW (l++[x])=if x=0 then lW l else l++[x]
 | [],x=>by simp only[Xbf,lW]
 | y::l,x=>by
   rw[List.cons_append,lW,uU l x];by_cases h:x=0
   . rw[if_pos h,if_pos h,lW]
   . rw[if_neg h,if_neg h]
     cases l <;> rfl
theorem ahV(l:List Nat)(h:l.length<=4611686018427387904):PC prog 235 [.sl (l.map eO)] (.sl ((lW l).map eO)):=by
 refine pcd Tryz.func235 ?_;unfold Tryz.f235;simp only[gdS];simp only[go_sem];refine⟨fun ρ _=>∃k:Nat,k<=l.length/\ρ 0=.sl ((l.take k).map eO)/\lW (l.take k)=lW l,fun ρ _=>match ρ 0 with| .sl es=>es.length|_=>0,⟨l.length,Xaf _,by rw[Xag];rfl,by rw[Xag]⟩,?_⟩;rintro ρ H ⟨k,hk,h0,F⟩;have u:(l.take k).length=k:=by rw[Xal];omega
 cases k with
 | zero=>
   simp only[go_sem,h0,u,show decide (((0:Nat):Int)>0)=false from rfl];refine aA (fun I=>by cases I) (fun _=>?_);simp only[go_sem,h0];have J:lW l=[]:=by rw[<-F];rfl
   rw[J];exact .refl _
 | succ k=>
 have Z:IntKind.i64.wrap (((k+1:Nat):Int)-1)=(k:Int):=by rw[aR (by omega)];omega
 obtain⟨x,T⟩:=aN (show k<l.length by omega);have M:(l.take (k+1))[k]?=some x:=by rw[List.getElem?_take,if_pos (by omega)];exact T
 have O:l.take (k+1)=l.take k++[x]:=bP T;simp only[go_sem,h0,u,Z,aF M,show decide (((k+1:Nat):Int)>0)=true from decide_eq_true (by omega)];refine⟨⟨by omega,by omega⟩,aA (fun I=>?_) (fun I=>?_)⟩
 . have E:x=0:=by simpa using I
   simp only[go_sem,h0,u,Z];refine⟨by omega,⟨⟨k,by omega,?_,?_⟩,?_⟩⟩
   . rw[<-List.map_take,List.take_take,Xcl (by omega)]
   . rw[O,uU,if_pos E]at F;exact F
   . rw[<-List.map_take,Xaa,Xal];omega
 . have E:x≠0:=by simpa using I
   simp only[go_sem,h0];rw[O,uU,if_neg E]at F;rw[O,F];exact .refl _
abbrev nl(n:Nat):AV:=.sl ((aO bas n).map eO)
theorem Ki:nl 0=.sl []:=by
 simp only[nl,dD];rfl
theorem I6{l:List Nat}(E:Lim bas l)(h:l.length<=4611686018427387904){n:Nat}(u:ofL bas l=n):PC prog 235 [.sl (l.map eO)] (nl n):=by
 have:=ahV l h
 rwa [J2 (by decide) E u]at this
def bR(l:List Nat):Row:=⟨3,1,l.map eO⟩
theorem nV{H:aH}{k:Nat}{l:List Nat}{x:Nat}:aI H k (some ⟨3,1,l.map eO++[[int (x:Int)]]⟩) k=some (bR (l++[x])):=by
 rw[aB];simp only[bR,Xam,Xav,Xbg];rfl
theorem Vw(s:ByteArray)(hr:(bl s).all isD=true)(h:s.size<=4096):PC prog 234 [str s] (nl (dU s)):=by
 have hs:=cF s;refine pcb (fun t=>t == 3) Tryz.func234 ?_;unfold Tryz.f234;simp only[gdS];simp only[go_sem];refine aK fun j hj=>?_
 simp only[go_sem];refine⟨fun ρ H=>∃(m j:Nat) (o:List Nat),m<=(bl s).length/\ρ 0=str (s.extract 0 m)/\ρ 3=.os j/\H j=some (bR o)/\Lim bas o/\o.length<=(bl s).length-m/\ofL bas o+bas^o.length*fU ((bl s).take m)=dU s,fun ρ _=>match ρ 0 with| .v (.string t)=>t.size|_=>0,⟨(bl s).length,j,[],Xaf _,?_,by simp only[go_sem],aB _ _ _,by simp[Lim],by simp,?_⟩,?_⟩
 . rw[show s.extract 0 (bl s).length=s from jC (by rw[eQ,Xag,Xbj])];rfl
 . rw[Xag];simp[ofL,dU]
 clear hj j;rintro ρ H ⟨m,j,o,hm,h0,E,M,ho,ad,hv⟩;have u:(s.extract 0 m).size=m:=by rw[<-cF,eQ,Xbj,Xal];omega
 simp only[go_sem,h0,E,u];refine aA (fun hb=>?_) (fun hb=>?_)
 . have T:0<m:=by simpa using hb
   have e9:kF 0 (IntKind.i64.wrap ((m:Int)-9))=((m-9:Nat):Int):=by
     rw[aR (by omega)];unfold kF;split <;> omega
   simp only[go_sem,h0,E,u];refine⟨fun ρ H=>∃i:Nat,m-9<=i/\i<=m/\ρ 0=str (s.extract 0 m)/\ρ 3=.os j/\ρ 4=int (m-9:Nat)/\ρ 5=int (fU (((bl s).take i).drop (m-9)):Nat)/\ρ 6=int i/\H j=some (bR o),fun ρ _=>m-aT (ρ 6),
     ⟨m-9,Xaf _,by omega,by simp only[go_sem,h0],by simp only[go_sem,E],?_,?_,?_,M⟩,?_⟩
   . simp only[go_sem,e9]
   . simp only[go_sem]
     rw[List.drop_eq_nil_of_le (by rw[Xal];omega)];rfl
   . simp only[go_sem,e9]
   clear h0 E M;rintro ρ H ⟨i,ae,aa,h0,E,h4,Z,h6,M⟩;simp only[go_sem,h0,E,h4,Z,h6,u];refine aA (fun I=>?_) (fun J=>?_)
   . have I:i<m:=ltB I
     obtain⟨c,F⟩:=aN (show i<(bl s).length by omega);have hx:(bl (s.extract 0 m)).getD i 0=c:=by rw[eQ,Xbj];exact pD (by rw[List.getElem?_take,if_pos I];exact F)
     have hd:=kS.1 (Xao.1 hr c (Xae F));have ab:=Em (l:=((bl s).take i).drop (m-9)) (Xao.2 fun c F=>Xao.1 hr c (List.mem_of_mem_take (List.mem_of_mem_drop F)));have ac:10^(((bl s).take i).drop (m-9)).length<=10^9:=Xat (by omega) (by rw[Xbd,Xal];omega);have e1:((bl s).take (i+1)).drop (m-9)=((bl s).take i).drop (m-9)++[c]:=by
       rw[bP F,List.drop_append_of_le_length (by rw[Xal];omega)]
     have e2:IntKind.i64.wrap (IntKind.i64.wrap (10*((fU (((bl s).take i).drop (m-9)):Nat):Int))+IntKind.i64.wrap (IntKind.u8.wrap ((c.toNat:Int)-48)))=((fU (((bl s).take (i+1)).drop (m-9)):Nat):Int):=by
       rw[e1,lP,u8w hd.1 (by omega)];generalize fU (((bl s).take i).drop (m-9))=V at *;rw[show IntKind.i64.wrap (10*(V:Int))=10*(V:Int)from aR (by omega),show IntKind.i64.wrap (((c.toNat-48:Nat):Int))=((c.toNat-48:Nat):Int)from aR (by omega),aR (by omega)];omega
     simp only[go_sem,h0,E,h4,Z,h6,u,hx,e2,aP (show i<=4611686018427387904 by omega)];exact⟨⟨by omega,by omega⟩,⟨i+1,by omega,by omega,rfl,rfl,M⟩,by simp only[aE];omega⟩
   . have J:i=m:=geB aa J
     subst J;simp only[go_sem,h0,E,h4,Z,h6,u];have hL:(((bl s).take i).drop (i-9)).length=i-(i-9):=by rw[Xbd,Xal];omega
     have hA:(((bl s).take i).drop (i-9)).all isD=true:=Xao.2 fun c F=>Xao.1 hr c (List.mem_of_mem_take (List.mem_of_mem_drop F))
     have ab:=Em hA;have ac:10^(((bl s).take i).drop (i-9)).length<=10^9:=Xat (by omega) (by omega);have O:fU ((bl s).take i)=fU ((bl s).take (i-9))*10^(((bl s).take i).drop (i-9)).length+fU (((bl s).take i).drop (i-9)):=by
       rw[<-sX]
       congr 1
       conv=>lhs;rw[<-Xcm (i-9) ((bl s).take i)]
       rw[List.take_take,Xcl (by omega)]
     generalize fU (((bl s).take i).drop (i-9))=x at *;refine aX M ⟨rfl,rfl⟩ ⟨rfl,trivial⟩ (by simp only[bR,Xaa,Xad,List.length_nil];omega) (fun j' af=>?_);simp only[go_sem,h0,E,h4,Z,h6,u];refine⟨⟨by omega,by omega⟩,⟨⟨i-9,j',o++[x],by omega,?_,rfl,nV,ho.snoc (show x<1000000000 by omega),?_,?_⟩,?_⟩⟩
     . congr 2
       refine jC ?_;rw[eQ,eQ,eQ];simp only[Xbj,List.take_take];rw[Xcl (by omega)]
     . rw[Xac,Xad,List.length_nil];omega
     . rw[<-hv,O,rB,Xac,Xad,List.length_nil,Xbu]
       by_cases h9:9<=i
       . rw[hL,show i-(i-9)=9 by omega]
         grind
       . rw[show i-9=0 by omega]
         simp only[List.take_zero,fU,List.foldl_nil]
         grind
     . rw[<-cF,eQ,eQ]
       simp only[Xbj,Xal];omega
 . have T:m=0:=by simpa using hb
   subst T;simp only[go_sem,h0,E];refine PC.useF [j] (.cons _ _ _ _ (.row _ _ _ (by simp[M];rfl) (ConvE.refl _)) .nil) (I6 ho (by omega) (n:=dU s) (by rw[<-hv];simp[fU])) ?_;simp only[go_sem];exact .refl _
theorem neN{a b:Nat}(h:((a:Int) != (b:Int))=true):a≠b:=by
 rw[bne_iff_ne]at h;omega
theorem eqN{a b:Nat}(h:((a:Int) != (b:Int))=false):a=b:=by
 rw[bne_eq_false_iff_eq]at h;omega
theorem acC{a b:Int}(h:a<=b):fR a b<=0:=by
 unfold fR;split
 . omega
 . rw[if_neg (by omega)];omega
theorem SZ(n:Int):PC prog 302 [int n] (boo false):=by
 refine pcd Tryz.func302 ?_;unfold Tryz.f302;simp only[gdS];simp only[go_sem];exact cB (by simp)
theorem Cs(a b:Int):PC prog 265 [int a,int b] (int (fR a b)):=by
 refine pcd Tryz.func265 ?_;unfold Tryz.f265;simp only[gdS];simp only[go_sem];refine PC.use (SZ a) ?_;simp only[go_sem];refine PC.use (SZ b) ?_;simp only[go_sem];refine aA (fun h=>by cases h) (fun _=>?_);simp only[go_sem];refine aA (fun h=>by cases h) (fun _=>?_);simp only[go_sem];refine aA (fun h=>?_) (fun h=>?_)
 . simp only[go_sem]
   exact cI (by rw[gV (by simpa using h)])
 . simp only[go_sem]
   refine aA (fun u=>?_) (fun u=>?_)
   . simp only[go_sem]
     exact cI (by rw[gT (by simpa using u)])
   . simp only[go_sem]
     exact cI (by rw[nZ (by simp at h u;omega)])
theorem PY(l:List Nat)(i:Nat)(F:i<=4611686018427387904):PC prog 226 [.sl (l.map eO),int i] (int (l.getD i 0:Nat)):=by
 refine pcd Tryz.func226 ?_;unfold Tryz.f226;simp only[gdS];simp only[go_sem];refine aA (fun h=>?_) (fun h=>?_)
 . have h:=ltB h
   obtain⟨x,u⟩:=aN h;have E:=inB h;simp only[go_sem,aF u,E];exact cI (by simp[List.getD,u])
 . simp only[go_sem]
   have h:¬i<l.length:=by simpa using h
   exact cI (by simp[List.getD,List.getElem?_eq_none (by omega:l.length<=i)])
theorem aaS{l r:List Nat}(O:Lim bas l)(I:Lim bas r)(u:l.length=r.length){k x y:Nat}(M:l[k]?=some x)(F:r[k]?=some y)(J:l.drop (k+1)=r.drop (k+1))(E:x≠y):fR (x:Int) y=fR (ofL bas l) (ofL bas r):=by
 rcases Nat.lt_or_gt_of_ne E with h|h
 . have:=Hy (b:=bas) (by decide) O I u M F h J
   rw[gV (by omega),gV (by omega)]
 . have:=Hy (b:=bas) (by decide) I O u.symm F M h J.symm
   rw[gT (by omega),gT (by omega)]
theorem C7(m n:Nat)(hm:(aO bas m).length<=1048576)(hn:(aO bas n).length<=1048576):PC prog 227 [nl m,nl n] (int (fR m n)):=by
 have om:=cD (b:=bas) (by decide) m;have on:=cD (b:=bas) (by decide) n;have lm:=bZ (b:=bas) (by decide) m;have ln:=bZ (b:=bas) (by decide) n;have aa:(aO bas m).length<(aO bas n).length->m<n:=IC (by decide);have O:(aO bas n).length<(aO bas m).length->n<m:=IC (by decide);simp only[nl];generalize aO bas m=a at *;generalize aO bas n=b at *;refine pcd Tryz.func227 ?_;unfold Tryz.f227;simp only[gdS];simp only[go_sem];refine aA (fun h=>?_) (fun h=>?_)
 . simp only[go_sem]
   refine PC.use (Cs _ _) ?_;simp only[go_sem];refine cI ?_;have h:a.length≠b.length:=neN h;rcases Nat.lt_or_gt_of_ne h with h|h
   . have:=aa h
     rw[gV (by omega),gV (by omega)]
   . have:=O h
     rw[gT (by omega),gT (by omega)]
 have I:a.length=b.length:=eqN h;simp only[go_sem];refine⟨fun ρ _=>∃k:Nat,k<=a.length/\ρ 0=.sl (a.map eO)/\ρ 1=.sl (b.map eO)/\ρ 5=int ((k:Int)-1)/\a.drop k=b.drop k,fun ρ _=>match ρ 5 with| .v (.int _ z)=>(z+1).toNat|_=>0,⟨a.length,Xaf _,by simp only[go_sem],by simp only[go_sem],by simp only[go_sem,nX (show a.length<=4611686018427387904 by omega)],by rw[List.drop_eq_nil_of_le (Xaf _),List.drop_eq_nil_of_le (by omega)]⟩,?_⟩;rintro ρ H ⟨k,hk,h0,h1,u,T⟩;simp only[go_sem,h0,h1,u];refine aA (fun hb=>?_) (fun hb=>?_)
 . have F:0<k:=by simp at hb;omega
   obtain⟨k,rfl⟩:∃j,k=j+1:=⟨k-1,by omega⟩;rw[show((k+1:Nat):Int)-1=(k:Int)by omega]at u |-;obtain⟨x,J⟩:=aN (show k<a.length by omega);obtain⟨y,M⟩:=aN (show k<b.length by omega);have b1:=inB (show k<a.length by omega);have b2:=inB (show k<b.length by omega);simp only[go_sem,h0,h1,u];refine dJ (by rfl) (by kernel_rfl) ?_;simp only[go_sem,h0,h1,u,aF J,aF M,b1,b2];refine aA (fun E=>?_) (fun E=>?_)
   . simp only[go_sem,h0,h1,u]
     refine dJ (by rfl) (by kernel_rfl) ?_;simp only[go_sem,h0,h1,u,aF J,aF M,b1,b2];refine⟨_,(Cs x y).q rfl,?_⟩;simp only[go_sem];exact cI (by rw[aaS lm ln I J M T (neN E),om,on])
   . have Z:x=y:=eqN E
     simp only[go_sem,h0,h1,u,nX (show k<=4611686018427387904 by omega)];refine⟨⟨k,by omega,rfl,?_⟩,by omega⟩;have e1:a.drop k=x::a.drop (k+1):=by rw[Xbz (by omega)];congr 1;exact(List.getElem?_eq_some_iff.1 J).2
     have e2:b.drop k=y::b.drop (k+1):=by rw[Xbz (by omega)];congr 1;exact(List.getElem?_eq_some_iff.1 M).2
     rw[e1,e2,T,Z]
 . have F:k=0:=by simp at hb;omega
   subst F;simp only[go_sem];refine cI ?_;have ab:a=b:=by simpa using T
   rw[nZ];rw[<-om,<-on,ab]
def tw(a b:ByteArray)(n:Nat):List (List AV):=if iI a b=0 then(aO bas n).map eO else[]
theorem Gr{a b:ByteArray}{n:Nat}(h:iI a b=0):tw a b n=(aO bas n).map eO:=if_pos h
theorem Sy{a b:ByteArray}{n:Nat}(h:iI a b≠0):tw a b n=[]:=if_neg h
theorem Nw(a b:ByteArray)(M:a.size<=1048576)(J:b.size<=1048576):PC prog 179 [str a,str b] (.tup [.sl (tw a b (dU a)),.sl (tw a b (dU b)),int (iI a b)]):=by
 refine pcd Tryz.func179 ?_;unfold Tryz.f179;simp only[gdS];simp only[go_sem];refine PC.use (BV a (by omega)) ?_;simp only[go_sem];refine⟨_,fun _=>(BV b (by omega)).q rfl,?_⟩;simp only[go_sem];refine aA (fun h=>?_) (fun h=>?_)
 . simp only[go_sem]
   have e:iI a b=3:=by unfold iI;rw[if_pos h]
   rw[Sy (by rw[e];decide),Sy (by rw[e];decide),e];exact .refl _
 have E:dC a=true/\dC b=true:=by simpa using h
 simp only[go_sem];refine aA (fun F=>?_) (fun F=>?_)
 . simp only[go_sem]
   have I:(decide (a.size>4096)||decide (b.size>4096))=true:=by simp at F |-;omega
   have e:iI a b=4:=by unfold iI;rw[if_neg (by rw[h];simp),if_pos I]
   rw[Sy (by rw[e];decide),Sy (by rw[e];decide),e];exact .refl _
 have u:a.size<=4096/\b.size<=4096:=by simp at F;omega
 have e:iI a b=0:=Eo E.1 E.2 u.1 u.2;have d:∀{s:ByteArray},dC s=true->(bl s).all isD=true:=fun h=>by
   unfold dC eD at h;simp only[Xap]at h;exact h.2
 simp only[go_sem];refine PC.use (Vw a (d E.1) u.1) ?_;simp only[go_sem];refine PC.use (Vw b (d E.2) u.2) ?_;simp only[go_sem];rw[Gr e,Gr e,e];exact .refl _
theorem zE{H:aH}{j:Nat}:aI H j (some ⟨3,1,[]⟩) j=some (bR []):=aB _ _ _
theorem SG(m k:Nat)(hm:(aO bas m).length<=1048576)(hk:k<bas):PC prog 237 [nl m,int k] (nl (m*k)):=by
 have hk:k<1000000000:=hk;have om:=cD (b:=bas) (by decide) m;have lm:=bZ (b:=bas) (by decide) m;simp only[nl];generalize aO bas m=l at *;have ae:IntKind.i64.wrap ((l.length:Int)+1)=((l.length+1:Nat):Int):=aP (by omega);refine pcb (fun t=>t == 5) Tryz.func237 ?_;unfold Tryz.f237;simp only[gdS];simp only[go_sem];refine⟨by omega,aK fun j hj=>?_⟩;simp only[go_sem];refine⟨fun ρ H=>∃(i j c:Nat) (o:List Nat),i<=l.length/\ρ 1=int k/\ρ 13=.sl (l.map eO)/\ρ 14=int l.length/\ρ 5=.os j/\ρ 6=int c/\ρ 15=int i/\H j=some (bR o)/\Lim bas o/\o.length=i/\c<1000000000/\ofL bas o+bas^i*c=ofL bas (l.take i)*k,fun ρ _=>l.length-aT (ρ 15),
   ⟨0,j,0,[],Xab _,by simp only[go_sem],by simp only[go_sem],by simp only[go_sem,Xaa],by simp only[go_sem],by simp only[go_sem];rfl,by simp only[go_sem];rfl,zE,by simp[Lim],rfl,by omega,by simp[ofL]⟩,?_⟩
 clear hj j;rintro ρ H ⟨i,j,c,o,hi,h1,J,F,O,T,E,Rj,ho,I,hc,hv⟩;simp only[go_sem,h1,J,F,O,T,E];refine aA (fun u=>?_) (fun M=>?_)
 . have u:=ltB u
   obtain⟨n,hn⟩:=aN u;have b1:=inB u;have ad:n<1000000000:=lm n (Xae hn);have ac:n*k<=999999999*999999999:=Nat.mul_le_mul (by omega) (by omega);have e1:IntKind.i64.wrap (IntKind.i64.wrap ((n:Int)*(k:Int))+(c:Int))=((n*k+c:Nat):Int):=by
     rw[show(n:Int)*(k:Int)=((n*k:Nat):Int)from(Int.natCast_mul n k).symm];generalize n*k=p at *;rw[show IntKind.i64.wrap (p:Int)=(p:Int)from aR (by omega),aR (by omega)];omega
   have ab:=PT (b:=bas) (by decide) hn I hv;simp only[go_sem,h1,J,F,O,T,E,aF hn,b1,e1];have hq:(n*k+c)/1000000000<1000000000:=by omega
   have e2:IntKind.i64.wrap ((((n*k+c:Nat):Int)).tdiv 1000000000)=(((n*k+c)/1000000000:Nat):Int):=by
     generalize n*k+c=p at *;rw[Xcn (by omega),aR (by omega)];omega
   have e3:(((n*k+c:Nat):Int)).tmod 1000000000=(((n*k+c)%1000000000:Nat):Int):=by
     rw[Xcp (by omega)];omega
   simp only[e2,e3];refine⟨by decide,?_⟩;refine aX Rj ⟨rfl,rfl⟩ ⟨rfl,trivial⟩ (by simp only[bR,Xaa,Xad,List.length_nil];omega) (fun Z aa=>?_);simp only[go_sem,h1,J,F,O,T,E,e2,aP (show i<=4611686018427387904 by omega)];refine⟨by decide,⟨i+1,Z,_,o++[(n*k+c)%bas],u,rfl,rfl,rfl,nV,ho.snoc (Xbm _ (by decide)),by simp[I],hq,ab⟩,by simp only[aE];omega⟩
 . have M:=geB hi M
   subst M;simp only[go_sem,O,T];refine aX Rj ⟨rfl,rfl⟩ ⟨rfl,trivial⟩ (by simp only[bR,Xaa,Xad,List.length_nil];omega) (fun Z aa=>?_);simp only[go_sem];have hT:Lim bas (o++[c]):=ho.snoc hc;have hV:ofL bas (o++[c])=m*k:=by rw[rB,I,hv,Xag,om]
   refine PC.useF [Z] (.cons _ _ _ _ (.row _ _ _ (by simp only[Xaq,if_true];exact nV) (ConvE.refl _)) .nil) (I6 hT (by simp;omega) hV) ?_;simp only[go_sem];exact .refl _
theorem Er(m n:Nat)(hm:(aO bas m).length<=1048576)(af:n<=m):PC prog 228 [nl m,nl n] (nl (m-n)):=by
 have om:=cD (b:=bas) (by decide) m;have on:=cD (b:=bas) (by decide) n;have lm:=bZ (b:=bas) (by decide) m;have ln:=bZ (b:=bas) (by decide) n;have ad:=cC (b:=bas) (by decide) af;simp only[nl];generalize aO bas m=x at *;generalize aO bas n=y at *;refine pcb (fun t=>t == 5) Tryz.func228 ?_;unfold Tryz.f228;simp only[gdS];simp only[go_sem];refine⟨by omega,aK fun j hj=>?_⟩;simp only[go_sem];refine⟨fun ρ H=>∃(i j c:Nat) (o:List Nat),i<=x.length/\ρ 0=.sl (x.map eO)/\ρ 1=.sl (y.map eO)/\ρ 13=int x.length/\ρ 5=.os j/\ρ 6=int c/\ρ 14=int i/\H j=some (bR o)/\Lim bas o/\o.length=i/\c<=1/\ofL bas o+ofL bas (y.take i)=ofL bas (x.take i)+bas^i*c,fun ρ _=>x.length-aT (ρ 14),
   ⟨0,j,0,[],Xab _,by simp only[go_sem],by simp only[go_sem],by simp only[go_sem,Xaa],by simp only[go_sem],by simp only[go_sem];rfl,by simp only[go_sem];rfl,zE,by simp[Lim],rfl,by omega,by simp[ofL]⟩,?_⟩
 clear hj j;rintro ρ H ⟨i,j,c,o,hi,h0,h1,E,I,M,u,Rj,ho,T,hc,hv⟩;simp only[go_sem,h0,h1,E,I,M,u];refine aA (fun J=>?_) (fun Z=>?_)
 . have J:=ltB J
   obtain⟨a,ha⟩:=aN J;have ae:x.getD i 0=a:=by simp[List.getD,ha]
   have b1:=inB J;have ac:a<1000000000:=lm a (Xae ha);have aa:y.getD i 0<1000000000:=ln.getD (by decide) i;simp only[go_sem,h0,h1,E,I,M,u];refine dJ (by rfl) (by kernel_rfl) ?_;simp only[go_sem,h0,h1,E,I,M,u,aF ha,b1];refine⟨_,(PY y i (by omega)).q rfl,?_⟩;have ai:=DF (b:=1000000000) ac aa hc;have ab:=uZ (b:=1000000000) ac aa hc;have ag:=AG (b:=bas) (x:=x) (y:=y) (c':=if a<y.getD i 0+c then 1 else 0) (d:=if a<y.getD i 0+c then a+1000000000-(y.getD i 0+c)else a-(y.getD i 0+c)) T hv (by rw[ae];exact ab.1);generalize y.getD i 0=yi at *;have e1:IntKind.i64.wrap (IntKind.i64.wrap ((a:Int)-(yi:Int))-(c:Int))=(a:Int)-yi-c:=by
     rw[show IntKind.i64.wrap ((a:Int)-(yi:Int))=(a:Int)-yi from aR (by omega),aR (by omega)]
   simp only[go_sem,h0,h1,E,I,M,u,e1];refine bH (fun F H'=>F 0=.sl (x.map eO)/\F 1=.sl (y.map eO)/\F 13=int x.length/\F 5=.os j/\F 14=int i/\H' j=some (bR o)/\F 8=int (if a<yi+c then a+1000000000-(yi+c)else a-(yi+c):Nat)/\F 6=int (if a<yi+c then 1 else 0:Nat)) ?_ fun K hK=>aA (fun O=>?_) (fun O=>?_)
   rotate_left
   . have O:a<yi+c:=by simp at O;omega
     have e2:IntKind.i64.wrap ((a:Int)-yi-c+1000000000)=((a+1000000000-(yi+c):Nat):Int):=by rw[aR (by omega)];omega
     simp only[go_sem,h0,h1,E,I,M,u,e2];exact hK _ _ ⟨by simp only[go_sem,h0],by simp only[go_sem,h1],by simp only[go_sem,E],by simp only[go_sem,I],by simp only[go_sem,u],Rj,by simp only[go_sem,if_pos O],by simp only[go_sem,if_pos O];rfl⟩
   . have O:¬a<yi+c:=by simp at O;omega
     simp only[go_sem,h0,h1,E,I,M,u];refine hK _ _ ⟨by simp only[go_sem,h0],by simp only[go_sem,h1],by simp only[go_sem,E],by simp only[go_sem,I],by simp only[go_sem,u],Rj,?_,by simp only[go_sem,if_neg O];rfl⟩;simp only[go_sem,if_neg O]
     congr 2
     omega
   clear h0 h1 E I M u Rj;rintro ρ H ⟨h0,h1,E,I,u,Rj,h8,M⟩;simp only[go_sem,h0,h1,E,I,M,u,h8];refine aX Rj ⟨rfl,rfl⟩ ⟨rfl,trivial⟩ (by simp only[bR,Xaa,Xad,List.length_nil];omega) (fun j' ah=>?_);simp only[go_sem,h0,h1,E,I,M,u,aP (show i<=4611686018427387904 by omega)];exact⟨⟨i+1,j',_,_,J,rfl,rfl,rfl,nV,ho.snoc ab.2,by simp[T],by split <;> omega,ag⟩,by simp only[aE];omega⟩
 . have Z:=geB hi Z
   subst Z;simp only[go_sem,I];obtain⟨_,hV⟩:=Cu (b:=bas) (by decide) ho lm T ad (by omega) hc hv;refine PC.useF [j] (.cons _ _ _ _ (.row _ _ _ (by simp only[Xaq,if_true];exact Rj) (ConvE.refl _)) .nil) (I6 ho (by omega) (hV.trans (by rw[om,on]))) ?_;simp only[go_sem];exact .refl _
theorem half{d r q:Nat}(h1:d*q<=r)(u:r<d*(q+1))(E:0<d):q=r/d:=by
 symm
 exact(Nat.div_eq_iff E).2 ⟨by rw[Nat.mul_comm];exact h1,by rw[Nat.mul_add,Nat.mul_one]at u;rw[Nat.mul_comm q d];omega⟩
theorem Ev(r d:Nat)(hr:(aO bas r).length<=1048576)(hd:0<d)(aa:(aO bas d).length<=1048575)(h:r<d*bas):PC prog 236 [nl r,nl d] (int (r/d:Nat)):=by
 refine pcd Tryz.func236 ?_;unfold Tryz.f236;simp only[gdS];simp only[go_sem];refine⟨fun ρ _=>∃a b:Nat,a<=b/\b<1000000000/\ρ 0=nl r/\ρ 1=nl d/\ρ 5=int a/\ρ 6=int b/\d*a<=r/\r<d*(b+1),fun ρ _=>aT (ρ 6)-aT (ρ 5),⟨0,999999999,by omega,by omega,by simp only[go_sem],by simp only[go_sem],by simp only[go_sem];rfl,by simp only[go_sem];rfl,by simp,h⟩,?_⟩;rintro ρ H ⟨a,b,Z,hb,h0,h1,E,I,M,O⟩;simp only[go_sem,h0,h1,E,I];refine aA (fun J=>?_) (fun F=>?_)
 . have J:=ltB J
   have e1:IntKind.i64.wrap ((IntKind.i64.wrap (IntKind.i64.wrap ((a:Int)+(b:Int))+1)).tdiv 2)=(((a+b+1)/2:Nat):Int):=by
     rw[show IntKind.i64.wrap ((a:Int)+(b:Int))=((a+b:Nat):Int)by rw[aR (by omega)];omega,aP (by omega),Xcn (by omega),aR (by omega)];omega
   simp only[go_sem,h0,h1,E,I,e1];refine⟨by decide,?_⟩;have hm:(a+b+1)/2<bas:=show _<1000000000 by omega
   have ac:a<(a+b+1)/2:=by omega
   have ab:(a+b+1)/2<=b:=by omega
   generalize (a+b+1)/2=m at *;refine PC.use (SG d m (by omega) hm) ?_;simp only[go_sem,h0,h1,E,I];have T:(aO bas (d*m)).length<=1048576:=by
     have h1:=iR (b:=bas) (by decide) (bZ (b:=bas) (by decide) d);rw[cD (by decide)]at h1;have h2:d*m<bas^((aO bas d).length+1):=by
       rw[Xbu];exact Xbw (Nat.mul_lt_mul_of_pos_left hm hd) (Xcq _ (Nat.le_of_lt h1))
     have:=gF (b:=bas) (by decide) h2;omega
   refine PC.use (C7 (d*m) r T hr) ?_;simp only[go_sem,h0,h1,E,I];refine aA (fun u=>?_) (fun u=>?_)
   . have u : d * m <= r := by
       rcases Xar r (d*m)with h|h
       . rw[gT (by omega)]at u;simp at u
       . exact h
     simp only[go_sem,h0,h1,E,I];exact⟨⟨m,b,by omega,hb,rfl,rfl,u,O⟩,by simp only[aE];omega⟩
   . have u : r < d * m := by
       rcases Xar r (d*m)with h|h
       . exact h
       . exfalso
         exact of_decide_eq_false u (acC (by omega))
     simp only[go_sem,h0,h1,E,I];refine⟨⟨a,m-1,by omega,by omega,rfl,?_,M,?_⟩,?_⟩
     . rw[nX (by omega)];congr 2;omega
     . rw[show m-1+1=m by omega];exact u
     . rw[nX (by omega)];simp only[aE];omega
 . have F:=geB Z F
   subst F;simp only[go_sem,E];exact cI (by rw[half M O hd])
theorem zM{u:List Nat}{k v q:Nat}(h:u[k]?=some v):({ bR u with es:=(bR u).es.set k (oF ((bR u).es.getD k []) 0 [int (q:Int)]) }:Row)=bR (u.set k q):=by
 simp only[bR,aF h,List.map_set];rfl
theorem N3(m n:Nat)(hm:(aO bas m).length<=1048570)(hn:0<n)(ap:(aO bas n).length<=1048570):PC prog 180 [nl m,nl n] (.tup [nl (m/n),nl (m%n)]):=by
 have om:=cD (b:=bas) (by decide) m;have lm:=bZ (b:=bas) (by decide) m;rw[show nl m=.sl ((aO bas m).map eO)from rfl];generalize aO bas m=l at *;refine pcb (fun t=>t == 6||t == 23) Tryz.func180 ?_;unfold Tryz.f180;simp only[gdS];simp only[go_sem];refine⟨by omega,aK fun j hj=>?_⟩;simp only[go_sem];refine⟨fun ρ H=>∃(k r:Nat) (u:List Nat),k<=l.length/\ρ 0=.sl (l.map eO)/\ρ 1=nl n/\ρ 6=.os j/\ρ 7=nl r/\ρ 8=int ((k:Int)-1)/\H j=some (bR u)/\Lim bas u/\u.length=l.length/\r<n/\ofL bas (l.drop k)=ofL bas (u.drop k)*n+r/\u.take k=List.replicate k 0,fun ρ _=>match ρ 8 with| .v (.int _ z)=>(z+1).toNat|_=>0,
   ⟨l.length,0,List.replicate l.length 0,Xaf _,by simp only[go_sem],by simp only[go_sem],by simp only[go_sem],?_,?_,?_,Lim.zeros (by decide) _,by simp,hn,by simp[ofL],by simp⟩,?_⟩
 . simp only[go_sem]
   exact Ki.symm
 . simp only[go_sem,nX (show l.length<=4611686018427387904 by omega)]
 . rw[aB]
   simp only[bR,List.map_replicate];rfl
 clear hj;rintro ρ H ⟨k,r,u,hk,h0,h1,I,F,E,Rj,hq,aa,hr,hv,hz⟩;simp only[go_sem,h0,h1,I,F,E];refine aA (fun hb=>?_) (fun hb=>?_)
 . have ae:0<k:=by simp at hb;omega
   obtain⟨k,rfl⟩:∃j,k=j+1:=⟨k-1,by omega⟩;rw[show((k+1:Nat):Int)-1=(k:Int)by omega]at E |-;obtain⟨x,hx⟩:=aN (show k<l.length by omega);have ak:x<bas:=lm x (Xae hx);have b1:=inB (show k<l.length by omega);have b2:=inB (show k<u.length by omega);have ac:u[k]?=some 0:=by
     have h1:(u.take (k+1))[k]?=(List.replicate (k+1) 0)[k]?:=by rw[hz]
     rw[List.getElem?_take,if_pos (by omega)]at h1;rw[h1];simp
   obtain⟨hV,hQ,hR⟩:=NH (b:=bas) (a:=n) (by decide) hx ak hr (show k<u.length by omega) hv;have au:(aO bas r).length<=1048570:=Xaj (cC (by decide) (Nat.le_of_lt hr)) ap;have an:x+bas*r<n*bas:=by
     have:bas*(r+1)<=bas*n:=Nat.mul_le_mul_left _ hr;rw[Nat.mul_add]at this;rw[Nat.mul_comm n bas];omega
   have M:(u.set k ((x+bas*r)/n)).take k=List.replicate k 0:=by
     rw[List.take_set_of_le (by omega)];have h1:(u.take (k+1)).take k=(List.replicate (k+1) 0).take k:=by rw[hz]
     rw[List.take_take,Xcl (by omega)]at h1;rw[h1];simp
   have af:ofL bas (x::aO bas r)=x+bas*r:=by rw[ofL,cD (by decide)]
   have ag:Lim bas (x::aO bas r):=fun y hy=>by
     rcases Xbn.1 hy with rfl|hy
     . exact ak
     . exact bZ (by decide) r y hy
   have aw:(aO bas (x+bas*r)).length<=1048575:=by
     refine Xaj (gF (b:=bas) (k:=(aO bas r).length+1) (by decide) ?_) (by omega);have h1:=iR (b:=bas) (by decide) ag;rw[af]at h1;simpa using h1
   generalize ax:x+bas*r=R at *;have ah:R-n*(R/n)=R%n:=by have:=Nat.mod_add_div R n;omega
   have av:(aO bas (n*(R/n))).length<=1048576:=Xaj (cC (by decide) (Nat.mul_div_le R n)) (by omega);simp only[go_sem,h0,h1,I,F,E,aF hx,b1];refine aK fun i hi=>?_
   simp only[go_sem,h0,h1,I,F,E];have ab:=jV (r':=⟨3,1,[[int (x:Int)]]⟩) Rj hi;refine aX (aB _ _ _) ⟨rfl,rfl⟩ (arC _) (by simp only[Xaa,Xad,List.length_nil];omega) (fun i2 al=>?_);have ad:=dH ab (aQ Rj hi).symm al (r':=⟨3,1,[[int (x:Int)]]++(aO bas r).map eO⟩);have ar:j≠i2:=aQ ab al;simp only[go_sem,h0,h1,I,F,E];refine PC.useF [i2] (.cons _ _ _ _ (.row _ _ _ (by simp only[Xaq,if_true];exact aB _ _ _) (ConvE.refl _)) .nil) (I6 ag (by simp;omega) af) ?_;generalize am:(fun k=>if k∈[i2]then none else _)=HN;have J:HN j=some (bR u):=by rw[<-am];simp only[Xaq,if_neg ar];exact ad
   clear am ad ab Rj;simp only[go_sem,h0,h1,I,F,E];refine PC.use (C7 R n (by omega) (by omega)) ?_;simp only[go_sem,h0,h1,I,F,E];refine aA (fun hc=>?_) (fun hc=>?_)
   . have T : R < n := by
       rcases Nat.lt_trichotomy R n with h|h|h
       . exact h
       . rw[nZ (by omega)]at hc;cases hc
       . rw[gT (by omega)]at hc;cases hc
     simp only[go_sem,h0,h1,I,F,E,nX (show k<=4611686018427387904 by omega)];have O:u.set k (R/n)=u:=by
       rw[Nat.div_eq_of_lt T];obtain⟨h1,h2⟩:=List.getElem?_eq_some_iff.1 ac;rw[<-h2];exact List.set_getElem_self h1
     rw[O,Xba T]at hV;rw[O]at M;exact⟨⟨k,R,u,by omega,rfl,rfl,J,hq,aa,T,hV,M⟩,by omega⟩
   simp only[go_sem,h0,h1,I,F,E];refine aA (fun ai=>?_) (fun ai=>?_)
   . have aj : R = n := by
       have:=Cm.1 (by simpa using ai);omega
     simp only[go_sem,h0,h1,I,F,E,J,show(bR u).es.length=u.length from Xaa _,b2];refine⟨rfl,eM so3 J (by simp only[bR,Xaa];exact⟨by simpa using b2.2,rfl,Xaf 1⟩) ?_⟩;simp only[go_sem,h0,h1,I,F,E,nX (show k<=4611686018427387904 by omega)];have O:R/n=1:=by rw[aj];exact Nat.div_self hn
     have ao:R%n=0:=by rw[aj];exact Nat.mod_self n
     rw[O,ao]at hV;rw[O]at M;refine⟨⟨k,0,u.set k 1,by omega,Ki.symm,rfl,?_,hq.set (by decide),by simp[aa],hn,hV,M⟩,by omega⟩;exact congrArg some (zM (q:=1) ac)
   simp only[go_sem,h0,h1,I,F,E,J];refine PC.use (Ev R n (by omega) hn (by omega) an) ?_;simp only[go_sem,h0,h1,I,F,E,J,show(bR u).es.length=u.length from Xaa _,b2];refine⟨rfl,eM so3 J (by simp only[bR,Xaa];exact⟨by simpa using b2.2,rfl,Xaf 1⟩) ?_⟩;generalize hP:aI HN j _=HP;have Z:HP j=some (bR (u.set k (R/n))):=by
     rw[<-hP,aB];exact congrArg some (zM (q:=R/n) ac)
   have hg:(u.set k (R/n))[k]?=some (R/n):=List.getElem?_set_self (by omega);clear hP J;simp only[go_sem,h0,h1,I,F,E,Z];have aq:(bR (u.set k (R/n))).es.getD k []=eO (R/n):=aF hg;have b3:0<=(k:Int)/\(k:Int)<((bR (u.set k (R/n))).es.length:Nat):=by
     simp only[bR,Xaa,Xbh];exact b2
   simp only[go_sem,aq,b3];refine⟨rfl,⟨by omega,Nat.zero_lt_one⟩,?_⟩;refine PC.use (SG n (R/n) (by omega) hQ) ?_;simp only[go_sem,h0,h1,I,F,E,Z];refine PC.use (Er R (n*(R/n)) (by omega) (Nat.mul_div_le R n)) ?_;simp only[go_sem,h0,h1,I,F,E,nX (show k<=4611686018427387904 by omega),ah];exact⟨⟨k,R%n,u.set k (R/n),by omega,rfl,rfl,Z,hq.set hQ,by simp[aa],hR,hV,M⟩,by omega⟩
 . have ae:k=0:=by simp at hb;omega
   subst ae;simp only[go_sem,h0,h1,I,F,E];obtain⟨e1,e2⟩:=ZX hr hv;rw[Xbj,Xbj,om]at e1;rw[Xbj,om]at e2;refine PC.useF [j] (.cons _ _ _ _ (.row _ _ _ (by simp only[Xaq,if_true];exact Rj) (ConvE.refl _)) .nil) (I6 hq (by omega) e1) ?_;simp only[go_sem,F,e2];exact .refl _
end Go.Proofs.YtohmomanmikphaaGreatDoor.Nu
end
section
namespace Go.Proofs
open Go.Shelf
def Tryz.lays169_ren:Go.Shelf.Ren:=⟨fun|169=>264|n=>n,fun|70=>278|9=>9|0=>0|72=>280|37=>192|127=>311|3=>3|5=>5|n=>n,fun|n=>n⟩
theorem Tryz.lays169:Go.Proofs.Lays.n169 Tryz.prog Tryz.lays169_ren:={
 mixed:=by kernel_rfl
 f169:=Tryz.func264.trans (congrArg some (by kernel_rfl))
 t0:=Tryz.underlying0
 a0:=Tryz.isAgg0
 z0:=Tryz.sizeOf0
 v0:=Tryz.zeroValue0
 t3:=Tryz.underlying3
 a3:=Tryz.isAgg3
 z3:=Tryz.sizeOf3
 v3:=Tryz.zeroValue3
 t9:=Tryz.underlying9
 a9:=Tryz.isAgg9
 z9:=Tryz.sizeOf9
 v9:=Tryz.zeroValue9
 t37:=Tryz.underlying192
 a37:=Tryz.isAgg192
 z37:=Tryz.sizeOf192
 v37:=Tryz.zeroValue192
 t70:=Tryz.underlying278
 a70:=Tryz.isAgg278
 z70:=Tryz.sizeOf278
 v70:=Tryz.zeroValue278
 t72:=Tryz.underlying280
 a72:=Tryz.isAgg280
 z72:=Tryz.sizeOf280
 v72:=Tryz.zeroValue280
 t127:=Tryz.underlying311
 a127:=Tryz.isAgg311
 z127:=Tryz.sizeOf311
 v127:=Tryz.zeroValue311 }
theorem Tryz.Builder_Extra_169:Builder.Extra Tryz.prog Tryz.lays169_ren:={
 sizeBuilder:=by kernel_rfl
 liesBuilder:=by kernel_rfl
 t5:=Tryz.underlying5
 a5:=Tryz.isAgg5
 z5:=Tryz.sizeOf5
 v5:=Tryz.zeroValue5
 infoByte:=by kernel_rfl
 cellsByte:=by kernel_rfl
 sizeByte:=by kernel_rfl
 neB5:=by decide }
open Go.RowKit in
theorem Tryz.Builder_String_any (B b:Nat) (l:List UInt8) (w:World) (h:Lib.IsBuilder 280 5 B b (Lib.byteCells l) w) (hBw:B<=w.heap.size):
    Calls Tryz.prog 264 #[.pointer (some ⟨b,0,none⟩)] w fun e w'=>e=.returned (.string ⟨l.toArray⟩)/\Below B w w':=Any.Builder_String_any Tryz.lays169 Tryz.Builder_Extra_169 B b l w h hBw
def Tryz.lays106_ren:Go.Shelf.Ren:=⟨fun|106=>229|213=>266|265=>303|n=>n,fun|9=>9|3=>3|n=>n,fun|n=>n⟩
theorem Tryz.lays106:Go.Proofs.Lays.n106 Tryz.prog Tryz.lays106_ren:={
 mixed:=by kernel_rfl
 f106:=Tryz.func229.trans (congrArg some (by kernel_rfl))
 f213:=Tryz.func266.trans (congrArg some (by kernel_rfl))
 f265:=Tryz.func303.trans (congrArg some (by kernel_rfl))
 t3:=Tryz.underlying3
 a3:=Tryz.isAgg3
 z3:=Tryz.sizeOf3
 v3:=Tryz.zeroValue3
 t9:=Tryz.underlying9
 a9:=Tryz.isAgg9
 z9:=Tryz.sizeOf9
 v9:=Tryz.zeroValue9 }
open Go.RowKit in
theorem Tryz.strings_Compare (a b:ByteArray) (w:World):
    Calls Tryz.prog 229 #[.string a,.string b] w fun e w'=>e=.returned (.int .i64 (Lib.compareBytes a.data.toList b.data.toList))/\w'=w:=Any.strings_Compare Tryz.lays106 a b w
def Tryz.lays103_ren:Go.Shelf.Ren:=⟨fun|103=>184|210=>239|206=>238|n=>n,fun|9=>9|4=>4|24=>218|3=>3|n=>n,fun|n=>n⟩
theorem Tryz.lays103:Go.Proofs.Lays.n103 Tryz.prog Tryz.lays103_ren:={
 mixed:=by kernel_rfl
 f103:=Tryz.func184.trans (congrArg some (by kernel_rfl))
 f206:=Tryz.func238.trans (congrArg some (by kernel_rfl))
 f210:=Tryz.func239.trans (congrArg some (by kernel_rfl))
 t3:=Tryz.underlying3
 a3:=Tryz.isAgg3
 z3:=Tryz.sizeOf3
 v3:=Tryz.zeroValue3
 t4:=Tryz.underlying4
 a4:=Tryz.isAgg4
 z4:=Tryz.sizeOf4
 v4:=Tryz.zeroValue4
 t9:=Tryz.underlying9
 a9:=Tryz.isAgg9
 z9:=Tryz.sizeOf9
 v9:=Tryz.zeroValue9
 t24:=Tryz.underlying218
 a24:=Tryz.isAgg218
 z24:=Tryz.sizeOf218
 v24:=Tryz.zeroValue218 }
open Go.RowKit in
theorem Tryz.strings_CutPrefix (s p:ByteArray) (w:World):
    Calls Tryz.prog 184 #[.string s,.string p] w fun e w'=>e=.returned (.tuple #[.string ⟨(Lib.trimPrefix s.data.toList p.data.toList).toArray⟩,.bool (Lib.hasPrefix s.data.toList p.data.toList)])/\w'=w:=Any.strings_CutPrefix Tryz.lays103 s p w
def Tryz.laysM171_ren:Go.Shelf.Ren:=⟨fun|171=>224|243=>261|246=>296|283=>337|284=>338|285=>339|286=>340|129=>366|317=>365|318=>367|319=>368|320=>369|337=>383|338=>384|n=>n,fun|3=>3|9=>9|2=>2|4=>4|171=>347|0=>0|53=>348|37=>192|5=>5|173=>351|212=>373|51=>312|20=>20|213=>374|46=>181|232=>393|233=>394|n=>n,fun|17=>1|18=>2|19=>3|n=>n⟩
theorem Tryz.laysM171:Go.Proofs.LaysM.n171 Tryz.prog Tryz.laysM171_ren:={
 mixed:=by kernel_rfl
 f129:=Tryz.func366.trans (congrArg some (by kernel_rfl))
 f171:=Tryz.func224.trans (congrArg some (by kernel_rfl))
 f243:=Tryz.func261.trans (congrArg some (by kernel_rfl))
 f246:=Tryz.func296.trans (congrArg some (by kernel_rfl))
 f283:=Tryz.func337.trans (congrArg some (by kernel_rfl))
 f284:=Tryz.func338.trans (congrArg some (by kernel_rfl))
 f285:=Tryz.func339.trans (congrArg some (by kernel_rfl))
 f286:=Tryz.func340.trans (congrArg some (by kernel_rfl))
 f317:=Tryz.func365.trans (congrArg some (by kernel_rfl))
 f318:=Tryz.func367.trans (congrArg some (by kernel_rfl))
 f319:=Tryz.func368.trans (congrArg some (by kernel_rfl))
 f320:=Tryz.func369.trans (congrArg some (by kernel_rfl))
 f337:=Tryz.func383.trans (congrArg some (by kernel_rfl))
 f338:=Tryz.func384.trans (congrArg some (by kernel_rfl))
 t0:=Tryz.underlying0
 a0:=Tryz.isAgg0
 z0:=Tryz.sizeOf0
 v0:=Tryz.zeroValue0
 t2:=Tryz.underlying2
 a2:=Tryz.isAgg2
 z2:=Tryz.sizeOf2
 v2:=Tryz.zeroValue2
 t3:=Tryz.underlying3
 a3:=Tryz.isAgg3
 z3:=Tryz.sizeOf3
 v3:=Tryz.zeroValue3
 t4:=Tryz.underlying4
 a4:=Tryz.isAgg4
 z4:=Tryz.sizeOf4
 v4:=Tryz.zeroValue4
 t5:=Tryz.underlying5
 a5:=Tryz.isAgg5
 z5:=Tryz.sizeOf5
 v5:=Tryz.zeroValue5
 t9:=Tryz.underlying9
 a9:=Tryz.isAgg9
 z9:=Tryz.sizeOf9
 v9:=Tryz.zeroValue9
 t20:=Tryz.underlying20
 a20:=Tryz.isAgg20
 z20:=Tryz.sizeOf20
 v20:=Tryz.zeroValue20
 t37:=Tryz.underlying192
 a37:=Tryz.isAgg192
 z37:=Tryz.sizeOf192
 v37:=Tryz.zeroValue192
 t46:=Tryz.underlying181
 a46:=Tryz.isAgg181
 z46:=Tryz.sizeOf181
 v46:=Tryz.zeroValue181
 t51:=Tryz.underlying312
 a51:=Tryz.isAgg312
 z51:=Tryz.sizeOf312
 v51:=Tryz.zeroValue312
 t53:=Tryz.underlying348
 a53:=Tryz.isAgg348
 z53:=Tryz.sizeOf348
 v53:=Tryz.zeroValue348
 t171:=Tryz.underlying347
 a171:=Tryz.isAgg347
 z171:=Tryz.sizeOf347
 v171:=Tryz.zeroValue347
 t173:=Tryz.underlying351
 a173:=Tryz.isAgg351
 z173:=Tryz.sizeOf351
 v173:=Tryz.zeroValue351
 t212:=Tryz.underlying373
 a212:=Tryz.isAgg373
 z212:=Tryz.sizeOf373
 v212:=Tryz.zeroValue373
 t213:=Tryz.underlying374
 a213:=Tryz.isAgg374
 z213:=Tryz.sizeOf374
 t232:=Tryz.underlying393
 a232:=Tryz.isAgg393
 z232:=Tryz.sizeOf393
 v232:=Tryz.zeroValue393
 t233:=Tryz.underlying394
 a233:=Tryz.isAgg394
 z233:=Tryz.sizeOf394
 v233:=Tryz.zeroValue394
 g17:=by kernel_rfl
 g18:=by kernel_rfl
 g19:=by kernel_rfl
 i0:=by kernel_rfl
 i2:=by kernel_rfl
 i3:=by kernel_rfl
 i4:=by kernel_rfl
 i5:=by kernel_rfl
 i9:=by kernel_rfl
 i20:=by kernel_rfl
 i37:=by kernel_rfl
 i46:=by kernel_rfl
 i51:=by kernel_rfl
 i53:=by kernel_rfl
 i171:=by kernel_rfl
 i173:=by kernel_rfl
 i212:=by kernel_rfl
 i232:=by kernel_rfl
 i233:=by kernel_rfl
 m17:=by kernel_rfl
 m18:=by kernel_rfl
 m19:=by kernel_rfl }
open Go.RowKit Go.Sort Go.Lib in
theorem Tryz.strconv_Itoa (n:Int) (h0: -9223372036854775808<=n) (h1:n<=9223372036854775807) (w:World) (htab:Lib.TabIs Tryz.prog w "internal/strconv.uint64pow10" .u64 Lib.pow10Tab):
    Calls Tryz.prog 224 #[.int .i64 n] w fun e w'=>e=.returned (.string ⟨(Lib.itoa n).toArray⟩)/\∃k os,w'=grow (w.drewN k) os:=Any.strconv_Itoa Tryz.laysM171 n h0 h1 w htab
def Tryz.lays219_ren:Go.Shelf.Ren:=⟨fun|219=>233|217=>268|225=>269|224=>270|267=>271|266=>304|314=>305|n=>n,fun|9=>9|3=>3|4=>4|5=>5|46=>181|146=>313|51=>312|n=>n,fun|1=>0|n=>n⟩
theorem Tryz.lays219:Go.Proofs.Lays.n219 Tryz.prog Tryz.lays219_ren:={
 mixed:=by kernel_rfl
 f217:=Tryz.func268.trans (congrArg some (by kernel_rfl))
 f219:=Tryz.func233.trans (congrArg some (by kernel_rfl))
 f224:=Tryz.func270.trans (congrArg some (by kernel_rfl))
 f225:=Tryz.func269.trans (congrArg some (by kernel_rfl))
 f266:=Tryz.func304.trans (congrArg some (by kernel_rfl))
 f267:=Tryz.func271.trans (congrArg some (by kernel_rfl))
 f314:=Tryz.func305.trans (congrArg some (by kernel_rfl))
 t3:=Tryz.underlying3
 a3:=Tryz.isAgg3
 z3:=Tryz.sizeOf3
 v3:=Tryz.zeroValue3
 t4:=Tryz.underlying4
 a4:=Tryz.isAgg4
 z4:=Tryz.sizeOf4
 v4:=Tryz.zeroValue4
 t5:=Tryz.underlying5
 a5:=Tryz.isAgg5
 z5:=Tryz.sizeOf5
 v5:=Tryz.zeroValue5
 t9:=Tryz.underlying9
 a9:=Tryz.isAgg9
 z9:=Tryz.sizeOf9
 v9:=Tryz.zeroValue9
 t46:=Tryz.underlying181
 a46:=Tryz.isAgg181
 z46:=Tryz.sizeOf181
 v46:=Tryz.zeroValue181
 t51:=Tryz.underlying312
 a51:=Tryz.isAgg312
 z51:=Tryz.sizeOf312
 v51:=Tryz.zeroValue312
 t146:=Tryz.underlying313
 a146:=Tryz.isAgg313
 z146:=Tryz.sizeOf313
 v146:=Tryz.zeroValue313
 g1:=by kernel_rfl }
open Go.RowKit Go.Lib in
theorem Tryz.stringslite_Index_one (s:ByteArray) (c:UInt8) (w:World):
    Calls Tryz.prog 233 #[.string s,.string ⟨#[c]⟩] w fun e w'=>e=.returned (.int .i64 (Lib.indexByte s.data.toList c))/\w'=w:=Any.stringslite_Index_one Tryz.lays219 s c w
def Tryz.lays144_ren:Go.Shelf.Ren:=⟨fun|144=>109|143=>178|219=>233|217=>268|225=>269|224=>270|267=>271|266=>304|314=>305|n=>n,fun|9=>9|4=>4|3=>3|5=>5|46=>181|146=>313|51=>312|n=>n,fun|1=>0|n=>n⟩
theorem Tryz.lays144:Go.Proofs.Lays.n144 Tryz.prog Tryz.lays144_ren:={
 mixed:=by kernel_rfl
 f143:=Tryz.func178.trans (congrArg some (by kernel_rfl))
 f144:=Tryz.func109.trans (congrArg some (by kernel_rfl))
 f217:=Tryz.func268.trans (congrArg some (by kernel_rfl))
 f219:=Tryz.func233.trans (congrArg some (by kernel_rfl))
 f224:=Tryz.func270.trans (congrArg some (by kernel_rfl))
 f225:=Tryz.func269.trans (congrArg some (by kernel_rfl))
 f266:=Tryz.func304.trans (congrArg some (by kernel_rfl))
 f267:=Tryz.func271.trans (congrArg some (by kernel_rfl))
 f314:=Tryz.func305.trans (congrArg some (by kernel_rfl))
 t3:=Tryz.underlying3
 a3:=Tryz.isAgg3
 z3:=Tryz.sizeOf3
 v3:=Tryz.zeroValue3
 t4:=Tryz.underlying4
 a4:=Tryz.isAgg4
 z4:=Tryz.sizeOf4
 v4:=Tryz.zeroValue4
 t5:=Tryz.underlying5
 a5:=Tryz.isAgg5
 z5:=Tryz.sizeOf5
 v5:=Tryz.zeroValue5
 t9:=Tryz.underlying9
 a9:=Tryz.isAgg9
 z9:=Tryz.sizeOf9
 v9:=Tryz.zeroValue9
 t46:=Tryz.underlying181
 a46:=Tryz.isAgg181
 z46:=Tryz.sizeOf181
 v46:=Tryz.zeroValue181
 t51:=Tryz.underlying312
 a51:=Tryz.isAgg312
 z51:=Tryz.sizeOf312
 v51:=Tryz.zeroValue312
 t146:=Tryz.underlying313
 a146:=Tryz.isAgg313
 z146:=Tryz.sizeOf313
 v146:=Tryz.zeroValue313
 g1:=by kernel_rfl }
open Go.RowKit Go.Lib in
theorem Tryz.strings_Contains_one (s:ByteArray) (c:UInt8) (w:World):
    Calls Tryz.prog 109 #[.string s,.string ⟨#[c]⟩] w fun e w'=>e=.returned (.bool (decide (0<=Lib.indexByte s.data.toList c)))/\w'=w:=Any.strings_Contains_one Tryz.lays144 s c w
def Tryz.lays101_ren:Go.Shelf.Ren:=⟨fun|101=>112|208=>182|206=>238|n=>n,fun|9=>9|4=>4|3=>3|n=>n,fun|n=>n⟩
theorem Tryz.lays101:Go.Proofs.Lays.n101 Tryz.prog Tryz.lays101_ren:={
 mixed:=by kernel_rfl
 f101:=Tryz.func112.trans (congrArg some (by kernel_rfl))
 f206:=Tryz.func238.trans (congrArg some (by kernel_rfl))
 f208:=Tryz.func182.trans (congrArg some (by kernel_rfl))
 t3:=Tryz.underlying3
 a3:=Tryz.isAgg3
 z3:=Tryz.sizeOf3
 v3:=Tryz.zeroValue3
 t4:=Tryz.underlying4
 a4:=Tryz.isAgg4
 z4:=Tryz.sizeOf4
 v4:=Tryz.zeroValue4
 t9:=Tryz.underlying9
 a9:=Tryz.isAgg9
 z9:=Tryz.sizeOf9
 v9:=Tryz.zeroValue9 }
open Go.RowKit Go.Lib in
theorem Tryz.strings_TrimPrefix (s p:ByteArray) (w:World):
    Calls Tryz.prog 112 #[.string s,.string p] w fun e w'=>e=.returned (.string ⟨(Lib.trimPrefix s.data.toList p.data.toList).toArray⟩)/\w'=w:=Any.strings_TrimPrefix Tryz.lays101 s p w
def Tryz.lays105_ren:Go.Shelf.Ren:=⟨fun|105=>263|212=>298|99=>299|165=>300|166=>262|170=>301|169=>264|263=>342|264=>343|206=>238|240=>297|241=>344|276=>341|277=>370|n=>n,fun|9=>9|3=>3|4=>4|20=>20|0=>0|46=>181|109=>307|5=>5|72=>280|76=>283|51=>312|146=>313|53=>348|148=>356|70=>278|37=>192|75=>282|127=>311|164=>353|80=>209|n=>n,fun|n=>n⟩
theorem Tryz.lays105:Go.Proofs.Lays.n105 Tryz.prog Tryz.lays105_ren:={
 mixed:=by kernel_rfl
 f99:=Tryz.func299.trans (congrArg some (by kernel_rfl))
 f105:=Tryz.func263.trans (congrArg some (by kernel_rfl))
 f165:=Tryz.func300.trans (congrArg some (by kernel_rfl))
 f166:=Tryz.func262.trans (congrArg some (by kernel_rfl))
 f169:=Tryz.func264.trans (congrArg some (by kernel_rfl))
 f170:=Tryz.func301.trans (congrArg some (by kernel_rfl))
 f206:=Tryz.func238.trans (congrArg some (by kernel_rfl))
 f212:=Tryz.func298.trans (congrArg some (by kernel_rfl))
 f240:=Tryz.func297.trans (congrArg some (by kernel_rfl))
 f241:=Tryz.func344.trans (congrArg some (by kernel_rfl))
 f263:=Tryz.func342.trans (congrArg some (by kernel_rfl))
 f264:=Tryz.func343.trans (congrArg some (by kernel_rfl))
 f276:=Tryz.func341.trans (congrArg some (by kernel_rfl))
 f277:=Tryz.func370.trans (congrArg some (by kernel_rfl))
 t0:=Tryz.underlying0
 a0:=Tryz.isAgg0
 z0:=Tryz.sizeOf0
 v0:=Tryz.zeroValue0
 t3:=Tryz.underlying3
 a3:=Tryz.isAgg3
 z3:=Tryz.sizeOf3
 v3:=Tryz.zeroValue3
 t4:=Tryz.underlying4
 a4:=Tryz.isAgg4
 z4:=Tryz.sizeOf4
 v4:=Tryz.zeroValue4
 t5:=Tryz.underlying5
 a5:=Tryz.isAgg5
 z5:=Tryz.sizeOf5
 v5:=Tryz.zeroValue5
 t9:=Tryz.underlying9
 a9:=Tryz.isAgg9
 z9:=Tryz.sizeOf9
 v9:=Tryz.zeroValue9
 t20:=Tryz.underlying20
 a20:=Tryz.isAgg20
 z20:=Tryz.sizeOf20
 v20:=Tryz.zeroValue20
 t37:=Tryz.underlying192
 a37:=Tryz.isAgg192
 z37:=Tryz.sizeOf192
 v37:=Tryz.zeroValue192
 t46:=Tryz.underlying181
 a46:=Tryz.isAgg181
 z46:=Tryz.sizeOf181
 v46:=Tryz.zeroValue181
 t51:=Tryz.underlying312
 a51:=Tryz.isAgg312
 z51:=Tryz.sizeOf312
 v51:=Tryz.zeroValue312
 t53:=Tryz.underlying348
 a53:=Tryz.isAgg348
 z53:=Tryz.sizeOf348
 v53:=Tryz.zeroValue348
 t70:=Tryz.underlying278
 a70:=Tryz.isAgg278
 z70:=Tryz.sizeOf278
 v70:=Tryz.zeroValue278
 t72:=Tryz.underlying280
 a72:=Tryz.isAgg280
 z72:=Tryz.sizeOf280
 v72:=Tryz.zeroValue280
 t75:=Tryz.underlying282
 a75:=Tryz.isAgg282
 z75:=Tryz.sizeOf282
 v75:=Tryz.zeroValue282
 t76:=Tryz.underlying283
 a76:=Tryz.isAgg283
 z76:=Tryz.sizeOf283
 v76:=Tryz.zeroValue283
 t109:=Tryz.underlying307
 a109:=Tryz.isAgg307
 z109:=Tryz.sizeOf307
 v109:=Tryz.zeroValue307
 t127:=Tryz.underlying311
 a127:=Tryz.isAgg311
 z127:=Tryz.sizeOf311
 v127:=Tryz.zeroValue311
 t146:=Tryz.underlying313
 a146:=Tryz.isAgg313
 z146:=Tryz.sizeOf313
 v146:=Tryz.zeroValue313
 t148:=Tryz.underlying356
 a148:=Tryz.isAgg356
 z148:=Tryz.sizeOf356
 v148:=Tryz.zeroValue356
 t164:=Tryz.underlying353
 a164:=Tryz.isAgg353
 z164:=Tryz.sizeOf353
 v164:=Tryz.zeroValue353 }
theorem Tryz.Builder_Extra_105:Builder.Extra Tryz.prog Tryz.lays105_ren:={
 sizeBuilder:=by kernel_rfl
 liesBuilder:=by kernel_rfl
 t5:=Tryz.underlying5
 a5:=Tryz.isAgg5
 z5:=Tryz.sizeOf5
 v5:=Tryz.zeroValue5
 infoByte:=by kernel_rfl
 cellsByte:=by kernel_rfl
 sizeByte:=by kernel_rfl
 neB5:=by decide }
open Go.RowKit Go.Lib in
theorem Tryz.strings_Repeat (s:ByteArray) (c:Nat) (w:World) (hc:c<=9223372036854775807) (hlen:s.size*c<=140737488355328):
    Calls Tryz.prog 263 #[.string s,.int .i64 c] w fun e w'=>e=.returned (.string ⟨(Lib.repeatL s.data.toList c).toArray⟩)/\Below w.heap.size w w':=Any.strings_Repeat Tryz.lays105 Tryz.Builder_Extra_105 s c w hc hlen
end Go.Proofs
end
