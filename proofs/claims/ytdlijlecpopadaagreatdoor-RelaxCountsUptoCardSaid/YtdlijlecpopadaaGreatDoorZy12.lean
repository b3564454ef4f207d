/- Texts joined by a program: AwLib, NuA, NuB, NuC, NuG, NuD, NuF. -/
import Derived.Lib.ItoaMem
import Derived.Test.YtdlijlecpopadaaGreatDoorZy09

section
set_option linter.unusedSimpArgs false
set_option linter.unusedVariables false
namespace Go.Aw
open Go.RowKit
section
variable{P:Program}{S:Sg}{w:World}{H:aE}{f:FuncId}{args args':List AV}{K:AV→aE→Prop}
theorem St.frz(hS:St S w H)(l:List Nat):St (S.froze fun k=>if k∈l then H k else none) w (fun k=>if k∈l then none else H k)∧Grow S w (S.froze fun k=>if k∈l then H k else none) w∧St S w fun k=>if k∈l then H k else none:=by
 let Hf:aE:=fun k=>if k∈l then H k else none
 let Hr:aE:=fun k=>if k∈l then none else H k
 have hf:∀k r',Hf k=some r'→k∈l∧H k=some r':=fun k r' hk=>by
   by_cases e:k∈l
   · exact⟨e,by simpa[Hf,e]using hk⟩
   · simp[Hf,e]at hk
 have hrr:∀k r',Hr k=some r'→¬k∈l∧H k=some r':=fun k r' hk=>by
   by_cases e:k∈l
   · simp[Hr,e]at hk
   · exact⟨e,by simpa[Hr,e]using hk⟩
 refine⟨⟨?_,?_,fun k r' hk=>(hS.rows k r' (hrr k r' hk).2).keep (S.le_froze Hf) (fM.refl S w) (fun _ _=>rfl),?_,fun k k' r1 r2 hk hk' hne g hg hg'=>hS.disj k k' r1 r2 (hrr k r1 hk).2 (hrr k' r2 hk').2 hne g hg hg',hS.tabs.keep (S.le_froze Hf) (fM.refl S w)⟩,⟨S.le_froze Hf,fun k hk=>.inl hk,rfl,rfl,rfl,Nat.le_refl _,fun _ _=>rfl,?_⟩,hS.drop fun k r' hk=>(hf k r' hk).2⟩
 · rintro g (hg|hg)
   · exact .inl (hS.ro_fz g hg)
   · exact .inr hg
 · rintro g (hg|⟨k,r',hk,hg⟩)
   · exact hS.fz_lt g hg
   · exact(hS.rows k r' (hf k r' hk).2).block_lt hg
 · rintro k r' hk g hg (h1|⟨i,r2,hi,h2⟩)
   · exact hS.free k r' (hrr k r' hk).2 g hg h1
   · exact hS.disj k i r' r2 (hrr k r' hk).2 (hf i r2 hi).2 (fun e=>(hrr k r' hk).1 (e▸(hf i r2 hi).1)) g hg h2
 · rintro g (hg|⟨k,r',hk,hg⟩)
   · exact .inl hg
   · exact .inr (hS.free k r' (hf k r' hk).2 g hg)
theorem bH.frz(l:List Nat)(hc:ConvL (fun k=>if k∈l then H k else none) args args')(h:bH P f args' (fun k=>if k∈l then none else H k) K):bH P f args H K:=by
 intro S w vals hS ha;obtain⟨h1,h2,h3⟩:=hS.frz l;refine(h _ w vals h1 (hc.rep h3 ha)).mono fun e w' ⟨v,r,H',S',he,hr,hS',hv,hg,hn⟩=>⟨v,r,H',S',he,hr,hS',hv,h2.trans hg,fun k hk h0=>hn k hk ?_⟩
 by_cases e:k∈l
 · simp[e]
 · simpa[e]using h0
theorem PC.useF{r:AV}(l:List Nat)(hc:ConvL (fun k=>if k∈l then H k else none) args args')(h:PC P f args' r)(hK:K r (fun k=>if k∈l then none else H k)):bH P f args H K:=bH.frz l hc (PC.use h hK)
theorem PC.lib{a:List Value}{r:AV}{v:Value}(hr:∀S w,rep S w r v)(h:∀w,(∀t∈P3,qK w t.1=some t.2)→Calls P f a.toArray w fun e w'=>e=.returned v∧Below w.heap.size w w'):PC P f (a.map .v) r:=by
 intro S w vals hS hf ha;obtain rfl:vals=a:=by
   clear h;induction a generalizing vals with
   | nil=>
     cases vals with
     | nil=>rfl
     | cons x r=>simp[aZ]at ha
   | cons x a ih=>
     simp only[List.map_cons,aZ]at ha;obtain⟨u,t,rfl,h1,h2⟩:=ha;simp only[rep]at h1;subst h1;rw[ih t h2]
 refine(h w fun t ht=>(hS.tabs t ht).2).mono fun e w' ⟨he,hb⟩=>?_
 exact⟨v,r,bU,S,he,rfl,hS.after hb.size fun k hk=>hb.block k hk,hr S w',hS.grow hb.os hb.tape hb.output hb.size fun k hk=>hb.block k hk,eU.refl _ _⟩
end
end Go.Aw
end

section
set_option linter.unusedSimpArgs false
set_option linter.unusedVariables false
namespace Go.Nu
open Go Go.Lib
def ofL(b:Nat):List Nat→Nat
 | []=>0
 | x::r=>x+b*ofL b r
def Lim(b:Nat)(l:List Nat):Prop:=∀x∈l,x<b
def aM(b:Nat)(n:Nat):List Nat:=if h:n=0∨b<2 then[]else n%b::aM b (n/b)
termination_by n
decreasing_by exact Nat.div_lt_self (by omega) (by omega)
def lM:List Nat→List Nat
 | []=>[]
 | x::r=>match lM r with
   | []=>if x=0 then[]else[x]
   | y::t=>x::y::t
theorem oC(b:Nat):∀l r:List Nat,ofL b (l++r)=ofL b l+b^l.length*ofL b r
 | [],r=>by simp[ofL]
 | x::l,r=>by
   simp only[List.cons_append,ofL,oC b l r,List.length_cons,Nat.pow_succ,Nat.mul_add,Nat.add_assoc];rw[Nat.mul_comm (b^l.length) b,Nat.mul_assoc]
theorem qP(b:Nat)(l:List Nat)(x:Nat):ofL b (l++[x])=ofL b l+b^l.length*x:=by rw[oC];simp[ofL]
theorem iT{b:Nat}(hb:0<b):∀{l:List Nat},Lim b l→ofL b l<b^l.length
 | [],_=>by simp[ofL]
 | x::l,h=>by
   have h1:=h x (by simp);have h2:=iT hb (l:=l) fun y hy=>h y (by simp[hy])
   simp only[ofL,List.length_cons,Nat.pow_succ];have:b*(ofL b l+1)≤b*b^l.length:=Nat.mul_le_mul_left _ h2;rw[Nat.mul_add]at this;rw[Nat.mul_comm (b^l.length) b];omega
theorem jL(b:Nat){l:List Nat}{k x:Nat}(h:l[k]?=some x):ofL b (l.take (k+1))=ofL b (l.take k)+b^k*x:=by
 rw[List.take_add_one,h];simp only[Option.toList];rw[qP,List.length_take,Nat.min_eq_left (Nat.le_of_lt (List.getElem?_eq_some_iff.1 h).1)]
theorem Ij(b:Nat):∀(l:List Nat) (k x v:Nat),l[k]?=some x→ofL b (l.set k v)+b^k*x=ofL b l+b^k*v
 | [],k,x,v,h=>by simp at h
 | y::l,0,x,v,h=>by
   simp only[List.getElem?_cons_zero,Option.some.injEq]at h;subst h;simp only[List.set_cons_zero,ofL,Nat.pow_zero,Nat.one_mul];omega
 | y::l,k+1,x,v,h=>by
   have:=Ij b l k x v (by simpa using h);have h2:b*(ofL b (l.set k v)+b^k*x)=b*(ofL b l+b^k*v):=by rw[this]
   simp only[List.set_cons_succ,ofL,Nat.pow_succ];rw[Nat.mul_add,Nat.mul_add,←Nat.mul_assoc,←Nat.mul_assoc]at h2;rw[Nat.mul_comm (b^k) b];omega
theorem GE(b n:Nat):ofL b (List.replicate n 0)=0:=by
 induction n with
 | zero=>rfl
 | succ n ih=>simp[List.replicate_succ,ofL,ih]
theorem cY(b:Nat):aM b 0=[]:=by rw[aM];simp
theorem lG{b n:Nat}(hb:2≤b)(hn:n≠0):aM b n=n%b::aM b (n/b):=by
 rw[aM,dif_neg (by omega)]
theorem bW{b:Nat}(hb:2≤b)(n:Nat):Lim b (aM b n):=by
 induction n using Nat.strongRecOn with
 | _ n ih=>
   by_cases hn:n=0
   · subst hn;rw[cY];intro x hx;cases hx
   · rw[lG hb hn]
     intro x hx;rcases List.mem_cons.1 hx with rfl|hx
     · exact Nat.mod_lt _ (by omega)
     · exact ih (n/b) (Nat.div_lt_self (by omega) (by omega)) x hx
theorem cA{b:Nat}(hb:2≤b)(n:Nat):ofL b (aM b n)=n:=by
 induction n using Nat.strongRecOn with
 | _ n ih=>
   by_cases hn:n=0
   · subst hn;rw[cY];rfl
   · rw[lG hb hn,ofL,ih (n/b) (Nat.div_lt_self (by omega) (by omega))]
     exact Nat.mod_add_div n b
theorem mO{b n:Nat}(hb:2≤b):aM b n=[]↔n=0:=by
 constructor
 · intro h
   have:=cA hb n;rw[h]at this;exact this.symm
 · rintro rfl;exact cY b
theorem D0{b x m:Nat}(hb:2≤b)(hx:x<b)(h:x+b*m≠0):aM b (x+b*m)=x::aM b m:=by
 rw[lG hb h,Nat.add_mul_mod_self_left,Nat.mod_eq_of_lt hx,Nat.add_mul_div_left _ _ (by omega),Nat.div_eq_of_lt hx,Nat.zero_add]
theorem CL{b:Nat}(hb:2≤b):∀{l:List Nat},Lim b l→lM l=aM b (ofL b l)
 | [],_=>by rw[ofL,cY];rfl
 | x::l,h=>by
   have ih:=CL hb (l:=l) fun y hy=>h y (by simp[hy])
   have hx:=h x (by simp);rw[lM,ih];by_cases h0:ofL b l=0
   · simp only[ofL,h0,cY]
     by_cases hx0:x=0
     · subst hx0;simp[cY]
     · rw[if_neg hx0,D0 hb hx (by omega),cY]
   · have hne:aM b (ofL b l)≠[]:=fun e=>h0 ((mO hb).1 e)
     rw[ofL,D0 hb hx (by have:0<b*ofL b l:=Nat.mul_pos (by omega) (by omega);omega)];split
     · rename_i e;exact absurd e hne
     · rename_i e;rw[e]
theorem G5{b:Nat}(hb:2≤b){l:List Nat}{n:Nat}(h:Lim b l)(hn:ofL b l=n):lM l=aM b n:=by rw[CL hb h,hn]
theorem gE{b:Nat}(hb:2≤b){n k:Nat}(h:n<b^k):(aM b n).length≤k:=by
 induction k generalizing n with
 | zero => have : n = 0 := by simpa using h
           subst this;rw[cY];exact Nat.le_refl _
 | succ k ih=>
   by_cases hn:n=0
   · subst hn;rw[cY];exact Nat.zero_le _
   · rw[lG hb hn,List.length_cons]
     refine Nat.succ_le_succ (ih ?_);rw[Nat.div_lt_iff_lt_mul (by omega)]
     rwa [Nat.pow_succ]at h
theorem Ic{b:Nat}(hb:2≤b){n k:Nat}(h:b^k≤n):k<(aM b n).length:=by
 have h1:=iT (b:=b) (by omega) (bW hb n);rw[cA hb]at h1;exact(Nat.pow_lt_pow_iff_right (by omega)).1 (Nat.lt_of_le_of_lt h h1)
theorem bZ{b:Nat}(hb:2≤b){m n:Nat}(h:m≤n):(aM b m).length≤(aM b n).length:=by
 refine gE hb ?_;have h1:=iT (b:=b) (by omega) (bW hb n);rw[cA hb]at h1;omega
theorem L8{b:Nat}(hb:2≤b){n:Nat}(hn:n≠0):b^((aM b n).length-1)≤n:=by
 induction n using Nat.strongRecOn with
 | _ n ih=>
   rw[lG hb hn,List.length_cons,Nat.add_sub_cancel];by_cases h0:n/b=0
   · rw[h0,cY];simp;omega
   · have:=ih (n/b) (Nat.div_lt_self (by omega) (by omega)) h0
     have hl:(aM b (n/b)).length=((aM b (n/b)).length-1)+1:=by
       have:aM b (n/b)≠[]:=fun e=>h0 ((mO hb).1 e)
       have:=List.length_pos_iff.2 this;omega
     rw[hl,Nat.pow_succ];exact Nat.le_trans (Nat.mul_le_mul_right b this) (Nat.div_mul_le_self n b)
theorem Gv{b:Nat}(hb:0<b){l r:List Nat}(hl:Lim b l)(hr:Lim b r)(hlen:l.length=r.length){k x y:Nat}(hx:l[k]?=some x)(hy:r[k]?=some y)(hxy:x<y)(hd:l.drop (k+1)=r.drop (k+1)):ofL b l<ofL b r:=by
 have hk:k<l.length:=(List.getElem?_eq_some_iff.1 hx).1;have e1:l=l.take (k+1)++l.drop (k+1):=(List.take_append_drop _ _).symm;have e2:r=r.take (k+1)++r.drop (k+1):=(List.take_append_drop _ _).symm;rw[e1,e2,oC,oC,hd,jL b hx,jL b hy,List.length_take,List.length_take,Nat.min_eq_left (by omega),Nat.min_eq_left (by omega)];have h1:=iT hb (l:=l.take k) fun z hz=>hl z (List.mem_of_mem_take hz)
 rw[List.length_take,Nat.min_eq_left (by omega)]at h1;have h2:b^k*(x+1)≤b^k*y:=Nat.mul_le_mul_left _ hxy;rw[Nat.mul_add]at h2;omega
theorem Ft{b:Nat}(hb:2≤b){m n:Nat}(h:(aM b m).length<(aM b n).length):m<n:=by
 rcases Nat.lt_or_ge m n with h1|h1
 · exact h1
 · have:=bZ hb h1;omega
theorem Cm{α:Type}{p:List α→Prop}(h0:p [])(h1:∀l c,p l→p (l++[c]))(l:List α):p l:=by
 have:∀r:List α,p r.reverse:=fun r=>by
   induction r with
   | nil=>exact h0
   | cons c r ih=>rw[List.reverse_cons];exact h1 _ _ ih
 rw[←List.reverse_reverse l];exact this _
def isD(c:UInt8):Bool:=decide (48≤c.toNat)&&decide (c.toNat≤57)
def gA(l:List UInt8):Nat:=l.foldl (fun a c=>10*a+(c.toNat-48)) 0
def dU(l:List UInt8):Bool:=l != []&&(l.length == 1||l.getD 0 0 != 48)&&l.all isD
def dec(n:Nat):ByteArray:=⟨(decDigits n).toArray⟩
theorem lF(l:List UInt8)(c:UInt8):gA (l++[c])=10*gA l+(c.toNat-48):=by simp[gA]
theorem AS{α:Type}{l r:List α}{k:Nat}{d:α}(h:k<l.length):(l++r).getD k d=l.getD k d:=by
 simp only[List.getD,List.getElem?_append_left h]
theorem lK{d:Nat}(h:d<10):(UInt8.ofNat (48+d)).toNat=48+d:=by
 rw[UInt8.toNat_ofNat'];omega
theorem nN(n:Nat):gA (decDigits n)=n:=by
 induction n using Nat.strongRecOn with
 | _ n ih=>
   rw[decDigits];split
   · rename_i h
     simp only[gA,List.foldl_cons,List.foldl_nil,lK h];omega
   · rename_i h
     rw[lF,ih (n/10) (by omega),lK (by omega)];omega
theorem qU(n:Nat):(decDigits n).all isD=true:=by
 induction n using Nat.strongRecOn with
 | _ n ih=>
   rw[decDigits];split
   · rename_i h
     simp only[List.all_cons,List.all_nil,Bool.and_true,isD,lK h,Bool.and_eq_true,decide_eq_true_eq];omega
   · rename_i h
     rw[List.all_append,ih (n/10) (by omega)];simp only[List.all_cons,List.all_nil,Bool.and_true,Bool.true_and,isD,lK (show n%10<10 by omega),Bool.and_eq_true,decide_eq_true_eq];omega
theorem Eb(n:Nat):decDigits n≠[]:=by
 rw[decDigits];split <;> simp
theorem gN(n:Nat):0<(decDigits n).length:=List.length_pos_iff.2 (Eb n)
theorem Sd{n:Nat}(h:n≠0):(decDigits n).getD 0 0≠48:=by
 induction n using Nat.strongRecOn with
 | _ n ih=>
   rw[decDigits];split
   · rename_i h1
     simp only[List.getD_cons_zero];intro e;have:=lK h1;rw[e]at this;simp at this;omega
   · rename_i h1
     have h2:=ih (n/10) (by omega) (by omega);have h3:=gN (n/10);rw[AS h3];exact h2
theorem vL{n:Nat}:(decDigits n).length=1↔n<10:=by
 rw[decDigits];split
 · simp_all
 · rename_i h
   have:=gN (n/10);simp only[List.length_append,List.length_cons,List.length_nil];omega
theorem Qj(n:Nat):dU (decDigits n)=true:=by
 unfold dU;simp only[Bool.and_eq_true,bne_iff_ne,ne_eq,Bool.or_eq_true,beq_iff_eq];refine⟨⟨Eb n,?_⟩,qU n⟩;by_cases h:n=0
 · left;rw[vL];omega
 · right;exact Sd h
theorem kT{c:UInt8}:isD c=true↔48≤c.toNat∧c.toNat≤57:=by simp[isD]
theorem Rn{c:UInt8}(h:isD c=true):UInt8.ofNat (48+(c.toNat-48))=c:=by
 rw[kT]at h;rw[show 48+(c.toNat-48)=c.toNat by omega];exact UInt8.ofNat_toNat
theorem U3:∀{l:List UInt8},l.all isD=true→l≠[]→l.getD 0 0≠48→10^(l.length-1)≤gA l:=by
 intro l;induction l using Cm with
 | h0=>intro _ h;exact absurd rfl h
 | h1 l c ih=>
   intro ha _ h0;rw[List.all_append]at ha;simp only[Bool.and_eq_true,List.all_cons,List.all_nil,Bool.and_true]at ha;rw[lF];by_cases hl:l=[]
   · subst hl
     simp only[List.nil_append,List.getD_cons_zero]at h0;simp only[List.nil_append,List.length_cons,List.length_nil,Nat.zero_add,Nat.sub_self,Nat.pow_zero];have:=kT.1 ha.2;have h1:c.toNat≠48:=fun e=>h0 (UInt8.toNat.inj e)
     omega
   · have hp:=List.length_pos_iff.2 hl
     rw[AS hp]at h0;have:=ih ha.1 hl h0;simp only[List.length_append,List.length_cons,List.length_nil,Nat.zero_add,Nat.add_sub_cancel];rw[show l.length=(l.length-1)+1 by omega,Nat.pow_succ];omega
theorem HY:∀{l:List UInt8},dU l=true→decDigits (gA l)=l:=by
 intro l;induction l using Cm with
 | h0=>intro h;simp[dU]at h
 | h1 l c ih=>
   intro h;unfold dU at h;simp only[Bool.and_eq_true,bne_iff_ne,ne_eq,Bool.or_eq_true,beq_iff_eq,List.all_append,List.all_cons,List.all_nil,Bool.and_true]at h;obtain⟨⟨_,h1⟩,h2,h3⟩:=h;have hc:=kT.1 h3;by_cases hl:l=[]
   · subst hl
     rw[List.nil_append];rw[show gA [c]=c.toNat-48 by simp[gA],decDigits_one (by omega),Rn h3]
   · have hp:=List.length_pos_iff.2 hl
     have h0:l.getD 0 0≠48:=by
       rcases h1 with h1|h1
       · simp only[List.length_append,List.length_cons,List.length_nil]at h1;omega
       · rwa [AS hp]at h1
     have hv:=U3 h2 hl h0;have hv1:1≤gA l:=Nat.le_trans (Nat.one_le_pow _ _ (by omega)) hv;rw[lF,decDigits,dif_neg (by omega)];rw[show(10*gA l+(c.toNat-48))/10=gA l by omega,show(10*gA l+(c.toNat-48))%10=c.toNat-48 by omega,Rn h3,ih];unfold dU;simp only[Bool.and_eq_true,bne_iff_ne,ne_eq,Bool.or_eq_true,beq_iff_eq];exact⟨⟨hl,.inr h0⟩,h2⟩
theorem jH{n k:Nat}(hk:1≤k):(decDigits n).length≤k↔n<10^k:=by
 rw[decDigits_length];constructor
 · intro h
   exact Nat.lt_of_lt_of_le (lt_pow_nDigits n) (Nat.pow_le_pow_right (by omega) h)
 · intro h
   by_cases h0:n<10
   · rw[nDigits_small h0];exact hk
   · induction k generalizing n with
     | zero=>omega
     | succ k ih=>
       by_cases hk0:k=0
       · subst hk0;simp at h;omega
       · rw[nDigits_big h0]
         rw[Nat.pow_succ]at h;have:=Nat.succ_le_succ (show nDigits (n/10)≤k from by
           by_cases h9:n/10<10
           · rw[nDigits_small h9];omega
           · exact ih (by omega) (by omega) h9)
         exact this
end Go.Nu
end

section
set_option linter.unusedSimpArgs false
set_option linter.unusedVariables false
namespace Go.Nu
open Go Go.Lib
def bl(s:ByteArray):List UInt8:=s.data.toList
theorem jJ{a b:ByteArray}(h:bl a=bl b):a=b:=by
 cases a;cases b;simp only[bl]at h;rw[Array.toList_inj.1 h]
theorem cE(s:ByteArray):(bl s).length=s.size:=by unfold bl;rw[Array.length_toList];rfl
def eqB(a b:ByteArray):Bool:=bl a == bl b
theorem kB{a b:ByteArray}:eqB a b=true↔a=b:=by
 unfold eqB;rw[beq_iff_eq];exact⟨jJ,fun h=>by rw[h]⟩
theorem lS{a b:ByteArray}:eqB a b=false↔a≠b:=by rw[←Bool.not_eq_true,kB]
theorem iO(l:List UInt8):bl ⟨l.toArray⟩=l:=by simp[bl]
theorem kN(a b:ByteArray):bl (a++b)=bl a++bl b:=by unfold bl;rw[ByteArray.data_append,Array.toList_append]
theorem akY(s:ByteArray):(⟨(bl s).toArray⟩:ByteArray)=s:=jJ (iO _)
def emp:ByteArray:=ByteArray.empty
theorem Yx:bl emp=[]:=rfl
theorem eQ(s:ByteArray)(a b:Nat):bl (s.extract a b)=((bl s).take b).drop a:=by
 simp[bl,ByteArray.data_extract,Array.toList_extract,List.extract_eq_take_drop,List.drop_take]
def Vc:Nat:=4096
def cC:Nat:=10^Vc
theorem GS{n k:Nat}(h:n<10^k)(hk:k≤4096):n<cC:=Nat.lt_of_lt_of_le h (Nat.pow_le_pow_right (show 0<10 by omega) (show k≤Vc from hk))
theorem Wp:0<cC:=Nat.pow_pos (show 0<10 by omega)
def dB(s:ByteArray):Bool:=dU (bl s)
def dR(s:ByteArray):Nat:=gA (bl s)
theorem gI(n:Nat):bl (dec n)=decDigits n:=iO _
theorem kC(n:Nat):dB (dec n)=true:=by unfold dB;rw[gI];exact Qj n
theorem bO(n:Nat):dR (dec n)=n:=by unfold dR;rw[gI];exact nN n
theorem iP{s:ByteArray}(h:dB s=true):dec (dR s)=s:=jJ (by rw[gI];exact HY h)
theorem hU(n:Nat):(dec n).size=(decDigits n).length:=by rw[←cE,gI]
theorem gJ(n:Nat):(dec n).size≤4096↔n<cC:=by rw[hU];exact jH (k:=Vc) (by decide)
theorem tS{s:ByteArray}(h:dB s=true):s.size≤4096↔dR s<cC:=by
 have:=gJ (dR s)
 rwa [iP h]at this
theorem nW{m n:Nat}:dec m=dec n↔m=n:=⟨fun h=>by rw[←bO m,h,bO],fun h=>by rw[h]⟩
def szN(n:Nat):ByteArray×Int:=if n<cC then(dec n,0)else(emp,4)
def iK(a b:ByteArray):Int:=if(!dB a|| !dB b)=true then 3 else if(decide (a.size>4096)||decide (b.size>4096))=true then 4 else 0
def LF(a b:ByteArray):ByteArray×Int:=if iK a b=0 then szN (dR a+dR b)else(emp,iK a b)
def MD(a b:ByteArray):ByteArray×Int:=if iK a b=0 then(if dR a<dR b then(emp,2)else szN (dR a-dR b))else(emp,iK a b)
def LP(a b:ByteArray):ByteArray×Int:=if iK a b=0 then szN (dR a*dR b)else(emp,iK a b)
def AC(a b:ByteArray):ByteArray×ByteArray×Int:=if iK a b=0 then(if dR b=0 then(emp,emp,10)else(dec (dR a/dR b),dec (dR a%dR b),0))else(emp,emp,iK a b)
def vA(a b:ByteArray):ByteArray×Int:=if iK a b=0 then szN (Nat.gcd (dR a) (dR b))else(emp,iK a b)
theorem Co{a b:ByteArray}(ha:dB a=true)(hb:dB b=true)(sa:a.size≤4096)(sb:b.size≤4096):iK a b=0:=by
 unfold iK;rw[ha,hb];simp;omega
theorem tC{m n:Nat}(hm:m<cC)(hn:n<cC):iK (dec m) (dec n)=0:=Co (kC m) (kC n) ((gJ m).2 hm) ((gJ n).2 hn)
theorem nS{a b:ByteArray}(h:iK a b=0):∃m n,a=dec m∧b=dec n∧m<cC∧n<cC:=by
 unfold iK at h;split at h
 · cases h
 · rename_i h1
   split at h
   · cases h
   · rename_i h2
     simp only[Bool.or_eq_true,Bool.not_eq_true',not_or,Bool.not_eq_false,decide_eq_true_eq,Nat.not_lt]at h1 h2;exact⟨dR a,dR b,(iP h1.1).symm,(iP h1.2).symm,(tS h1.1).1 h2.1,(tS h1.2).1 h2.2⟩
theorem tJ{n:Nat}(h:n<cC):szN n=(dec n,0):=if_pos h
def dZ(s:ByteArray):Bool:=(bl s).head? == some 45
def dO(s:ByteArray):ByteArray:=if dZ s=true then⟨((bl s).drop 1).toArray⟩else s
def eC(s:ByteArray):Bool:=dB (dO s)&& !(dZ s&&eqB (dO s) (dec 0))
def fF(s:ByteArray):Int:=if dZ s=true then -(dR (dO s):Int)else dR (dO s)
def zed(n:Int):ByteArray:=⟨(itoa n).toArray⟩
theorem cX(n:Nat):zed n=dec n:=by unfold zed;rw[itoa_nonneg];rfl
theorem AD{n:Nat}(h:1≤n):zed (-(n:Int))=⟨((45:UInt8)::decDigits n).toArray⟩:=by unfold zed;rw[itoa_neg n h]
theorem Az(n:Nat):dZ (dec n)=false:=by
 unfold dZ;rw[gI];have h1:=qU n;have h2:=Eb n;cases h:decDigits n with
 | nil=>exact absurd h h2
 | cons c r=>
   rw[h]at h1;simp only[List.all_cons,Bool.and_eq_true]at h1;have:=kT.1 h1.1;simp only[List.head?_cons,beq_eq_false_iff_ne,ne_eq,Option.some.injEq];intro e;rw[e]at this;simp at this
theorem K9(n:Nat):dO (dec n)=dec n:=by unfold dO;rw[Az];rfl
theorem CS(l:List UInt8):dZ ⟨((45:UInt8)::l).toArray⟩=true:=by unfold dZ;rw[iO];rfl
theorem Qc(l:List UInt8):dO ⟨((45:UInt8)::l).toArray⟩=⟨l.toArray⟩:=by unfold dO;rw[CS,if_pos rfl,iO];rfl
theorem nQ(n:Int):dZ (zed n)=decide (n<0):=by
 rcases Int.lt_or_le n 0 with h|h
 · obtain⟨m,rfl⟩:∃m:Nat,n= -(m:Int):=⟨n.natAbs,by omega⟩
   rw[AD (by omega),CS];simp;omega
 · obtain⟨m,rfl⟩:∃m:Nat,n=m:=⟨n.toNat,by omega⟩
   rw[cX,Az];simp
theorem hY(n:Int):dO (zed n)=dec n.natAbs:=by
 rcases Int.lt_or_le n 0 with h|h
 · obtain⟨m,rfl⟩:∃m:Nat,n= -(m:Int):=⟨n.natAbs,by omega⟩
   rw[AD (by omega),Qc,Int.natAbs_neg,Int.natAbs_natCast];rfl
 · obtain⟨m,rfl⟩:∃m:Nat,n=m:=⟨n.toNat,by omega⟩
   rw[cX,K9,Int.natAbs_natCast]
theorem nT(n:Int):eC (zed n)=true:=by
 unfold eC;rw[hY,nQ,kC];simp only[Bool.true_and,Bool.not_eq_true',Bool.and_eq_false_iff,decide_eq_false_iff_not];by_cases h:n<0
 · right
   refine lS.2 fun e=>?_
   rw[nW]at e;omega
 · left;exact h
theorem bV(n:Int):fF (zed n)=n:=by
 unfold fF;rw[hY,nQ,bO];split
 · rename_i h;simp only[decide_eq_true_eq]at h;omega
 · rename_i h;simp only[decide_eq_true_eq]at h;omega
theorem qD{s:ByteArray}(h:eC s=true):zed (fF s)=s:=by
 unfold eC at h;simp only[Bool.and_eq_true,Bool.not_eq_true',Bool.and_eq_false_iff]at h;obtain⟨h1,h2⟩:=h;have hd:=iP h1;unfold fF;by_cases hm:dZ s=true
 · have h3 : dO s ≠ dec 0 := by
     rcases h2 with h2|h2
     · rw[hm]at h2;cases h2
     · exact lS.1 h2
   rw[if_pos hm];have hv:1≤dR (dO s):=by
     rcases Nat.eq_zero_or_pos (dR (dO s))with h4|h4
     · exact absurd (by rw[←hd,h4]) h3
     · exact h4
   rw[AD hv];refine jJ ?_;rw[iO,←gI,hd];unfold dO;rw[if_pos hm,iO];unfold dZ at hm;cases hb:bl s with
   | nil=>rw[hb]at hm;cases hm
   | cons c r=>
     rw[hb]at hm;simp only[List.head?_cons,beq_iff_eq,Option.some.injEq]at hm;subst hm;rfl
 · rw[if_neg hm,cX,hd]
   unfold dO;rw[if_neg hm]
theorem Up{m n:Int}:zed m=zed n↔m=n:=⟨fun h=>by rw[←bV m,h,bV],fun h=>by rw[h]⟩
def szZ(n:Int):ByteArray×Int:=if n.natAbs<cC then(zed n,0)else(emp,4)
def iQ(a b:ByteArray):Int:=if(!eC a|| !eC b)=true then 3 else if(decide ((dO a).size>4096)||decide ((dO b).size>4096))=true then 4 else 0
def Er(a b:ByteArray):ByteArray×Int:=if iQ a b=0 then szZ (fF a+fF b)else(emp,iQ a b)
def Pa(a b:ByteArray):ByteArray×Int:=if iQ a b=0 then szZ (fF a-fF b)else(emp,iQ a b)
def sC(a b:ByteArray):ByteArray×Int:=if iQ a b=0 then szZ (fF a*fF b)else(emp,iQ a b)
def qR(a b:ByteArray):ByteArray×ByteArray×Int:=if iQ a b=0 then(if fF b=0 then(emp,emp,10)else(zed ((fF a).fdiv (fF b)),zed ((fF a).fmod (fF b)),0))else(emp,emp,iQ a b)
def gD(a b:Int):Int:=if a<b then -1 else if b<a then 1 else 0
def La(a b:ByteArray):Int:=if eC a=true∧eC b=true then gD (fF a) (fF b)else 0
def FY(a:ByteArray):Int:=if eC a=true then(fF a).sign else 0
theorem nK{m n:Int}(hm:m.natAbs<cC)(hn:n.natAbs<cC):iQ (zed m) (zed n)=0:=by
 unfold iQ;rw[nT,nT,hY,hY];have:=(gJ m.natAbs).2 hm;have:=(gJ n.natAbs).2 hn;simp;omega
theorem mQ{a b:ByteArray}(h:iQ a b=0):∃m n:Int,a=zed m∧b=zed n∧m.natAbs<cC∧n.natAbs<cC:=by
 unfold iQ at h;split at h
 · cases h
 · rename_i h1
   split at h
   · cases h
   · rename_i h2
     simp only[Bool.or_eq_true,Bool.not_eq_true',not_or,Bool.not_eq_false,decide_eq_true_eq,Nat.not_lt]at h1 h2;have ea:=qD h1.1;have eb:=qD h1.2;refine⟨fF a,fF b,ea.symm,eb.symm,?_,?_⟩
     · have:=h2.1
       rw[←ea,hY]at this;exact(gJ _).1 this
     · have:=h2.2
       rw[←eb,hY]at this;exact(gJ _).1 this
end Go.Nu
end

section
set_option linter.unusedSimpArgs false
set_option linter.unusedVariables false
namespace Go.Nu
open Go Go.Lib
def dC:UInt8:=47
def jP(s:ByteArray):Bool:=(bl s).any (· == dC)
def fI(s:ByteArray):ByteArray:=⟨((bl s).takeWhile (· != dC)).toArray⟩
def eZ(s:ByteArray):ByteArray:=if jP s=true then⟨(((bl s).dropWhile (· != dC)).drop 1).toArray⟩else dec 1
def cK(s:ByteArray):Bool:=(eC (fI s)&&dB (eZ s)&&decide ((dO (fI s)).size≤4096)&&decide ((eZ s).size≤4096)) &&
 (!jP s||(!eqB (eZ s) (dec 0)&& !eqB (eZ s) (dec 1)&& !eqB (fI s) (dec 0)&&Nat.gcd (fF (fI s)).natAbs (dR (eZ s)) == 1))
def yD(s:ByteArray):Rat:=mkRat (fF (fI s)) (dR (eZ s))
def slB:ByteArray:=⟨#[47]⟩
def hJ(x:Rat):ByteArray:=if x.den=1 then zed x.num else zed x.num++slB++dec x.den
def mJ(x:Rat):Prop:=x.num.natAbs<cC∧x.den<cC
theorem uR{α:Type}{p:α→Bool}:∀{l:List α},(∀c∈l,p c=true)→l.takeWhile p=l
 | [],_=>rfl
 | a::l,h=>by rw[List.takeWhile_cons,if_pos (h a (by simp)),uR fun c hc=>h c (by simp[hc])]
theorem Bj{α:Type}{p:α→Bool}:∀{l:List α} {c:α},c∈l.takeWhile p→p c=true
 | [],c,h=>by simp at h
 | a::l,c,h=>by
   rw[List.takeWhile_cons]at h;split at h
   · rename_i ha
     rcases List.mem_cons.1 h with rfl|h
     · exact ha
     · exact Bj h
   · cases h
theorem K7{c:UInt8}(h:isD c=true):(c != dC)=true:=by
 have:=kT.1 h;simp only[bne_iff_ne,ne_eq];intro e;rw[e]at this;simp[dC]at this
theorem Bz(n:Nat):∀c∈decDigits n,(c != dC)=true:=fun c hc=>K7 (List.all_eq_true.1 (qU n) c hc)
theorem pL(n:Int):∀c∈itoa n,(c != dC)=true:=by
 intro c hc;unfold itoa at hc;split at hc
 · rcases List.mem_cons.1 hc with rfl|hc
   · decide
   · exact Bz _ c hc
 · exact Bz _ c hc
theorem CX(n:Int):bl (zed n)=itoa n:=iO _
theorem Zq:bl slB=[dC]:=rfl
theorem EZ{l r:List UInt8}(h:∀c∈l,(c != dC)=true):(l++dC::r).takeWhile (· != dC)=l:=by
 rw[List.takeWhile_append_of_pos h];simp
theorem Fx{l r:List UInt8}(h:∀c∈l,(c != dC)=true):(l++dC::r).dropWhile (· != dC)=dC::r:=by
 rw[List.dropWhile_append_of_pos h];simp
theorem Ta{l:List UInt8}(h:∀c∈l,(c != dC)=true):l.any (· == dC)=false:=by
 rw[List.any_eq_false];intro c hc e;have:=h c hc;simp at this e;exact this e
theorem rH(x:Rat):bl (hJ x)=if x.den=1 then itoa x.num else itoa x.num++dC::decDigits x.den:=by
 unfold hJ;split
 · exact CX _
 · rw[kN,kN,CX,gI,Zq];simp
theorem Dz(x:Rat):jP (hJ x)= !(x.den == 1):=by
 unfold jP;rw[rH];split
 · rename_i h;rw[Ta (pL _),h];rfl
 · rename_i h
   rw[List.any_append];simp[h]
theorem Gi(x:Rat):fI (hJ x)=zed x.num:=by
 refine jJ ?_;unfold fI;rw[iO,rH,CX];split
 · exact uR (pL _)
 · exact EZ (pL _)
theorem E8(x:Rat):eZ (hJ x)=dec x.den:=by
 unfold eZ;rw[Dz,rH];by_cases h:x.den=1
 · simp[h]
 · simp only[h,beq_eq_false_iff_ne.2 h,Bool.not_false,if_true,if_false]
   rw[Fx (pL _)];rfl
theorem eI(x:Rat):yD (hJ x)=x:=by
 unfold yD;rw[Gi,E8,bV,bO,Rat.mkRat_self]
theorem nZ(n:Int):(dO (zed n)).size≤4096↔n.natAbs<cC:=by rw[hY];exact gJ _
theorem kA{x:Rat}(h:mJ x):cK (hJ x)=true:=by
 unfold cK;rw[Gi,E8,nT,kC,Dz,bV,bO];simp only[Bool.true_and,Bool.and_eq_true,decide_eq_true_eq,Bool.or_eq_true,Bool.not_not,beq_iff_eq,Bool.not_eq_true',lS,ne_eq];refine⟨⟨(nZ _).2 h.1,(gJ _).2 h.2⟩,?_⟩;by_cases h1:x.den=1
 · exact .inl h1
 · refine .inr ⟨⟨⟨?_,?_⟩,?_⟩,x.reduced⟩
   · rw[nW];exact x.den_nz
   · rw[nW];exact h1
   · rw[←cX,Up]
     intro h0;apply h1;have:=x.reduced;rw[h0]at this;simpa[Nat.Coprime]using this
theorem gP{s:ByteArray}(h:cK s=true):∃x:Rat,s=hJ x∧mJ x∧fI s=zed x.num∧eZ s=dec x.den:=by
 unfold cK at h;simp only[Bool.and_eq_true,decide_eq_true_eq,Bool.or_eq_true,Bool.not_eq_true',lS,ne_eq,beq_iff_eq]at h;obtain⟨⟨⟨⟨h1,h2⟩,h3⟩,h4⟩,h5⟩:=h;have ep:=qD h1;have eq:=iP h2;have hcop:(fF (fI s)).natAbs.Coprime (dR (eZ s))∧dR (eZ s)≠0:=by
   rcases h5 with h5|⟨⟨⟨h6,_⟩,_⟩,h7⟩
   · have e1:eZ s=dec 1:=by unfold eZ;rw[if_neg (by rw[h5];simp)]
     rw[e1,bO];exact⟨Nat.coprime_one_right _,by omega⟩
   · exact⟨h7,fun e=>h6 (by rw[←eq,e])⟩
 let x:Rat:=⟨fF (fI s),dR (eZ s),hcop.2,hcop.1⟩
 have e1:fI s=zed x.num:=ep.symm;have e2:eZ s=dec x.den:=eq.symm;refine⟨x,jJ ?_,⟨?_,?_⟩,e1,e2⟩
 · rw[rH]
   have hn:bl (fI s)=(bl s).takeWhile (· != dC):=iO _;rw[e1,CX]at hn;by_cases hs:jP s=true
   · have hd:bl (eZ s)=((bl s).dropWhile (· != dC)).drop 1:=by unfold eZ;rw[if_pos hs,iO]
     rw[e2,gI]at hd;have hx:x.den≠1:=fun e=>by
       rcases h5 with h5|⟨⟨⟨_,h6⟩,_⟩,_⟩
       · rw[hs]at h5;cases h5
       · exact h6 (by rw[e2,e])
     rw[if_neg hx,hn,hd]
     conv=>lhs;rw[←List.takeWhile_append_dropWhile (p:=(· != dC)) (l:=bl s)]
     congr 1
     cases hw:(bl s).dropWhile (· != dC)with
     | nil=>
       exfalso
       unfold jP at hs;obtain⟨c,hc,hcs⟩:=List.any_eq_true.1 hs;rw[←List.takeWhile_append_dropWhile (p:=(· != dC)) (l:=bl s),hw,List.append_nil]at hc;have:=Bj hc;simp at this hcs;exact this hcs
     | cons c r=>
       have h0:(c != dC)=false:=by
         have:=List.head?_dropWhile_not (p:=(· != dC)) (l:=bl s);rw[hw]at this;simpa using this
       have:c=dC:=by simpa using h0
       rw[this];rfl
   · have hs:jP s=false:=by simpa using hs
     have hx:x.den=1:=by
       have:eZ s=dec 1:=by unfold eZ;rw[hs];rfl
       rw[e2]at this;exact nW.1 this
     rw[if_pos hx,hn]
     symm
     refine uR ?_;intro c hc;unfold jP at hs;rw[List.any_eq_false]at hs;have:=hs c hc;simp at this ⊢;exact this
 · rw[e1]at h3;exact(nZ _).1 h3
 · rw[e2]at h4;exact(gJ _).1 h4
theorem Q5{x y:Rat}:hJ x=hJ y↔x=y:=⟨fun h=>by rw[←eI x,h,eI],fun h=>by rw[h]⟩
def nJ(n:Int):Bool:= !decide (n.natAbs<cC)
def yI(x y:Rat):ByteArray×Int:=if(nJ (x.num*y.den)||nJ (y.num*x.den)||nJ (x.num*y.den+y.num*x.den)||nJ (x.den*y.den))=true then(emp,4)else(hJ (x+y),0)
def qL(a b:ByteArray):ByteArray×Int:=if(cK a&&cK b)=true then yI (yD a) (yD b)else(emp,3)
def pQ(a b:ByteArray):ByteArray×Int:=if(cK a&&cK b)=true then yI (yD a) (-yD b)else(emp,3)
def QK(x y:Rat):Int:=if x<y then -1 else if y<x then 1 else 0
def Ea(a b:ByteArray):Int:=if(cK a&&cK b)=true then QK (yD a) (yD b)else 0
end Go.Nu
end

section
set_option linter.unusedSimpArgs false
set_option linter.unusedVariables false
namespace Go.Nu
open Go Go.Lib
theorem Hi{n:Int}{d:Nat}(hd:d≠0):n.fdiv (Nat.gcd n.natAbs d:Nat)=(mkRat n d).num:=by
 rw[Rat.num_mkRat,if_neg hd,Nat.gcd_comm];exact Int.fdiv_eq_ediv_of_nonneg _ (by omega)
theorem Il{n:Int}{d:Nat}(hd:d≠0):(d:Int).fdiv (Nat.gcd n.natAbs d:Nat)=((mkRat n d).den:Int):=by
 rw[Rat.den_mkRat,if_neg hd,Nat.gcd_comm,Int.fdiv_eq_ediv_of_nonneg _ (by omega)];rfl
theorem Dd{n:Int}{d:Nat}(hd:d≠0)(hn:n.natAbs<cC)(hd2:d<cC):mJ (mkRat n d):=by
 constructor
 · rw[Rat.num_mkRat,if_neg hd]
   have:(n/((d.gcd n.natAbs:Nat):Int)).natAbs≤n.natAbs:=by
     rw[Int.natAbs_ediv_of_dvd]
     · exact Nat.div_le_self _ _
     · exact Int.ofNat_dvd_left.2 (Nat.gcd_dvd_right _ _)
   omega
 · rw[Rat.den_mkRat,if_neg hd]
   exact Nat.lt_of_le_of_lt (Nat.div_le_self _ _) hd2
theorem HZ{n:Int}{d:Nat}(hd:d≠0):0<Nat.gcd n.natAbs d:=Nat.gcd_pos_of_pos_right _ (by omega)
theorem Fy{n:Int}{d:Nat}(hd:d≠0)(h:d<cC):Nat.gcd n.natAbs d<cC:=Nat.lt_of_le_of_lt (Nat.gcd_le_right _ (by omega)) h
theorem iX{n:Int}:nJ n=false↔n.natAbs<cC:=by simp[nJ]
theorem DU(x y:Rat):x+y=mkRat (x.num*y.den+y.num*x.den) (x.den*y.den):=Rat.add_def' x y
theorem Cw(x y:Rat):((x.den:Int)*y.den).natAbs=x.den*y.den:=by rw[Int.natAbs_mul,Int.natAbs_natCast,Int.natAbs_natCast]
theorem GW(x y:Rat):x.den*y.den≠0:=Nat.mul_ne_zero x.den_nz y.den_nz
theorem MH{x y:Rat}(h:(yI x y).2=0):yI x y=(hJ (x+y),0)∧mJ (x+y):=by
 unfold yI at h ⊢;split at h
 · cases h
 · rename_i hb
   rw[if_neg hb];simp only[Bool.or_eq_true,not_or,Bool.not_eq_true,iX]at hb;exact⟨rfl,by rw[DU];exact Dd (GW x y) hb.1.2 (by rw[←Cw];exact hb.2)⟩
theorem NB{x y:Rat}(h1:(x.num*y.den).natAbs<cC)(h2:(y.num*x.den).natAbs<cC)(h3:(x.num*y.den+y.num*x.den).natAbs<cC)(h4:x.den*y.den<cC):yI x y=(hJ (x+y),0):=by
 unfold yI;rw[if_neg];simp only[Bool.or_eq_true,not_or,Bool.not_eq_true,iX];exact⟨⟨⟨h1,h2⟩,h3⟩,by rw[Cw];exact h4⟩
def EC(p q r s:Int):Int:=gD (p*s) (r*q)
theorem nB{p q:Int}(hq:0<q):p=p.fdiv q*q+p.fmod q∧0≤p.fmod q∧p.fmod q<q:=
 ⟨by rw[Int.mul_comm];exact(Int.mul_fdiv_add_fmod p q).symm,Int.fmod_nonneg_of_pos _ hq,Int.fmod_lt_of_pos _ hq⟩
theorem iD{a b:Int}(h:a<b):gD a b= -1:=if_pos h
theorem iF{a b:Int}(h:b<a):gD a b=1:=by unfold gD;rw[if_neg (by omega),if_pos h]
theorem nF{a b:Int}(h:a=b):gD a b=0:=by unfold gD;rw[if_neg (by omega),if_neg (by omega)]
theorem Bc{a b:Int}:gD a b=0↔a=b:=by
 unfold gD;constructor
 · intro h
   split at h
   · cases h
   · split at h
     · cases h
     · omega
 · intro h;rw[if_neg (by omega),if_neg (by omega)]
theorem Pw(a b:Int):gD b a= -gD a b:=by
 rcases Int.lt_trichotomy a b with h|h|h
 · rw[iD h,iF h];rfl
 · rw[nF h,nF h.symm];rfl
 · rw[iF h,iD h]
theorem K0{p q r s:Int}(hq:0<q)(hs:0<s)(h:p.fdiv q<r.fdiv s):p*s<r*q:=by
 obtain⟨e1,a1,b1⟩:=nB (p:=p) hq;obtain⟨e2,a2,b2⟩:=nB (p:=r) hs;have h1:p*s<(p.fdiv q+1)*q*s:=by
   refine Int.mul_lt_mul_of_pos_right ?_ hs;rw[Int.add_mul];omega
 have h2:(p.fdiv q+1)*q*s≤r.fdiv s*q*s:=Int.mul_le_mul_of_nonneg_right (Int.mul_le_mul_of_nonneg_right (by omega) (by omega)) (by omega);have h3:r.fdiv s*q*s≤r*q:=by
   rw[Int.mul_right_comm];exact Int.mul_le_mul_of_nonneg_right (by omega) (by omega)
 omega
theorem CD{p q r s:Int}(hq:0<q)(hs:0<s)(h:p.fdiv q≠r.fdiv s):EC p q r s=gD (p.fdiv q) (r.fdiv s):=by
 unfold EC;rcases Int.lt_or_gt_of_ne h with h|h
 · rw[iD h,iD (K0 hq hs h)]
 · rw[iF h,iF (K0 hs hq h)]
theorem FK{p q r s:Int}(hq:0<q)(hs:0<s)(h:p.fdiv q=r.fdiv s):EC p q r s=gD (p.fmod q*s) (r.fmod s*q):=by
 obtain⟨e1,_,_⟩:=nB (p:=p) hq;obtain⟨e2,_,_⟩:=nB (p:=r) hs;unfold EC;have h1:p*s=p.fdiv q*q*s+p.fmod q*s:=by
   conv=>lhs;rw[e1]
   rw[Int.add_mul]
 have h2:r*q=p.fdiv q*q*s+r.fmod s*q:=by
   conv=>lhs;rw[e2]
   rw[Int.add_mul,←h,Int.mul_right_comm]
 rw[h1,h2];unfold gD;have c1:(p.fdiv q*q*s+p.fmod q*s<p.fdiv q*q*s+r.fmod s*q)↔p.fmod q*s<r.fmod s*q:=by omega
 have c2:(p.fdiv q*q*s+r.fmod s*q<p.fdiv q*q*s+p.fmod q*s)↔r.fmod s*q<p.fmod q*s:=by omega
 simp only[c1,c2]
theorem FG(x q y s:Int):gD (x*s) (y*q)= -EC q x s y:=by
 unfold EC;rw[Int.mul_comm q y,Int.mul_comm s x];exact Pw _ _
theorem Tf(x y:Rat):QK x y=EC x.num x.den y.num y.den:=by
 unfold QK EC gD;simp only[Rat.lt_iff]
end Go.Nu
end

section
set_option linter.unusedSimpArgs false
set_option linter.unusedVariables false
namespace Go.Nu
open Go Go.Lib
theorem pW(b:Nat)(l:List Nat)(k:Nat):ofL b (l.take (k+1))=ofL b (l.take k)+b^k*l.getD k 0:=by
 cases h:l[k]? with
 | none=>
   have hk:=List.getElem?_eq_none_iff.1 h;rw[List.take_of_length_le (by omega),List.take_of_length_le (by omega)];simp[List.getD,h]
 | some x=>rw[jL b h];simp[List.getD,h]
theorem Lim.getD{b:Nat}(hb:0<b){l:List Nat}(h:Lim b l)(k:Nat):l.getD k 0<b:=by
 cases h':l[k]? with
 | none=>simpa[List.getD,h']using hb
 | some x=>simpa[List.getD,h']using h x (List.mem_of_getElem? h')
theorem Lim.snoc{b:Nat}{l:List Nat}(h:Lim b l){x:Nat}(hx:x<b):Lim b (l++[x]):=fun y hy=>by
 rcases List.mem_append.1 hy with hy|hy
 · exact h y hy
 · rw[List.mem_singleton.1 hy];exact hx
theorem Lim.set{b:Nat}{l:List Nat}(h:Lim b l){x k:Nat}(hx:x<b):Lim b (l.set k x):=fun y hy=>by
 rcases List.mem_or_eq_of_mem_set hy with hy|rfl
 · exact h y hy
 · exact hx
theorem Lim.take{b:Nat}{l:List Nat}(h:Lim b l)(k:Nat):Lim b (l.take k):=fun y hy=>h y (List.mem_of_mem_take hy)
theorem Lim.drop{b:Nat}{l:List Nat}(h:Lim b l)(k:Nat):Lim b (l.drop k):=fun y hy=>h y (List.mem_of_mem_drop hy)
theorem Lim.zeros{b:Nat}(hb:0<b)(n:Nat):Lim b (List.replicate n 0):=fun y hy=>by
 rw[(List.mem_replicate.1 hy).2];exact hb
theorem vG(b:Nat){l:List Nat}{k x:Nat}(h:l[k]?=some x):ofL b (l.drop k)=x+b*ofL b (l.drop (k+1)):=by
 obtain⟨hk,hx⟩:=List.getElem?_eq_some_iff.1 h;rw[List.drop_eq_getElem_cons hk,hx,ofL]
theorem M0{b : Nat}(hb : 0 < b){l o : List Nat}{i n k c : Nat}(hn : l[i]? = some n)(hl : o.length = i)(h : ofL b o + b ^ i * c = ofL b (l.take i) * k):
   ofL b (o++[(n*k+c)%b])+b^(i+1)*((n*k+c)/b)=ofL b (l.take (i+1))*k:=by
 rw[qP,jL b hn,hl,Nat.pow_succ];have e:=Nat.mod_add_div (n*k+c) b;have e2:b^i*((n*k+c)%b+b*((n*k+c)/b))=b^i*(n*k+c):=by rw[e]
 grind
theorem II{b : Nat}(hb : 0 < b){x y o : List Nat}{i c : Nat}(hl : o.length = i)(h : ofL b o + b ^ i * c = ofL b (x.take i) + ofL b (y.take i)):
   ofL b (o++[(x.getD i 0+y.getD i 0+c)%b])+b^(i+1)*((x.getD i 0+y.getD i 0+c)/b)=ofL b (x.take (i+1))+ofL b (y.take (i+1)):=by
 rw[qP,pW,pW,hl,Nat.pow_succ];have e:=Nat.mod_add_div (x.getD i 0+y.getD i 0+c) b;have e2:b^i*((x.getD i 0+y.getD i 0+c)%b+b*((x.getD i 0+y.getD i 0+c)/b))=b^i*(x.getD i 0+y.getD i 0+c):=by rw[e]
 grind
theorem yM{b : Nat}{x y o : List Nat}{i c c' d : Nat}(hl : o.length = i)(h : ofL b o + ofL b (y.take i) = ofL b (x.take i) + b ^ i * c)(hd : d + y.getD i 0 + c = x.getD i 0 + b * c'):
   ofL b (o++[d])+ofL b (y.take (i+1))=ofL b (x.take (i+1))+b^(i+1)*c':=by
 rw[qP,pW,pW,hl,Nat.pow_succ];have e2:b^i*(d+y.getD i 0+c)=b^i*(x.getD i 0+b*c'):=by rw[hd]
 grind
theorem B0{b x y c:Nat}(hx:x<b)(hy:y<b)(hc:c≤1):(if(x:Int)-y-c<0 then(x:Int)-y-c+b else(x:Int)-y-c)=((if x<y+c then x+b-(y+c)else x-(y+c):Nat):Int):=by
 split <;> split <;> omega
theorem tM{b x y c:Nat}(hx:x<b)(hy:y<b)(hc:c≤1):(if x<y+c then x+b-(y+c)else x-(y+c))+y+c=x+b*(if x<y+c then 1 else 0)∧(if x<y+c then x+b-(y+c)else x-(y+c))<b:=by
 split <;> constructor <;> omega
theorem AW{b : Nat}(hb : 2 ≤ b){x y o : List Nat}{c : Nat}(ho : Lim b o)(hx : Lim b x)(hl : o.length = x.length)(hyl : y.length ≤ x.length)(hle : ofL b y ≤ ofL b x)(hc : c ≤ 1)(h : ofL b o + ofL b (y.take x.length) = ofL b (x.take x.length) + b ^ x.length * c):
   c=0∧ofL b o=ofL b x-ofL b y:=by
 rw[List.take_of_length_le hyl,List.take_length]at h;have h1:=iT (by omega) ho;rw[hl]at h1;rcases Nat.eq_zero_or_pos c with hc0|hc0
 · subst hc0;rw[Nat.mul_zero]at h;omega
 · have:c=1:=by omega
   subst this;rw[Nat.mul_one]at h;omega
theorem K8{b : Nat}(hb : 0 < b){y out out0 : List Nat}{i k x c v yk : Nat}(hv : out[i + k]? = some v)(hy : y[k]? = some yk)(h : ofL b out + b ^ (i + k) * c = ofL b out0 + b ^ i * (x * ofL b (y.take k))):
   ofL b (out.set (i+k) ((v+x*yk+c)%b))+b^(i+(k+1))*((v+x*yk+c)/b)=ofL b out0+b^i*(x*ofL b (y.take (k+1))):=by
 have h1:=Ij b out (i+k) v ((v+x*yk+c)%b) hv;have e:=Nat.mod_add_div (v+x*yk+c) b;have e2:b^(i+k)*((v+x*yk+c)%b+b*((v+x*yk+c)/b))=b^(i+k)*(v+x*yk+c):=by rw[e]
 rw[jL b hy,show i+(k+1)=(i+k)+1 by omega,Nat.pow_succ];have e3:b^(i+k)=b^i*b^k:=Nat.pow_add b i k
 grind
theorem N0{b : Nat}{y out out0 : List Nat}{i x c : Nat}(hv : out[i + y.length]? = some 0)(h : ofL b out + b ^ (i + y.length) * c = ofL b out0 + b ^ i * (x * ofL b (y.take y.length))):
   ofL b (out.set (i+y.length) c)=ofL b out0+b^i*(x*ofL b y):=by
 have h1:=Ij b out (i+y.length) 0 c hv;rw[List.take_length]at h;rw[←h];omega
theorem KM{b r a : Nat}(hb : 2 ≤ b){l : List Nat}{i x : Nat}{qs : List Nat}(hx : l[i]? = some x)(hxb : x < b)(hr : r < a)(hq : i < qs.length)(h : ofL b (l.drop (i + 1)) = ofL b (qs.drop (i + 1)) * a + r):
   ofL b (l.drop i)=ofL b ((qs.set i ((x+b*r)/a)).drop i)*a+(x+b*r)%a∧(x+b*r)/a<b∧(x+b*r)%a<a:=by
 have ha:0<a:=by omega
 have hs:(qs.set i ((x+b*r)/a))[i]?=some ((x+b*r)/a):=by simp[hq]
 refine⟨?_,?_,Nat.mod_lt _ ha⟩
 · rw[vG b hx,vG b hs,h,List.drop_set_of_lt (by omega)]
   have e:=Nat.mod_add_div (x+b*r) a
   grind
 · rw[Nat.div_lt_iff_lt_mul ha]
   have:b*(r+1)≤b*a:=Nat.mul_le_mul_left _ hr;rw[Nat.mul_add]at this;omega
theorem Vu{q r a n:Nat}(hr:r<a)(h:n=q*a+r):q=n/a∧r=n%a:=by
 subst h;have ha:0<a:=by omega
 constructor
 · rw[Nat.add_comm,Nat.add_mul_div_right _ _ ha,Nat.div_eq_of_lt hr,Nat.zero_add]
 · rw[Nat.add_comm,Nat.add_mul_mod_self_right,Nat.mod_eq_of_lt hr]
end Go.Nu
end

section
set_option linter.unusedSimpArgs false
set_option linter.unusedVariables false
namespace Go.Nu
open Go Go.Lib
theorem RW(l:List UInt8):∀a:Nat,l.foldl (fun a c=>10*a+(c.toNat-48)) a=a*10^l.length+gA l:=by
 induction l with
 | nil=>intro a;simp[gA]
 | cons c l ih=>
   intro a;have h1:=ih (10*a+(c.toNat-48));have h2:=ih (10*0+(c.toNat-48));simp only[List.foldl_cons,gA]at h1 h2 ⊢;rw[h1,h2,List.length_cons,Nat.pow_succ]
   grind
theorem rJ(a b:List UInt8):gA (a++b)=gA a*10^b.length+gA b:=by
 rw[gA,List.foldl_append];exact RW b _
theorem Cu{l:List UInt8}(h:l.all isD=true):gA l<10^l.length:=by
 induction l using Cm with
 | h0=>simp[gA]
 | h1 l c ih=>
   rw[List.all_append]at h;simp only[Bool.and_eq_true,List.all_cons,List.all_nil,Bool.and_true]at h;have:=ih h.1;have hc:=kT.1 h.2;rw[lF,List.length_append,List.length_cons,List.length_nil,Nat.pow_succ];omega
def KB:Nat→Nat→List UInt8
 | 0,_=>[]
 | k+1,x=>KB k (x/10)++[UInt8.ofNat (48+x%10)]
theorem FJ:∀(k x m:Nat),x<10^k→m≠0→decDigits (x+10^k*m)=decDigits m++KB k x
 | 0,x,m,hx,hm=>by
   have:x=0:=by simpa using hx
   subst this;simp[KB]
 | k+1,x,m,hx,hm=>by
   rw[Nat.pow_succ]at hx;have h1:10^(k+1)*m=10*(10^k*m):=by rw[Nat.pow_succ,Nat.mul_comm (10^k) 10,Nat.mul_assoc]
   have hp:0<10^k*m:=Nat.mul_pos (Nat.pow_pos (by omega)) (by omega);rw[h1,decDigits,dif_neg (by omega),show(x+10*(10^k*m))/10=x/10+10^k*m by omega,show(x+10*(10^k*m))%10=x%10 by omega,FJ k (x/10) m (by omega) hm,KB,List.append_assoc]
theorem Qk(k:Nat):KB k 0=List.replicate k 48:=by
 induction k with
 | zero=>rfl
 | succ k ih=>
   rw[KB,Nat.zero_div,ih,List.replicate_succ'];rfl
theorem OQ:∀(k x:Nat),1≤k→x<10^k→KB k x=List.replicate (k-(decDigits x).length) 48++decDigits x
 | 0,x,hk,hx=>by omega
 | k+1,x,hk,hx=>by
   rw[KB];by_cases h9:x<10
   · rw[show x/10=0 by omega,Qk,decDigits_one h9]
     simp[Nat.mod_eq_of_lt h9]
   · have hk1 : 1 ≤ k := by
       rcases Nat.eq_zero_or_pos k with h|h
       · subst h;simp at hx;omega
       · exact h
     rw[Nat.pow_succ]at hx;rw[OQ k (x/10) hk1 (by omega)]
     conv=>rhs;rw[decDigits,dif_neg h9]
     rw[List.length_append,List.length_cons,List.length_nil,List.append_assoc,show k+1-((decDigits (x/10)).length+(0+1))=k-(decDigits (x/10)).length by omega]
def Z4(x:Nat):List UInt8:=List.replicate (9-(decDigits x).length) 48++decDigits x
theorem Tq{x m:Nat}(hx:x<1000000000)(hm:m≠0):decDigits (x+1000000000*m)=decDigits m++Z4 x:=by
 have:=FJ 9 x m hx hm;rw[OQ 9 x (by omega) hx]at this;exact this
theorem T0{b:Nat}(hb:2≤b){n k:Nat}(hk:k<(aM b n).length):ofL b ((aM b n).drop k)≠0:=by
 intro h;have hn:n≠0:=fun e=>by subst e;rw[cY]at hk;simp at hk
 have h1:=L8 hb hn;have h2:ofL b (aM b n)=ofL b ((aM b n).take k)+b^k*ofL b ((aM b n).drop k):=by
   have:=oC b ((aM b n).take k) ((aM b n).drop k);rw[List.take_append_drop,List.length_take,Nat.min_eq_left (by omega)]at this;exact this
 rw[cA hb,h,Nat.mul_zero,Nat.add_zero]at h2;have h3:=iT (b:=b) (by omega) ((bW hb n).take k);rw[List.length_take,Nat.min_eq_left (by omega),←h2]at h3;have:b^k≤b^((aM b n).length-1):=Nat.pow_le_pow_right (by omega) (by omega);omega
def dl(l:List UInt8):List Nat:=(l.map fun c=>c.toNat-48).reverse
theorem Dj(l:List UInt8):(dl l).length=l.length:=by simp[dl]
theorem ME(l:List UInt8):ofL 10 (dl l)=gA l:=by
 induction l using Cm with
 | h0=>rfl
 | h1 l c ih=>
   rw[lF,←ih];simp only[dl,List.map_append,List.map_cons,List.map_nil,List.reverse_append,List.reverse_cons,List.reverse_nil,List.nil_append,List.singleton_append,ofL];omega
theorem MT{l:List UInt8}(h:l.all isD=true):Lim 10 (dl l):=by
 intro x hx;simp only[dl,List.mem_reverse,List.mem_map]at hx;obtain⟨c,hc,rfl⟩:=hx;have:=kT.1 (List.all_eq_true.1 h c hc);omega
def txt(l:List Nat):List UInt8:=(l.map fun x=>UInt8.ofNat (48+x)).reverse
theorem Xo{l:List Nat}(h:Lim 10 l):(txt l).all isD=true:=by
 rw[List.all_eq_true];intro c hc;simp only[txt,List.mem_reverse,List.mem_map]at hc;obtain⟨x,hx,rfl⟩:=hc;have:=h x hx;rw[kT,lK this];omega
theorem ZD{l:List Nat}(h:Lim 10 l):dl (txt l)=l:=by
 simp only[dl,txt,List.map_reverse,List.reverse_reverse,List.map_map]
 conv=>rhs;rw[←List.map_id l]
 refine List.map_congr_left fun x hx=>?_
 simp only[Function.comp,lK (h x hx),id];omega
theorem Um{l:List Nat}(h:Lim 10 l):gA (txt l)=ofL 10 l:=by rw[←ME,ZD h]
theorem AT{n:Nat}(hn:n≠0):txt (aM 10 n)=decDigits n:=by
 induction n using Nat.strongRecOn with
 | _ n ih=>
   rw[lG (by omega) hn,decDigits];simp only[txt,List.map_cons,List.reverse_cons];split
   · rename_i h
     rw[show n/10=0 by omega,cY,Nat.mod_eq_of_lt h];rfl
   · rename_i h
     rw[←ih (n/10) (by omega) (by omega)];rfl
end Go.Nu
end
