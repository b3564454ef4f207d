/- Texts joined by a program: AwLib, NuA, NuB, NuC, NuG, NuD, NuF. -/
import Derived.Lib.ItoaMem
import Derived.Test.YtdlijlecpopadaaGreatDoorZv09
set_option linter.unusedSimpArgs false
set_option linter.unusedVariables false
set_option maxRecDepth 100000
section
namespace Go.Aw
open Go.RowKit
section
variable{P:Program}{S:Sg}{w:World}{H:aF}{f:FuncId}{args args':List AV}{K:AV→aF→Prop}
theorem St.frz(hS:St S w H)(l:List Nat):St (S.froze fun k=>if k∈l then H k else none) w (fun k=>if k∈l then none else H k)∧Grow S w (S.froze fun k=>if k∈l then H k else none) w∧St S w fun k=>if k∈l then H k else none:=by
 let Hf:aF:=fun k=>if k∈l then H k else none
 let Hr:aF:=fun k=>if k∈l then none else H k
 have hf:∀k r',Hf k=some r'→k∈l∧H k=some r':=fun k r' hk=>by
   by_cases e:k∈l
   · exact⟨e,by simpa[Hf,e]using hk⟩
   · simp[Hf,e]at hk
 have hrr:∀k r',Hr k=some r'→¬k∈l∧H k=some r':=fun k r' hk=>by
   by_cases e:k∈l
   · simp[Hr,e]at hk
   · exact⟨e,by simpa[Hr,e]using hk⟩
 refine⟨⟨?_,?_,fun k r' hk=>(hS.rows k r' (hrr k r' hk).2).keep (S.le_froze Hf) (eT.refl S w) (fun _ _=>rfl),?_,fun k k' r1 r2 hk hk' hne g hg hg'=>hS.disj k k' r1 r2 (hrr k r1 hk).2 (hrr k' r2 hk').2 hne g hg hg',hS.tabs.keep (S.le_froze Hf) (eT.refl S w)⟩,⟨S.le_froze Hf,fun k hk=>.inl hk,rfl,rfl,rfl,Nat.le_refl _,fun _ _=>rfl,?_⟩,hS.drop fun k r' hk=>(hf k r' hk).2⟩
 · rintro g (hg|hg)
   · exact .inl (hS.ro_fz g hg)
   · exact .inr hg
 · rintro g (hg|⟨k,r',hk,hg⟩)
   · exact hS.fz_lt g hg
   · exact(hS.rows k r' (hf k r' hk).2).block_lt hg
 · rintro k r' hk g hg (h1|⟨i,r2,hi,h2⟩)
   · exact hS.free k r' (hrr k r' hk).2 g hg h1
   · exact hS.disj k i r' r2 (hrr k r' hk).2 (hf i r2 hi).2 (fun e=>(hrr k r' hk).1 (e▸(hf i r2 hi).1)) g hg h2
 · rintro g (hg|⟨k,r',hk,hg⟩)
   · exact .inl hg
   · exact .inr (hS.free k r' (hf k r' hk).2 g hg)
theorem bN.frz(l:List Nat)(hc:ConvL (fun k=>if k∈l then H k else none) args args')(h:bN P f args' (fun k=>if k∈l then none else H k) K):bN P f args H K:=by
 intro S w vals hS ha;obtain⟨h1,h2,h3⟩:=hS.frz l;refine(h _ w vals h1 (hc.rep h3 ha)).mono fun e w' ⟨v,r,H',S',he,hr,hS',hv,hg,hn⟩=>⟨v,r,H',S',he,hr,hS',hv,h2.trans hg,fun k hk h0=>hn k hk ?_⟩
 by_cases e:k∈l
 · simp[e]
 · simpa[e]using h0
theorem PC.useF{r:AV}(l:List Nat)(hc:ConvL (fun k=>if k∈l then H k else none) args args')(h:PC P f args' r)(hK:K r (fun k=>if k∈l then none else H k)):bN P f args H K:=bN.frz l hc (PC.use h hK)
theorem PC.lib{a:List Value}{r:AV}{v:Value}(hr:∀S w,rep S w r v)(h:∀w,(∀t∈NO,pK w t.1=some t.2)→Calls P f a.toArray w fun e w'=>e=.returned v∧Below w.heap.size w w'):PC P f (a.map .v) r:=by
 intro S w vals hS hf ha;obtain rfl:vals=a:=by
   clear h;induction a generalizing vals with
   | nil=>
     cases vals with
     | nil=>rfl
     | cons x r=>simp[aS]at ha
   | cons x a ih=>
     simp only[List.map_cons,aS]at ha;obtain⟨u,t,rfl,h1,h2⟩:=ha;simp only[rep]at h1;subst h1;rw[ih t h2]
 refine(h w fun t ht=>(hS.tabs t ht).2).mono fun e w' ⟨he,hb⟩=>?_
 exact⟨v,r,bT,S,he,rfl,hS.after hb.size fun k hk=>hb.block k hk,hr S w',hS.grow hb.os hb.tape hb.output hb.size fun k hk=>hb.block k hk,eC.refl _ _⟩
end
end Go.Aw
end
section
namespace Go.Nu
open Go Go.Lib
def ofL(b:Nat):List Nat→Nat
 | []=>0
 | x::r=>x+b*ofL b r
def Lim(b:Nat)(l:List Nat):Prop:=∀x∈l,x<b
def aV(b:Nat)(n:Nat):List Nat:=if h:n=0∨b<2 then[]else n%b::aV b (n/b)
termination_by n
decreasing_by exact Nat.div_lt_self (by omega) (by omega)
def kQ:List Nat→List Nat
 | []=>[]
 | x::r=>match kQ r with
   | []=>if x=0 then[]else[x]
   | y::t=>x::y::t
theorem mY(b:Nat):∀l r:List Nat,ofL b (l++r)=ofL b l+b^l.length*ofL b r
 | [],r=>by simp[ofL]
 | x::l,r=>by
   simp only[List.cons_append,ofL,mY b l r,List.length_cons,Nat.pow_succ,Nat.mul_add,Nat.add_assoc];rw[Nat.mul_comm (b^l.length) b,Nat.mul_assoc]
theorem rA(b:Nat)(l:List Nat)(x:Nat):ofL b (l++[x])=ofL b l+b^l.length*x:=by rw[mY];simp[ofL]
theorem mI{b:Nat}(hb:0<b):∀{l:List Nat},Lim b l→ofL b l<b^l.length
 | [],_=>by simp[ofL]
 | x::l,h=>by
   have h1:=h x (by simp);have h2:=mI hb (l:=l) fun y hy=>h y (by simp[hy])
   simp only[ofL,List.length_cons,Nat.pow_succ];have:b*(ofL b l+1)≤b*b^l.length:=Nat.mul_le_mul_left _ h2;rw[Nat.mul_add]at this;rw[Nat.mul_comm (b^l.length) b];omega
theorem jQ(b:Nat){l:List Nat}{k x:Nat}(h:l[k]?=some x):ofL b (l.take (k+1))=ofL b (l.take k)+b^k*x:=by
 rw[List.take_add_one,h];simp only[Option.toList];rw[rA,List.length_take,Nat.min_eq_left (Nat.le_of_lt (List.getElem?_eq_some_iff.1 h).1)]
theorem Ga(b:Nat):∀(l:List Nat) (k x v:Nat),l[k]?=some x→ofL b (l.set k v)+b^k*x=ofL b l+b^k*v
 | [],k,x,v,h=>by simp at h
 | y::l,0,x,v,h=>by
   simp only[List.getElem?_cons_zero,Option.some.injEq]at h;subst h;simp only[List.set_cons_zero,ofL,Nat.pow_zero,Nat.one_mul];omega
 | y::l,k+1,x,v,h=>by
   have:=Ga b l k x v (by simpa using h);have h2:b*(ofL b (l.set k v)+b^k*x)=b*(ofL b l+b^k*v):=by rw[this]
   simp only[List.set_cons_succ,ofL,Nat.pow_succ];rw[Nat.mul_add,Nat.mul_add,←Nat.mul_assoc,←Nat.mul_assoc]at h2;rw[Nat.mul_comm (b^k) b];omega
theorem Ol(b n:Nat):ofL b (List.replicate n 0)=0:=by
 induction n with
 | zero=>rfl
 | succ n ih=>simp[List.replicate_succ,ofL,ih]
theorem dQ(b:Nat):aV b 0=[]:=by rw[aV];simp
theorem oT{b n:Nat}(hb:2≤b)(hn:n≠0):aV b n=n%b::aV b (n/b):=by
 rw[aV,dif_neg (by omega)]
theorem dH{b:Nat}(hb:2≤b)(n:Nat):Lim b (aV b n):=by
 induction n using Nat.strongRecOn with
 | _ n ih=>
   by_cases hn:n=0
   · subst hn;rw[dQ];intro x hx;cases hx
   · rw[oT hb hn]
     intro x hx;rcases List.mem_cons.1 hx with rfl|hx
     · exact Nat.mod_lt _ (by omega)
     · exact ih (n/b) (Nat.div_lt_self (by omega) (by omega)) x hx
theorem dM{b:Nat}(hb:2≤b)(n:Nat):ofL b (aV b n)=n:=by
 induction n using Nat.strongRecOn with
 | _ n ih=>
   by_cases hn:n=0
   · subst hn;rw[dQ];rfl
   · rw[oT hb hn,ofL,ih (n/b) (Nat.div_lt_self (by omega) (by omega))]
     exact Nat.mod_add_div n b
theorem oW{b n:Nat}(hb:2≤b):aV b n=[]↔n=0:=by
 constructor
 · intro h
   have:=dM hb n;rw[h]at this;exact this.symm
 · rintro rfl;exact dQ b
theorem BO{b x m:Nat}(hb:2≤b)(hx:x<b)(h:x+b*m≠0):aV b (x+b*m)=x::aV b m:=by
 rw[oT hb h,Nat.add_mul_mod_self_left,Nat.mod_eq_of_lt hx,Nat.add_mul_div_left _ _ (by omega),Nat.div_eq_of_lt hx,Nat.zero_add]
theorem Ck{b:Nat}(hb:2≤b):∀{l:List Nat},Lim b l→kQ l=aV b (ofL b l)
 | [],_=>by rw[ofL,dQ];rfl
 | x::l,h=>by
   have ih:=Ck hb (l:=l) fun y hy=>h y (by simp[hy])
   have hx:=h x (by simp);rw[kQ,ih];by_cases h0:ofL b l=0
   · simp only[ofL,h0,dQ]
     by_cases hx0:x=0
     · subst hx0;simp[dQ]
     · rw[if_neg hx0,BO hb hx (by omega),dQ]
   · have hne:aV b (ofL b l)≠[]:=fun e=>h0 ((oW hb).1 e)
     rw[ofL,BO hb hx (by have:0<b*ofL b l:=Nat.mul_pos (by omega) (by omega);omega)];split
     · rename_i e;exact absurd e hne
     · rename_i e;rw[e]
theorem GC{b:Nat}(hb:2≤b){l:List Nat}{n:Nat}(h:Lim b l)(hn:ofL b l=n):kQ l=aV b n:=by rw[Ck hb h,hn]
theorem kN{b:Nat}(hb:2≤b){n k:Nat}(h:n<b^k):(aV b n).length≤k:=by
 induction k generalizing n with
 | zero => have : n = 0 := by simpa using h
           subst this;rw[dQ];exact Nat.le_refl _
 | succ k ih=>
   by_cases hn:n=0
   · subst hn;rw[dQ];exact Nat.zero_le _
   · rw[oT hb hn,List.length_cons]
     refine Nat.succ_le_succ (ih ?_);rw[Nat.div_lt_iff_lt_mul (by omega)]
     rwa [Nat.pow_succ]at h
theorem GP{b:Nat}(hb:2≤b){n k:Nat}(h:b^k≤n):k<(aV b n).length:=by
 have h1:=mI (b:=b) (by omega) (dH hb n);rw[dM hb]at h1;exact(Nat.pow_lt_pow_iff_right (by omega)).1 (Nat.lt_of_le_of_lt h h1)
theorem eA{b:Nat}(hb:2≤b){m n:Nat}(h:m≤n):(aV b m).length≤(aV b n).length:=by
 refine kN hb ?_;have h1:=mI (b:=b) (by omega) (dH hb n);rw[dM hb]at h1;omega
theorem Kg{b:Nat}(hb:2≤b){n:Nat}(hn:n≠0):b^((aV b n).length-1)≤n:=by
 induction n using Nat.strongRecOn with
 | _ n ih=>
   rw[oT hb hn,List.length_cons,Nat.add_sub_cancel];by_cases h0:n/b=0
   · rw[h0,dQ];simp;omega
   · have:=ih (n/b) (Nat.div_lt_self (by omega) (by omega)) h0
     have hl:(aV b (n/b)).length=((aV b (n/b)).length-1)+1:=by
       have:aV b (n/b)≠[]:=fun e=>h0 ((oW hb).1 e)
       have:=List.length_pos_iff.2 this;omega
     rw[hl,Nat.pow_succ];exact Nat.le_trans (Nat.mul_le_mul_right b this) (Nat.div_mul_le_self n b)
theorem Ec{b:Nat}(hb:0<b){l r:List Nat}(hl:Lim b l)(hr:Lim b r)(hlen:l.length=r.length){k x y:Nat}(hx:l[k]?=some x)(hy:r[k]?=some y)(hxy:x<y)(hd:l.drop (k+1)=r.drop (k+1)):ofL b l<ofL b r:=by
 have hk:k<l.length:=(List.getElem?_eq_some_iff.1 hx).1;have e1:l=l.take (k+1)++l.drop (k+1):=(List.take_append_drop _ _).symm;have e2:r=r.take (k+1)++r.drop (k+1):=(List.take_append_drop _ _).symm;rw[e1,e2,mY,mY,hd,jQ b hx,jQ b hy,List.length_take,List.length_take,Nat.min_eq_left (by omega),Nat.min_eq_left (by omega)];have h1:=mI hb (l:=l.take k) fun z hz=>hl z (List.mem_of_mem_take hz)
 rw[List.length_take,Nat.min_eq_left (by omega)]at h1;have h2:b^k*(x+1)≤b^k*y:=Nat.mul_le_mul_left _ hxy;rw[Nat.mul_add]at h2;omega
theorem EM{b:Nat}(hb:2≤b){m n:Nat}(h:(aV b m).length<(aV b n).length):m<n:=by
 rcases Nat.lt_or_ge m n with h1|h1
 · exact h1
 · have:=eA hb h1;omega
theorem Be{α:Type}{p:List α→Prop}(h0:p [])(h1:∀l c,p l→p (l++[c]))(l:List α):p l:=by
 have:∀r:List α,p r.reverse:=fun r=>by
   induction r with
   | nil=>exact h0
   | cons c r ih=>rw[List.reverse_cons];exact h1 _ _ ih
 rw[←List.reverse_reverse l];exact this _
def isD(c:UInt8):Bool:=decide (48≤c.toNat)&&decide (c.toNat≤57)
def fJ(l:List UInt8):Nat:=l.foldl (fun a c=>10*a+(c.toNat-48)) 0
def dL(l:List UInt8):Bool:=l != []&&(l.length == 1||l.getD 0 0 != 48)&&l.all isD
def dec(n:Nat):ByteArray:=⟨(decDigits n).toArray⟩
theorem kH(l:List UInt8)(c:UInt8):fJ (l++[c])=10*fJ l+(c.toNat-48):=by simp[fJ]
theorem Al{α:Type}{l r:List α}{k:Nat}{d:α}(h:k<l.length):(l++r).getD k d=l.getD k d:=by
 simp only[List.getD,List.getElem?_append_left h]
theorem kI{d:Nat}(h:d<10):(UInt8.ofNat (48+d)).toNat=48+d:=by
 rw[UInt8.toNat_ofNat'];omega
theorem mA(n:Nat):fJ (decDigits n)=n:=by
 induction n using Nat.strongRecOn with
 | _ n ih=>
   rw[decDigits];split
   · rename_i h
     simp only[fJ,List.foldl_cons,List.foldl_nil,kI h];omega
   · rename_i h
     rw[kH,ih (n/10) (by omega),kI (by omega)];omega
theorem qC(n:Nat):(decDigits n).all isD=true:=by
 induction n using Nat.strongRecOn with
 | _ n ih=>
   rw[decDigits];split
   · rename_i h
     simp only[List.all_cons,List.all_nil,Bool.and_true,isD,kI h,Bool.and_eq_true,decide_eq_true_eq];omega
   · rename_i h
     rw[List.all_append,ih (n/10) (by omega)];simp only[List.all_cons,List.all_nil,Bool.and_true,Bool.true_and,isD,kI (show n%10<10 by omega),Bool.and_eq_true,decide_eq_true_eq];omega
theorem Ll(n:Nat):decDigits n≠[]:=by
 rw[decDigits];split <;> simp
theorem fW(n:Nat):0<(decDigits n).length:=List.length_pos_iff.2 (Ll n)
theorem ST{n:Nat}(h:n≠0):(decDigits n).getD 0 0≠48:=by
 induction n using Nat.strongRecOn with
 | _ n ih=>
   rw[decDigits];split
   · rename_i h1
     simp only[List.getD_cons_zero];intro e;have:=kI h1;rw[e]at this;simp at this;omega
   · rename_i h1
     have h2:=ih (n/10) (by omega) (by omega);have h3:=fW (n/10);rw[Al h3];exact h2
theorem uL{n:Nat}:(decDigits n).length=1↔n<10:=by
 rw[decDigits];split
 · simp_all
 · rename_i h
   have:=fW (n/10);simp only[List.length_append,List.length_cons,List.length_nil];omega
theorem Pm(n:Nat):dL (decDigits n)=true:=by
 unfold dL;simp only[Bool.and_eq_true,bne_iff_ne,ne_eq,Bool.or_eq_true,beq_iff_eq];refine⟨⟨Ll n,?_⟩,qC n⟩;by_cases h:n=0
 · left;rw[uL];omega
 · right;exact ST h
theorem jT{c:UInt8}:isD c=true↔48≤c.toNat∧c.toNat≤57:=by simp[isD]
theorem P3{c:UInt8}(h:isD c=true):UInt8.ofNat (48+(c.toNat-48))=c:=by
 rw[jT]at h;rw[show 48+(c.toNat-48)=c.toNat by omega];exact UInt8.ofNat_toNat
theorem PI:∀{l:List UInt8},l.all isD=true→l≠[]→l.getD 0 0≠48→10^(l.length-1)≤fJ l:=by
 intro l;induction l using Be with
 | h0=>intro _ h;exact absurd rfl h
 | h1 l c ih=>
   intro ha _ h0;rw[List.all_append]at ha;simp only[Bool.and_eq_true,List.all_cons,List.all_nil,Bool.and_true]at ha;rw[kH];by_cases hl:l=[]
   · subst hl
     simp only[List.nil_append,List.getD_cons_zero]at h0;simp only[List.nil_append,List.length_cons,List.length_nil,Nat.zero_add,Nat.sub_self,Nat.pow_zero];have:=jT.1 ha.2;have h1:c.toNat≠48:=fun e=>h0 (UInt8.toNat.inj e)
     omega
   · have hp:=List.length_pos_iff.2 hl
     rw[Al hp]at h0;have:=ih ha.1 hl h0;simp only[List.length_append,List.length_cons,List.length_nil,Nat.zero_add,Nat.add_sub_cancel];rw[show l.length=(l.length-1)+1 by omega,Nat.pow_succ];omega
theorem GI:∀{l:List UInt8},dL l=true→decDigits (fJ l)=l:=by
 intro l;induction l using Be with
 | h0=>intro h;simp[dL]at h
 | h1 l c ih=>
   intro h;unfold dL at h;simp only[Bool.and_eq_true,bne_iff_ne,ne_eq,Bool.or_eq_true,beq_iff_eq,List.all_append,List.all_cons,List.all_nil,Bool.and_true]at h;obtain⟨⟨_,h1⟩,h2,h3⟩:=h;have hc:=jT.1 h3;by_cases hl:l=[]
   · subst hl
     rw[List.nil_append];rw[show fJ [c]=c.toNat-48 by simp[fJ],decDigits_one (by omega),P3 h3]
   · have hp:=List.length_pos_iff.2 hl
     have h0:l.getD 0 0≠48:=by
       rcases h1 with h1|h1
       · simp only[List.length_append,List.length_cons,List.length_nil]at h1;omega
       · rwa [Al hp]at h1
     have hv:=PI h2 hl h0;have hv1:1≤fJ l:=Nat.le_trans (Nat.one_le_pow _ _ (by omega)) hv;rw[kH,decDigits,dif_neg (by omega)];rw[show(10*fJ l+(c.toNat-48))/10=fJ l by omega,show(10*fJ l+(c.toNat-48))%10=c.toNat-48 by omega,P3 h3,ih];unfold dL;simp only[Bool.and_eq_true,bne_iff_ne,ne_eq,Bool.or_eq_true,beq_iff_eq];exact⟨⟨hl,.inr h0⟩,h2⟩
theorem eW{n k:Nat}(hk:1≤k):(decDigits n).length≤k↔n<10^k:=by
 rw[decDigits_length];constructor
 · intro h
   exact Nat.lt_of_lt_of_le (lt_pow_nDigits n) (Nat.pow_le_pow_right (by omega) h)
 · intro h
   by_cases h0:n<10
   · rw[nDigits_small h0];exact hk
   · induction k generalizing n with
     | zero=>omega
     | succ k ih=>
       by_cases hk0:k=0
       · subst hk0;simp at h;omega
       · rw[nDigits_big h0]
         rw[Nat.pow_succ]at h;have:=Nat.succ_le_succ (show nDigits (n/10)≤k from by
           by_cases h9:n/10<10
           · rw[nDigits_small h9];omega
           · exact ih (by omega) (by omega) h9)
         exact this
def bl(s:ByteArray):List UInt8:=s.data.toList
theorem jG{a b:ByteArray}(h:bl a=bl b):a=b:=by
 cases a;cases b;simp only[bl]at h;rw[Array.toList_inj.1 h]
theorem bV(s:ByteArray):(bl s).length=s.size:=by unfold bl;rw[Array.length_toList];rfl
def eqB(a b:ByteArray):Bool:=bl a == bl b
theorem lC{a b:ByteArray}:eqB a b=true↔a=b:=by
 unfold eqB;rw[beq_iff_eq];exact⟨jG,fun h=>by rw[h]⟩
theorem mT{a b:ByteArray}:eqB a b=false↔a≠b:=by rw[←Bool.not_eq_true,lC]
theorem gM(l:List UInt8):bl ⟨l.toArray⟩=l:=by simp[bl]
theorem kF(a b:ByteArray):bl (a++b)=bl a++bl b:=by unfold bl;rw[ByteArray.data_append,Array.toList_append]
theorem Zc(s:ByteArray):(⟨(bl s).toArray⟩:ByteArray)=s:=jG (gM _)
def emp:ByteArray:=ByteArray.empty
theorem W7:bl emp=[]:=rfl
theorem eJ(s:ByteArray)(a b:Nat):bl (s.extract a b)=((bl s).take b).drop a:=by
 simp[bl,ByteArray.data_extract,Array.toList_extract,List.extract_eq_take_drop,List.drop_take]
def PF:Nat:=4096
def cC:Nat:=10^PF
theorem uB{n k:Nat}(h:n<10^k)(hk:k≤4096):n<cC:=Nat.lt_of_lt_of_le h (Nat.pow_le_pow_right (show 0<10 by omega) (show k≤PF from hk))
theorem Un:0<cC:=Nat.pow_pos (show 0<10 by omega)
def cR(s:ByteArray):Bool:=dL (bl s)
def dJ(s:ByteArray):Nat:=fJ (bl s)
theorem fS(n:Nat):bl (dec n)=decDigits n:=gM _
theorem jD(n:Nat):cR (dec n)=true:=by unfold cR;rw[fS];exact Pm n
theorem bP(n:Nat):dJ (dec n)=n:=by unfold dJ;rw[fS];exact mA n
theorem gV{s:ByteArray}(h:cR s=true):dec (dJ s)=s:=jG (by rw[fS];exact GI h)
theorem eY(n:Nat):(dec n).size=(decDigits n).length:=by rw[←bV,fS]
theorem fX(n:Nat):(dec n).size≤4096↔n<cC:=by rw[eY];exact eW (k:=PF) (by decide)
theorem sJ{s:ByteArray}(h:cR s=true):s.size≤4096↔dJ s<cC:=by
 have:=fX (dJ s)
 rwa [gV h]at this
theorem oB{m n:Nat}:dec m=dec n↔m=n:=⟨fun h=>by rw[←bP m,h,bP],fun h=>by rw[h]⟩
def szN(n:Nat):ByteArray×Int:=if n<cC then(dec n,0)else(emp,4)
def gX(a b:ByteArray):Int:=if(!cR a|| !cR b)=true then 3 else if(decide (a.size>4096)||decide (b.size>4096))=true then 4 else 0
def Lf(a b:ByteArray):ByteArray×Int:=if gX a b=0 then szN (dJ a+dJ b)else(emp,gX a b)
def Kv(a b:ByteArray):ByteArray×Int:=if gX a b=0 then(if dJ a<dJ b then(emp,2)else szN (dJ a-dJ b))else(emp,gX a b)
def KT(a b:ByteArray):ByteArray×Int:=if gX a b=0 then szN (dJ a*dJ b)else(emp,gX a b)
def yX(a b:ByteArray):ByteArray×ByteArray×Int:=if gX a b=0 then(if dJ b=0 then(emp,emp,10)else(dec (dJ a/dJ b),dec (dJ a%dJ b),0))else(emp,emp,gX a b)
def wA(a b:ByteArray):ByteArray×Int:=if gX a b=0 then szN (Nat.gcd (dJ a) (dJ b))else(emp,gX a b)
theorem Bj{a b:ByteArray}(ha:cR a=true)(hb:cR b=true)(sa:a.size≤4096)(sb:b.size≤4096):gX a b=0:=by
 unfold gX;rw[ha,hb];simp;omega
theorem uV{m n:Nat}(hm:m<cC)(hn:n<cC):gX (dec m) (dec n)=0:=Bj (jD m) (jD n) ((fX m).2 hm) ((fX n).2 hn)
theorem nB{a b:ByteArray}(h:gX a b=0):∃m n,a=dec m∧b=dec n∧m<cC∧n<cC:=by
 unfold gX at h;split at h
 · cases h
 · rename_i h1
   split at h
   · cases h
   · rename_i h2
     simp only[Bool.or_eq_true,Bool.not_eq_true',not_or,Bool.not_eq_false,decide_eq_true_eq,Nat.not_lt]at h1 h2;exact⟨dJ a,dJ b,(gV h1.1).symm,(gV h1.2).symm,(sJ h1.1).1 h2.1,(sJ h1.2).1 h2.2⟩
theorem vH{n:Nat}(h:n<cC):szN n=(dec n,0):=if_pos h
def dZ(s:ByteArray):Bool:=(bl s).head? == some 45
def cY(s:ByteArray):ByteArray:=if dZ s=true then⟨((bl s).drop 1).toArray⟩else s
def eU(s:ByteArray):Bool:=cR (cY s)&& !(dZ s&&eqB (cY s) (dec 0))
def iU(s:ByteArray):Int:=if dZ s=true then -(dJ (cY s):Int)else dJ (cY s)
def zed(n:Int):ByteArray:=⟨(itoa n).toArray⟩
theorem fM(n:Nat):zed n=dec n:=by unfold zed;rw[itoa_nonneg];rfl
theorem yQ{n:Nat}(h:1≤n):zed (-(n:Int))=⟨((45:UInt8)::decDigits n).toArray⟩:=by unfold zed;rw[itoa_neg n h]
theorem yL(n:Nat):dZ (dec n)=false:=by
 unfold dZ;rw[fS];have h1:=qC n;have h2:=Ll n;cases h:decDigits n with
 | nil=>exact absurd h h2
 | cons c r=>
   rw[h]at h1;simp only[List.all_cons,Bool.and_eq_true]at h1;have:=jT.1 h1.1;simp only[List.head?_cons,beq_eq_false_iff_ne,ne_eq,Option.some.injEq];intro e;rw[e]at this;simp at this
theorem I6(n:Nat):cY (dec n)=dec n:=by unfold cY;rw[yL];rfl
theorem Cv(l:List UInt8):dZ ⟨((45:UInt8)::l).toArray⟩=true:=by unfold dZ;rw[gM];rfl
theorem OI(l:List UInt8):cY ⟨((45:UInt8)::l).toArray⟩=⟨l.toArray⟩:=by unfold cY;rw[Cv,if_pos rfl,gM];rfl
theorem tA(n:Int):dZ (zed n)=decide (n<0):=by
 rcases Int.lt_or_le n 0 with h|h
 · obtain⟨m,rfl⟩:∃m:Nat,n= -(m:Int):=⟨n.natAbs,by omega⟩
   rw[yQ (by omega),Cv];simp;omega
 · obtain⟨m,rfl⟩:∃m:Nat,n=m:=⟨n.toNat,by omega⟩
   rw[fM,yL];simp
theorem gU(n:Int):cY (zed n)=dec n.natAbs:=by
 rcases Int.lt_or_le n 0 with h|h
 · obtain⟨m,rfl⟩:∃m:Nat,n= -(m:Int):=⟨n.natAbs,by omega⟩
   rw[yQ (by omega),OI,Int.natAbs_neg,Int.natAbs_natCast];rfl
 · obtain⟨m,rfl⟩:∃m:Nat,n=m:=⟨n.toNat,by omega⟩
   rw[fM,I6,Int.natAbs_natCast]
theorem pO(n:Int):eU (zed n)=true:=by
 unfold eU;rw[gU,tA,jD];simp only[Bool.true_and,Bool.not_eq_true',Bool.and_eq_false_iff,decide_eq_false_iff_not];by_cases h:n<0
 · right
   refine mT.2 fun e=>?_
   rw[oB]at e;omega
 · left;exact h
theorem cU(n:Int):iU (zed n)=n:=by
 unfold iU;rw[gU,tA,bP];split
 · rename_i h;simp only[decide_eq_true_eq]at h;omega
 · rename_i h;simp only[decide_eq_true_eq]at h;omega
theorem yZ{s:ByteArray}(h:eU s=true):zed (iU s)=s:=by
 unfold eU at h;simp only[Bool.and_eq_true,Bool.not_eq_true',Bool.and_eq_false_iff]at h;obtain⟨h1,h2⟩:=h;have hd:=gV h1;unfold iU;by_cases hm:dZ s=true
 · have h3 : cY s ≠ dec 0 := by
     rcases h2 with h2|h2
     · rw[hm]at h2;cases h2
     · exact mT.1 h2
   rw[if_pos hm];have hv:1≤dJ (cY s):=by
     rcases Nat.eq_zero_or_pos (dJ (cY s))with h4|h4
     · exact absurd (by rw[←hd,h4]) h3
     · exact h4
   rw[yQ hv];refine jG ?_;rw[gM,←fS,hd];unfold cY;rw[if_pos hm,gM];unfold dZ at hm;cases hb:bl s with
   | nil=>rw[hb]at hm;cases hm
   | cons c r=>
     rw[hb]at hm;simp only[List.head?_cons,beq_iff_eq,Option.some.injEq]at hm;subst hm;rfl
 · rw[if_neg hm,fM,hd]
   unfold cY;rw[if_neg hm]
theorem Td{m n:Int}:zed m=zed n↔m=n:=⟨fun h=>by rw[←cU m,h,cU],fun h=>by rw[h]⟩
def szZ(n:Int):ByteArray×Int:=if n.natAbs<cC then(zed n,0)else(emp,4)
def jY(a b:ByteArray):Int:=if(!eU a|| !eU b)=true then 3 else if(decide ((cY a).size>4096)||decide ((cY b).size>4096))=true then 4 else 0
def O3(a b:ByteArray):ByteArray×Int:=if jY a b=0 then szZ (iU a+iU b)else(emp,jY a b)
def Oe(a b:ByteArray):ByteArray×Int:=if jY a b=0 then szZ (iU a-iU b)else(emp,jY a b)
def uT(a b:ByteArray):ByteArray×Int:=if jY a b=0 then szZ (iU a*iU b)else(emp,jY a b)
def A8(a b:ByteArray):ByteArray×ByteArray×Int:=if jY a b=0 then(if iU b=0 then(emp,emp,10)else(zed ((iU a).fdiv (iU b)),zed ((iU a).fmod (iU b)),0))else(emp,emp,jY a b)
def iC(a b:Int):Int:=if a<b then -1 else if b<a then 1 else 0
def QR(a b:ByteArray):Int:=if eU a=true∧eU b=true then iC (iU a) (iU b)else 0
theorem rQ{m n:Int}(hm:m.natAbs<cC)(hn:n.natAbs<cC):jY (zed m) (zed n)=0:=by
 unfold jY;rw[pO,pO,gU,gU];have:=(fX m.natAbs).2 hm;have:=(fX n.natAbs).2 hn;simp;omega
theorem rT{a b:ByteArray}(h:jY a b=0):∃m n:Int,a=zed m∧b=zed n∧m.natAbs<cC∧n.natAbs<cC:=by
 unfold jY at h;split at h
 · cases h
 · rename_i h1
   split at h
   · cases h
   · rename_i h2
     simp only[Bool.or_eq_true,Bool.not_eq_true',not_or,Bool.not_eq_false,decide_eq_true_eq,Nat.not_lt]at h1 h2;have ea:=yZ h1.1;have eb:=yZ h1.2;refine⟨iU a,iU b,ea.symm,eb.symm,?_,?_⟩
     · have:=h2.1
       rw[←ea,gU]at this;exact(fX _).1 this
     · have:=h2.2
       rw[←eb,gU]at this;exact(fX _).1 this
def cT:UInt8:=47
def iS(s:ByteArray):Bool:=(bl s).any (· == cT)
def fN(s:ByteArray):ByteArray:=⟨((bl s).takeWhile (· != cT)).toArray⟩
def fG(s:ByteArray):ByteArray:=if iS s=true then⟨(((bl s).dropWhile (· != cT)).drop 1).toArray⟩else dec 1
def cE(s:ByteArray):Bool:=(eU (fN s)&&cR (fG s)&&decide ((cY (fN s)).size≤4096)&&decide ((fG s).size≤4096)) &&
 (!iS s||(!eqB (fG s) (dec 0)&& !eqB (fG s) (dec 1)&& !eqB (fN s) (dec 0)&&Nat.gcd (iU (fN s)).natAbs (dJ (fG s)) == 1))
def gR(s:ByteArray):Rat:=mkRat (iU (fN s)) (dJ (fG s))
def slB:ByteArray:=⟨#[47]⟩
def lH(x:Rat):ByteArray:=if x.den=1 then zed x.num else zed x.num++slB++dec x.den
def mX(x:Rat):Prop:=x.num.natAbs<cC∧x.den<cC
theorem tK{α:Type}{p:α→Bool}:∀{l:List α},(∀c∈l,p c=true)→l.takeWhile p=l
 | [],_=>rfl
 | a::l,h=>by rw[List.takeWhile_cons,if_pos (h a (by simp)),tK fun c hc=>h c (by simp[hc])]
theorem Ag{α:Type}{p:α→Bool}:∀{l:List α} {c:α},c∈l.takeWhile p→p c=true
 | [],c,h=>by simp at h
 | a::l,c,h=>by
   rw[List.takeWhile_cons]at h;split at h
   · rename_i ha
     rcases List.mem_cons.1 h with rfl|h
     · exact ha
     · exact Ag h
   · cases h
theorem IC{c:UInt8}(h:isD c=true):(c != cT)=true:=by
 have:=jT.1 h;simp only[bne_iff_ne,ne_eq];intro e;rw[e]at this;simp[cT]at this
theorem Ax(n:Nat):∀c∈decDigits n,(c != cT)=true:=fun c hc=>IC (List.all_eq_true.1 (qC n) c hc)
theorem oO(n:Int):∀c∈itoa n,(c != cT)=true:=by
 intro c hc;unfold itoa at hc;split at hc
 · rcases List.mem_cons.1 hc with rfl|hc
   · decide
   · exact Ax _ c hc
 · exact Ax _ c hc
theorem Gs(n:Int):bl (zed n)=itoa n:=gM _
theorem WW:bl slB=[cT]:=rfl
theorem EY{l r:List UInt8}(h:∀c∈l,(c != cT)=true):(l++cT::r).takeWhile (· != cT)=l:=by
 rw[List.takeWhile_append_of_pos h];simp
theorem DW{l r:List UInt8}(h:∀c∈l,(c != cT)=true):(l++cT::r).dropWhile (· != cT)=cT::r:=by
 rw[List.dropWhile_append_of_pos h];simp
theorem Q4{l:List UInt8}(h:∀c∈l,(c != cT)=true):l.any (· == cT)=false:=by
 rw[List.any_eq_false];intro c hc e;have:=h c hc;simp at this e;exact this e
theorem Bd(x:Rat):bl (lH x)=if x.den=1 then itoa x.num else itoa x.num++cT::decDigits x.den:=by
 unfold lH;split
 · exact Gs _
 · rw[kF,kF,Gs,fS,WW];simp
theorem Cy(x:Rat):iS (lH x)= !(x.den == 1):=by
 unfold iS;rw[Bd];split
 · rename_i h;rw[Q4 (oO _),h];rfl
 · rename_i h
   rw[List.any_append];simp[h]
theorem DG(x:Rat):fN (lH x)=zed x.num:=by
 refine jG ?_;unfold fN;rw[gM,Bd,Gs];split
 · exact tK (oO _)
 · exact EY (oO _)
theorem Ep(x:Rat):fG (lH x)=dec x.den:=by
 unfold fG;rw[Cy,Bd];by_cases h:x.den=1
 · simp[h]
 · simp only[h,beq_eq_false_iff_ne.2 h,Bool.not_false,if_true,if_false]
   rw[DW (oO _)];rfl
theorem gS(x:Rat):gR (lH x)=x:=by
 unfold gR;rw[DG,Ep,cU,bP,Rat.mkRat_self]
theorem pB(n:Int):(cY (zed n)).size≤4096↔n.natAbs<cC:=by rw[gU];exact fX _
theorem lL{x:Rat}(h:mX x):cE (lH x)=true:=by
 unfold cE;rw[DG,Ep,pO,jD,Cy,cU,bP];simp only[Bool.true_and,Bool.and_eq_true,decide_eq_true_eq,Bool.or_eq_true,Bool.not_not,beq_iff_eq,Bool.not_eq_true',mT,ne_eq];refine⟨⟨(pB _).2 h.1,(fX _).2 h.2⟩,?_⟩;by_cases h1:x.den=1
 · exact .inl h1
 · refine .inr ⟨⟨⟨?_,?_⟩,?_⟩,x.reduced⟩
   · rw[oB];exact x.den_nz
   · rw[oB];exact h1
   · rw[←fM,Td]
     intro h0;apply h1;have:=x.reduced;rw[h0]at this;simpa[Nat.Coprime]using this
theorem iK{s:ByteArray}(h:cE s=true):∃x:Rat,s=lH x∧mX x∧fN s=zed x.num∧fG s=dec x.den:=by
 unfold cE at h;simp only[Bool.and_eq_true,decide_eq_true_eq,Bool.or_eq_true,Bool.not_eq_true',mT,ne_eq,beq_iff_eq]at h;obtain⟨⟨⟨⟨h1,h2⟩,h3⟩,h4⟩,h5⟩:=h;have ep:=yZ h1;have eq:=gV h2;have hcop:(iU (fN s)).natAbs.Coprime (dJ (fG s))∧dJ (fG s)≠0:=by
   rcases h5 with h5|⟨⟨⟨h6,_⟩,_⟩,h7⟩
   · have e1:fG s=dec 1:=by unfold fG;rw[if_neg (by rw[h5];simp)]
     rw[e1,bP];exact⟨Nat.coprime_one_right _,by omega⟩
   · exact⟨h7,fun e=>h6 (by rw[←eq,e])⟩
 let x:Rat:=⟨iU (fN s),dJ (fG s),hcop.2,hcop.1⟩
 have e1:fN s=zed x.num:=ep.symm;have e2:fG s=dec x.den:=eq.symm;refine⟨x,jG ?_,⟨?_,?_⟩,e1,e2⟩
 · rw[Bd]
   have hn:bl (fN s)=(bl s).takeWhile (· != cT):=gM _;rw[e1,Gs]at hn;by_cases hs:iS s=true
   · have hd:bl (fG s)=((bl s).dropWhile (· != cT)).drop 1:=by unfold fG;rw[if_pos hs,gM]
     rw[e2,fS]at hd;have hx:x.den≠1:=fun e=>by
       rcases h5 with h5|⟨⟨⟨_,h6⟩,_⟩,_⟩
       · rw[hs]at h5;cases h5
       · exact h6 (by rw[e2,e])
     rw[if_neg hx,hn,hd]
     conv=>lhs;rw[←List.takeWhile_append_dropWhile (p:=(· != cT)) (l:=bl s)]
     congr 1
     cases hw:(bl s).dropWhile (· != cT)with
     | nil=>
       exfalso
       unfold iS at hs;obtain⟨c,hc,hcs⟩:=List.any_eq_true.1 hs;rw[←List.takeWhile_append_dropWhile (p:=(· != cT)) (l:=bl s),hw,List.append_nil]at hc;have:=Ag hc;simp at this hcs;exact this hcs
     | cons c r=>
       have h0:(c != cT)=false:=by
         have:=List.head?_dropWhile_not (p:=(· != cT)) (l:=bl s);rw[hw]at this;simpa using this
       have:c=cT:=by simpa using h0
       rw[this];rfl
   · have hs:iS s=false:=by simpa using hs
     have hx:x.den=1:=by
       have:fG s=dec 1:=by unfold fG;rw[hs];rfl
       rw[e2]at this;exact oB.1 this
     rw[if_pos hx,hn]
     symm
     refine tK ?_;intro c hc;unfold iS at hs;rw[List.any_eq_false]at hs;have:=hs c hc;simp at this ⊢;exact this
 · rw[e1]at h3;exact(pB _).1 h3
 · rw[e2]at h4;exact(fX _).1 h4
theorem Dt{s:ByteArray}(h:cE s=true):lH (gR s)=s:=by
 obtain⟨x,rfl,_⟩:=iK h;rw[gS]
theorem KL{s:ByteArray}(h:cE s=true):mX (gR s):=by
 obtain⟨x,rfl,hs,_⟩:=iK h;rw[gS];exact hs
def oE(n:Int):Bool:= !decide (n.natAbs<cC)
def Au(x y:Rat):ByteArray×Int:=if(oE (x.num*y.den)||oE (y.num*x.den)||oE (x.num*y.den+y.num*x.den)||oE (x.den*y.den))=true then(emp,4)else(lH (x+y),0)
def oF(a b:ByteArray):ByteArray×Int:=if(cE a&&cE b)=true then Au (gR a) (gR b)else(emp,3)
def wB(a b:ByteArray):ByteArray×Int:=if(cE a&&cE b)=true then Au (gR a) (-gR b)else(emp,3)
def OU(x y:Rat):Int:=if x<y then -1 else if y<x then 1 else 0
def sY(a b:ByteArray):Int:=if(cE a&&cE b)=true then OU (gR a) (gR b)else 0
theorem MT{n:Int}{d:Nat}(hd:d≠0):n.fdiv (Nat.gcd n.natAbs d:Nat)=(mkRat n d).num:=by
 rw[Rat.num_mkRat,if_neg hd,Nat.gcd_comm];exact Int.fdiv_eq_ediv_of_nonneg _ (by omega)
theorem M0{n:Int}{d:Nat}(hd:d≠0):(d:Int).fdiv (Nat.gcd n.natAbs d:Nat)=((mkRat n d).den:Int):=by
 rw[Rat.den_mkRat,if_neg hd,Nat.gcd_comm,Int.fdiv_eq_ediv_of_nonneg _ (by omega)];rfl
theorem IN{n:Int}{d:Nat}(hd:d≠0)(hn:n.natAbs<cC)(hd2:d<cC):mX (mkRat n d):=by
 constructor
 · rw[Rat.num_mkRat,if_neg hd]
   have:(n/((d.gcd n.natAbs:Nat):Int)).natAbs≤n.natAbs:=by
     rw[Int.natAbs_ediv_of_dvd]
     · exact Nat.div_le_self _ _
     · exact Int.ofNat_dvd_left.2 (Nat.gcd_dvd_right _ _)
   omega
 · rw[Rat.den_mkRat,if_neg hd]
   exact Nat.lt_of_le_of_lt (Nat.div_le_self _ _) hd2
theorem Mp{n:Int}{d:Nat}(hd:d≠0):0<Nat.gcd n.natAbs d:=Nat.gcd_pos_of_pos_right _ (by omega)
theorem NX{n:Int}{d:Nat}(hd:d≠0)(h:d<cC):Nat.gcd n.natAbs d<cC:=Nat.lt_of_le_of_lt (Nat.gcd_le_right _ (by omega)) h
theorem nU{n:Int}:oE n=false↔n.natAbs<cC:=by simp[oE]
theorem F8(x y:Rat):x+y=mkRat (x.num*y.den+y.num*x.den) (x.den*y.den):=Rat.add_def' x y
theorem GH(x y:Rat):((x.den:Int)*y.den).natAbs=x.den*y.den:=by rw[Int.natAbs_mul,Int.natAbs_natCast,Int.natAbs_natCast]
theorem Lj(x y:Rat):x.den*y.den≠0:=Nat.mul_ne_zero x.den_nz y.den_nz
theorem Md{x y:Rat}(h:(Au x y).2=0):Au x y=(lH (x+y),0)∧mX (x+y):=by
 unfold Au at h ⊢;split at h
 · cases h
 · rename_i hb
   rw[if_neg hb];simp only[Bool.or_eq_true,not_or,Bool.not_eq_true,nU]at hb;exact⟨rfl,by rw[F8];exact IN (Lj x y) hb.1.2 (by rw[←GH];exact hb.2)⟩
theorem Na{x y:Rat}(h1:(x.num*y.den).natAbs<cC)(h2:(y.num*x.den).natAbs<cC)(h3:(x.num*y.den+y.num*x.den).natAbs<cC)(h4:x.den*y.den<cC):Au x y=(lH (x+y),0):=by
 unfold Au;rw[if_neg];simp only[Bool.or_eq_true,not_or,Bool.not_eq_true,nU];exact⟨⟨⟨h1,h2⟩,h3⟩,by rw[GH];exact h4⟩
def Gq(p q r s:Int):Int:=iC (p*s) (r*q)
theorem pQ{p q:Int}(hq:0<q):p=p.fdiv q*q+p.fmod q∧0≤p.fmod q∧p.fmod q<q:=
 ⟨by rw[Int.mul_comm];exact(Int.mul_fdiv_add_fmod p q).symm,Int.fmod_nonneg_of_pos _ hq,Int.fmod_lt_of_pos _ hq⟩
theorem iX{a b:Int}(h:a<b):iC a b= -1:=if_pos h
theorem iZ{a b:Int}(h:b<a):iC a b=1:=by unfold iC;rw[if_neg (by omega),if_pos h]
theorem oL{a b:Int}(h:a=b):iC a b=0:=by unfold iC;rw[if_neg (by omega),if_neg (by omega)]
theorem DK{a b:Int}:iC a b=0↔a=b:=by
 unfold iC;constructor
 · intro h
   split at h
   · cases h
   · split at h
     · cases h
     · omega
 · intro h;rw[if_neg (by omega),if_neg (by omega)]
theorem Pe(a b:Int):iC b a= -iC a b:=by
 rcases Int.lt_trichotomy a b with h|h|h
 · rw[iX h,iZ h];rfl
 · rw[oL h,oL h.symm];rfl
 · rw[iZ h,iX h]
theorem Jh{p q r s:Int}(hq:0<q)(hs:0<s)(h:p.fdiv q<r.fdiv s):p*s<r*q:=by
 obtain⟨e1,a1,b1⟩:=pQ (p:=p) hq;obtain⟨e2,a2,b2⟩:=pQ (p:=r) hs;have h1:p*s<(p.fdiv q+1)*q*s:=by
   refine Int.mul_lt_mul_of_pos_right ?_ hs;rw[Int.add_mul];omega
 have h2:(p.fdiv q+1)*q*s≤r.fdiv s*q*s:=Int.mul_le_mul_of_nonneg_right (Int.mul_le_mul_of_nonneg_right (by omega) (by omega)) (by omega);have h3:r.fdiv s*q*s≤r*q:=by
   rw[Int.mul_right_comm];exact Int.mul_le_mul_of_nonneg_right (by omega) (by omega)
 omega
theorem KK{p q r s:Int}(hq:0<q)(hs:0<s)(h:p.fdiv q≠r.fdiv s):Gq p q r s=iC (p.fdiv q) (r.fdiv s):=by
 unfold Gq;rcases Int.lt_or_gt_of_ne h with h|h
 · rw[iX h,iX (Jh hq hs h)]
 · rw[iZ h,iZ (Jh hs hq h)]
theorem OD{p q r s:Int}(hq:0<q)(hs:0<s)(h:p.fdiv q=r.fdiv s):Gq p q r s=iC (p.fmod q*s) (r.fmod s*q):=by
 obtain⟨e1,_,_⟩:=pQ (p:=p) hq;obtain⟨e2,_,_⟩:=pQ (p:=r) hs;unfold Gq;have h1:p*s=p.fdiv q*q*s+p.fmod q*s:=by
   conv=>lhs;rw[e1]
   rw[Int.add_mul]
 have h2:r*q=p.fdiv q*q*s+r.fmod s*q:=by
   conv=>lhs;rw[e2]
   rw[Int.add_mul,←h,Int.mul_right_comm]
 rw[h1,h2];unfold iC;have c1:(p.fdiv q*q*s+p.fmod q*s<p.fdiv q*q*s+r.fmod s*q)↔p.fmod q*s<r.fmod s*q:=by omega
 have c2:(p.fdiv q*q*s+r.fmod s*q<p.fdiv q*q*s+p.fmod q*s)↔r.fmod s*q<p.fmod q*s:=by omega
 simp only[c1,c2]
theorem O6(x q y s:Int):iC (x*s) (y*q)= -Gq q x s y:=by
 unfold Gq;rw[Int.mul_comm q y,Int.mul_comm s x];exact Pe _ _
theorem WD(x y:Rat):OU x y=Gq x.num x.den y.num y.den:=by
 unfold OU Gq iC;simp only[Rat.lt_iff]
theorem vW(b:Nat)(l:List Nat)(k:Nat):ofL b (l.take (k+1))=ofL b (l.take k)+b^k*l.getD k 0:=by
 cases h:l[k]? with
 | none=>
   have hk:=List.getElem?_eq_none_iff.1 h;rw[List.take_of_length_le (by omega),List.take_of_length_le (by omega)];simp[List.getD,h]
 | some x=>rw[jQ b h];simp[List.getD,h]
theorem Lim.getD{b:Nat}(hb:0<b){l:List Nat}(h:Lim b l)(k:Nat):l.getD k 0<b:=by
 cases h':l[k]? with
 | none=>simpa[List.getD,h']using hb
 | some x=>simpa[List.getD,h']using h x (List.mem_of_getElem? h')
theorem Lim.snoc{b:Nat}{l:List Nat}(h:Lim b l){x:Nat}(hx:x<b):Lim b (l++[x]):=fun y hy=>by
 rcases List.mem_append.1 hy with hy|hy
 · exact h y hy
 · rw[List.mem_singleton.1 hy];exact hx
theorem Lim.set{b:Nat}{l:List Nat}(h:Lim b l){x k:Nat}(hx:x<b):Lim b (l.set k x):=fun y hy=>by
 rcases List.mem_or_eq_of_mem_set hy with hy|rfl
 · exact h y hy
 · exact hx
theorem Lim.take{b:Nat}{l:List Nat}(h:Lim b l)(k:Nat):Lim b (l.take k):=fun y hy=>h y (List.mem_of_mem_take hy)
theorem Lim.drop{b:Nat}{l:List Nat}(h:Lim b l)(k:Nat):Lim b (l.drop k):=fun y hy=>h y (List.mem_of_mem_drop hy)
theorem Lim.zeros{b:Nat}(hb:0<b)(n:Nat):Lim b (List.replicate n 0):=fun y hy=>by
 rw[(List.mem_replicate.1 hy).2];exact hb
theorem uW(b:Nat){l:List Nat}{k x:Nat}(h:l[k]?=some x):ofL b (l.drop k)=x+b*ofL b (l.drop (k+1)):=by
 obtain⟨hk,hx⟩:=List.getElem?_eq_some_iff.1 h;rw[List.drop_eq_getElem_cons hk,hx,ofL]
theorem LP{b:Nat}(hb:0<b){l o:List Nat}{i n k c:Nat}(hn:l[i]?=some n)(hl:o.length=i)(h:ofL b o+b^i*c=ofL b (l.take i)*k):
   ofL b (o++[(n*k+c)%b])+b^(i+1)*((n*k+c)/b)=ofL b (l.take (i+1))*k:=by
 rw[rA,jQ b hn,hl,Nat.pow_succ];have e:=Nat.mod_add_div (n*k+c) b;have e2:b^i*((n*k+c)%b+b*((n*k+c)/b))=b^i*(n*k+c):=by rw[e]
 grind
theorem SV{b:Nat}(hb:0<b){x y o:List Nat}{i c:Nat}(hl:o.length=i)(h:ofL b o+b^i*c=ofL b (x.take i)+ofL b (y.take i)):
   ofL b (o++[(x.getD i 0+y.getD i 0+c)%b])+b^(i+1)*((x.getD i 0+y.getD i 0+c)/b)=ofL b (x.take (i+1))+ofL b (y.take (i+1)):=by
 rw[rA,vW,vW,hl,Nat.pow_succ];have e:=Nat.mod_add_div (x.getD i 0+y.getD i 0+c) b;have e2:b^i*((x.getD i 0+y.getD i 0+c)%b+b*((x.getD i 0+y.getD i 0+c)/b))=b^i*(x.getD i 0+y.getD i 0+c):=by rw[e]
 grind
theorem Bs{b:Nat}{x y o:List Nat}{i c c' d:Nat}(hl:o.length=i)(h:ofL b o+ofL b (y.take i)=ofL b (x.take i)+b^i*c)(hd:d+y.getD i 0+c=x.getD i 0+b*c'):
   ofL b (o++[d])+ofL b (y.take (i+1))=ofL b (x.take (i+1))+b^(i+1)*c':=by
 rw[rA,vW,vW,hl,Nat.pow_succ];have e2:b^i*(d+y.getD i 0+c)=b^i*(x.getD i 0+b*c'):=by rw[hd]
 grind
theorem AH{b x y c:Nat}(hx:x<b)(hy:y<b)(hc:c≤1):(if(x:Int)-y-c<0 then(x:Int)-y-c+b else(x:Int)-y-c)=((if x<y+c then x+b-(y+c)else x-(y+c):Nat):Int):=by
 split <;> split <;> omega
theorem xP{b x y c:Nat}(hx:x<b)(hy:y<b)(hc:c≤1):(if x<y+c then x+b-(y+c)else x-(y+c))+y+c=x+b*(if x<y+c then 1 else 0)∧(if x<y+c then x+b-(y+c)else x-(y+c))<b:=by
 split <;> constructor <;> omega
theorem Ef{b:Nat}(hb:2≤b){x y o:List Nat}{c:Nat}(ho:Lim b o)(hx:Lim b x)(hl:o.length=x.length)(hyl:y.length≤x.length)(hle:ofL b y≤ofL b x)(hc:c≤1)(h:ofL b o+ofL b (y.take x.length)=ofL b (x.take x.length)+b^x.length*c):
   c=0∧ofL b o=ofL b x-ofL b y:=by
 rw[List.take_of_length_le hyl,List.take_length]at h;have h1:=mI (by omega) ho;rw[hl]at h1;rcases Nat.eq_zero_or_pos c with hc0|hc0
 · subst hc0;rw[Nat.mul_zero]at h;omega
 · have:c=1:=by omega
   subst this;rw[Nat.mul_one]at h;omega
theorem S6{b:Nat}(hb:0<b){y out out0:List Nat}{i k x c v yk:Nat}(hv:out[i+k]?=some v)(hy:y[k]?=some yk)(h:ofL b out+b^(i+k)*c=ofL b out0+b^i*(x*ofL b (y.take k))):
   ofL b (out.set (i+k) ((v+x*yk+c)%b))+b^(i+(k+1))*((v+x*yk+c)/b)=ofL b out0+b^i*(x*ofL b (y.take (k+1))):=by
 have h1:=Ga b out (i+k) v ((v+x*yk+c)%b) hv;have e:=Nat.mod_add_div (v+x*yk+c) b;have e2:b^(i+k)*((v+x*yk+c)%b+b*((v+x*yk+c)/b))=b^(i+k)*(v+x*yk+c):=by rw[e]
 rw[jQ b hy,show i+(k+1)=(i+k)+1 by omega,Nat.pow_succ];have e3:b^(i+k)=b^i*b^k:=Nat.pow_add b i k
 grind
theorem T0{b:Nat}{y out out0:List Nat}{i x c:Nat}(hv:out[i+y.length]?=some 0)(h:ofL b out+b^(i+y.length)*c=ofL b out0+b^i*(x*ofL b (y.take y.length))):
   ofL b (out.set (i+y.length) c)=ofL b out0+b^i*(x*ofL b y):=by
 have h1:=Ga b out (i+y.length) 0 c hv;rw[List.take_length]at h;rw[←h];omega
theorem QB{b r a:Nat}(hb:2≤b){l:List Nat}{i x:Nat}{qs:List Nat}(hx:l[i]?=some x)(hxb:x<b)(hr:r<a)(hq:i<qs.length)(h:ofL b (l.drop (i+1))=ofL b (qs.drop (i+1))*a+r):
   ofL b (l.drop i)=ofL b ((qs.set i ((x+b*r)/a)).drop i)*a+(x+b*r)%a∧(x+b*r)/a<b∧(x+b*r)%a<a:=by
 have ha:0<a:=by omega
 have hs:(qs.set i ((x+b*r)/a))[i]?=some ((x+b*r)/a):=by simp[hq]
 refine⟨?_,?_,Nat.mod_lt _ ha⟩
 · rw[uW b hx,uW b hs,h,List.drop_set_of_lt (by omega)]
   have e:=Nat.mod_add_div (x+b*r) a
   grind
 · rw[Nat.div_lt_iff_lt_mul ha]
   have:b*(r+1)≤b*a:=Nat.mul_le_mul_left _ hr;rw[Nat.mul_add]at this;omega
theorem TT{q r a n:Nat}(hr:r<a)(h:n=q*a+r):q=n/a∧r=n%a:=by
 subst h;have ha:0<a:=by omega
 constructor
 · rw[Nat.add_comm,Nat.add_mul_div_right _ _ ha,Nat.div_eq_of_lt hr,Nat.zero_add]
 · rw[Nat.add_comm,Nat.add_mul_mod_self_right,Nat.mod_eq_of_lt hr]
theorem Qj(l:List UInt8):∀a:Nat,l.foldl (fun a c=>10*a+(c.toNat-48)) a=a*10^l.length+fJ l:=by
 induction l with
 | nil=>intro a;simp[fJ]
 | cons c l ih=>
   intro a;have h1:=ih (10*a+(c.toNat-48));have h2:=ih (10*0+(c.toNat-48));simp only[List.foldl_cons,fJ]at h1 h2 ⊢;rw[h1,h2,List.length_cons,Nat.pow_succ]
   grind
theorem pZ(a b:List UInt8):fJ (a++b)=fJ a*10^b.length+fJ b:=by
 rw[fJ,List.foldl_append];exact Qj b _
theorem Bf{l:List UInt8}(h:l.all isD=true):fJ l<10^l.length:=by
 induction l using Be with
 | h0=>simp[fJ]
 | h1 l c ih=>
   rw[List.all_append]at h;simp only[Bool.and_eq_true,List.all_cons,List.all_nil,Bool.and_true]at h;have:=ih h.1;have hc:=jT.1 h.2;rw[kH,List.length_append,List.length_cons,List.length_nil,Nat.pow_succ];omega
def Ie:Nat→Nat→List UInt8
 | 0,_=>[]
 | k+1,x=>Ie k (x/10)++[UInt8.ofNat (48+x%10)]
theorem EJ:∀(k x m:Nat),x<10^k→m≠0→decDigits (x+10^k*m)=decDigits m++Ie k x
 | 0,x,m,hx,hm=>by
   have:x=0:=by simpa using hx
   subst this;simp[Ie]
 | k+1,x,m,hx,hm=>by
   rw[Nat.pow_succ]at hx;have h1:10^(k+1)*m=10*(10^k*m):=by rw[Nat.pow_succ,Nat.mul_comm (10^k) 10,Nat.mul_assoc]
   have hp:0<10^k*m:=Nat.mul_pos (Nat.pow_pos (by omega)) (by omega);rw[h1,decDigits,dif_neg (by omega),show(x+10*(10^k*m))/10=x/10+10^k*m by omega,show(x+10*(10^k*m))%10=x%10 by omega,EJ k (x/10) m (by omega) hm,Ie,List.append_assoc]
theorem O7(k:Nat):Ie k 0=List.replicate k 48:=by
 induction k with
 | zero=>rfl
 | succ k ih=>
   rw[Ie,Nat.zero_div,ih,List.replicate_succ'];rfl
theorem Mu:∀(k x:Nat),1≤k→x<10^k→Ie k x=List.replicate (k-(decDigits x).length) 48++decDigits x
 | 0,x,hk,hx=>by omega
 | k+1,x,hk,hx=>by
   rw[Ie];by_cases h9:x<10
   · rw[show x/10=0 by omega,O7,decDigits_one h9]
     simp[Nat.mod_eq_of_lt h9]
   · have hk1 : 1 ≤ k := by
       rcases Nat.eq_zero_or_pos k with h|h
       · subst h;simp at hx;omega
       · exact h
     rw[Nat.pow_succ]at hx;rw[Mu k (x/10) hk1 (by omega)]
     conv=>rhs;rw[decDigits,dif_neg h9]
     rw[List.length_append,List.length_cons,List.length_nil,List.append_assoc,show k+1-((decDigits (x/10)).length+(0+1))=k-(decDigits (x/10)).length by omega]
def aaD(x:Nat):List UInt8:=List.replicate (9-(decDigits x).length) 48++decDigits x
theorem P6{x m:Nat}(hx:x<1000000000)(hm:m≠0):decDigits (x+1000000000*m)=decDigits m++aaD x:=by
 have:=EJ 9 x m hx hm;rw[Mu 9 x (by omega) hx]at this;exact this
theorem SX{b:Nat}(hb:2≤b){n k:Nat}(hk:k<(aV b n).length):ofL b ((aV b n).drop k)≠0:=by
 intro h;have hn:n≠0:=fun e=>by subst e;rw[dQ]at hk;simp at hk
 have h1:=Kg hb hn;have h2:ofL b (aV b n)=ofL b ((aV b n).take k)+b^k*ofL b ((aV b n).drop k):=by
   have:=mY b ((aV b n).take k) ((aV b n).drop k);rw[List.take_append_drop,List.length_take,Nat.min_eq_left (by omega)]at this;exact this
 rw[dM hb,h,Nat.mul_zero,Nat.add_zero]at h2;have h3:=mI (b:=b) (by omega) ((dH hb n).take k);rw[List.length_take,Nat.min_eq_left (by omega),←h2]at h3;have:b^k≤b^((aV b n).length-1):=Nat.pow_le_pow_right (by omega) (by omega);omega
def dl(l:List UInt8):List Nat:=(l.map fun c=>c.toNat-48).reverse
theorem Ch(l:List UInt8):(dl l).length=l.length:=by simp[dl]
theorem KR(l:List UInt8):ofL 10 (dl l)=fJ l:=by
 induction l using Be with
 | h0=>rfl
 | h1 l c ih=>
   rw[kH,←ih];simp only[dl,List.map_append,List.map_cons,List.map_nil,List.reverse_append,List.reverse_cons,List.reverse_nil,List.nil_append,List.singleton_append,ofL];omega
theorem Mc{l:List UInt8}(h:l.all isD=true):Lim 10 (dl l):=by
 intro x hx;simp only[dl,List.mem_reverse,List.mem_map]at hx;obtain⟨c,hc,rfl⟩:=hx;have:=jT.1 (List.all_eq_true.1 h c hc);omega
def txt(l:List Nat):List UInt8:=(l.map fun x=>UInt8.ofNat (48+x)).reverse
theorem Uh{l:List Nat}(h:Lim 10 l):(txt l).all isD=true:=by
 rw[List.all_eq_true];intro c hc;simp only[txt,List.mem_reverse,List.mem_map]at hc;obtain⟨x,hx,rfl⟩:=hc;have:=h x hx;rw[jT,kI this];omega
theorem Xj{l:List Nat}(h:Lim 10 l):dl (txt l)=l:=by
 simp only[dl,txt,List.map_reverse,List.reverse_reverse,List.map_map]
 conv=>rhs;rw[←List.map_id l]
 refine List.map_congr_left fun x hx=>?_
 simp only[Function.comp,kI (h x hx),id];omega
theorem To{l:List Nat}(h:Lim 10 l):fJ (txt l)=ofL 10 l:=by rw[←KR,Xj h]
theorem DL{n:Nat}(hn:n≠0):txt (aV 10 n)=decDigits n:=by
 induction n using Nat.strongRecOn with
 | _ n ih=>
   rw[oT (by omega) hn,decDigits];simp only[txt,List.map_cons,List.reverse_cons];split
   · rename_i h
     rw[show n/10=0 by omega,dQ,Nat.mod_eq_of_lt h];rfl
   · rename_i h
     rw[←ih (n/10) (by omega) (by omega)];rfl
end Go.Nu
end
