/- Texts joined by a program: AwLib, NuA, NuB, NuC, NuG, NuD, NuF. -/
import Derived.Lib.ItoaMem
import Derived.Test.YtdlijlecpopadaaGreatDoorZz09

section
set_option linter.unusedSimpArgs false
set_option linter.unusedVariables false
namespace Go.Aw
open Go.RowKit
section
variable{P:Program}{S:Sg}{w:World}{H:aG}{f:FuncId}{args args':List AV}{K:AV→aG→Prop}
theorem St.frz(hS:St S w H)(l:List Nat):St (S.froze fun k=>if k∈l then H k else none) w (fun k=>if k∈l then none else H k)∧Grow S w (S.froze fun k=>if k∈l then H k else none) w∧St S w fun k=>if k∈l then H k else none:=by
 let Hf:aG:=fun k=>if k∈l then H k else none
 let Hr:aG:=fun k=>if k∈l then none else H k
 have hf:∀k r',Hf k=some r'→k∈l∧H k=some r':=fun k r' hk=>by
   by_cases e:k∈l
   · exact⟨e,by simpa[Hf,e]using hk⟩
   · simp[Hf,e]at hk
 have hrr:∀k r',Hr k=some r'→¬k∈l∧H k=some r':=fun k r' hk=>by
   by_cases e:k∈l
   · simp[Hr,e]at hk
   · exact⟨e,by simpa[Hr,e]using hk⟩
 refine⟨⟨?_,?_,fun k r' hk=>(hS.rows k r' (hrr k r' hk).2).keep (S.le_froze Hf) (fU.refl S w) (fun _ _=>rfl),?_,fun k k' r1 r2 hk hk' hne g hg hg'=>hS.disj k k' r1 r2 (hrr k r1 hk).2 (hrr k' r2 hk').2 hne g hg hg',hS.tabs.keep (S.le_froze Hf) (fU.refl S w)⟩,⟨S.le_froze Hf,fun k hk=>.inl hk,rfl,rfl,rfl,Nat.le_refl _,fun _ _=>rfl,?_⟩,hS.drop fun k r' hk=>(hf k r' hk).2⟩
 · rintro g (hg|hg)
   · exact .inl (hS.ro_fz g hg)
   · exact .inr hg
 · rintro g (hg|⟨k,r',hk,hg⟩)
   · exact hS.fz_lt g hg
   · exact(hS.rows k r' (hf k r' hk).2).block_lt hg
 · rintro k r' hk g hg (h1|⟨i,r2,hi,h2⟩)
   · exact hS.free k r' (hrr k r' hk).2 g hg h1
   · exact hS.disj k i r' r2 (hrr k r' hk).2 (hf i r2 hi).2 (fun e=>(hrr k r' hk).1 (e▸(hf i r2 hi).1)) g hg h2
 · rintro g (hg|⟨k,r',hk,hg⟩)
   · exact .inl hg
   · exact .inr (hS.free k r' (hf k r' hk).2 g hg)
theorem bI.frz(l:List Nat)(hc:ConvL (fun k=>if k∈l then H k else none) args args')(h:bI P f args' (fun k=>if k∈l then none else H k) K):bI P f args H K:=by
 intro S w vals hS ha;obtain⟨h1,h2,h3⟩:=hS.frz l;refine(h _ w vals h1 (hc.rep h3 ha)).mono fun e w' ⟨v,r,H',S',he,hr,hS',hv,hg,hn⟩=>⟨v,r,H',S',he,hr,hS',hv,h2.trans hg,fun k hk h0=>hn k hk ?_⟩
 by_cases e:k∈l
 · simp[e]
 · simpa[e]using h0
theorem PC.useF{r:AV}(l:List Nat)(hc:ConvL (fun k=>if k∈l then H k else none) args args')(h:PC P f args' r)(hK:K r (fun k=>if k∈l then none else H k)):bI P f args H K:=bI.frz l hc (PC.use h hK)
theorem PC.lib{a:List Value}{r:AV}{v:Value}(hr:∀S w,rep S w r v)(h:∀w,(∀t∈QL,qX w t.1=some t.2)→Calls P f a.toArray w fun e w'=>e=.returned v∧Below w.heap.size w w'):PC P f (a.map .v) r:=by
 intro S w vals hS hf ha;obtain rfl:vals=a:=by
   clear h;induction a generalizing vals with
   | nil=>
     cases vals with
     | nil=>rfl
     | cons x r=>simp[aZ]at ha
   | cons x a ih=>
     simp only[List.map_cons,aZ]at ha;obtain⟨u,t,rfl,h1,h2⟩:=ha;simp only[rep]at h1;subst h1;rw[ih t h2]
 refine(h w fun t ht=>(hS.tabs t ht).2).mono fun e w' ⟨he,hb⟩=>?_
 exact⟨v,r,bX,S,he,rfl,hS.after hb.size fun k hk=>hb.block k hk,hr S w',hS.grow hb.os hb.tape hb.output hb.size fun k hk=>hb.block k hk,fH.refl _ _⟩
end
end Go.Aw
end

section
set_option linter.unusedSimpArgs false
set_option linter.unusedVariables false
namespace Go.Nu
open Go Go.Lib
def ofL(b:Nat):List Nat→Nat
 | []=>0
 | x::r=>x+b*ofL b r
def Lim(b:Nat)(l:List Nat):Prop:=∀x∈l,x<b
def aM(b:Nat)(n:Nat):List Nat:=if h:n=0∨b<2 then[]else n%b::aM b (n/b)
termination_by n
decreasing_by exact Nat.div_lt_self (by omega) (by omega)
def mA:List Nat→List Nat
 | []=>[]
 | x::r=>match mA r with
   | []=>if x=0 then[]else[x]
   | y::t=>x::y::t
theorem oM(b:Nat):∀l r:List Nat,ofL b (l++r)=ofL b l+b^l.length*ofL b r
 | [],r=>by simp[ofL]
 | x::l,r=>by
   simp only[List.cons_append,ofL,oM b l r,List.length_cons,Nat.pow_succ,Nat.mul_add,Nat.add_assoc];rw[Nat.mul_comm (b^l.length) b,Nat.mul_assoc]
theorem rF(b:Nat)(l:List Nat)(x:Nat):ofL b (l++[x])=ofL b l+b^l.length*x:=by rw[oM];simp[ofL]
theorem jA{b:Nat}(hb:0<b):∀{l:List Nat},Lim b l→ofL b l<b^l.length
 | [],_=>by simp[ofL]
 | x::l,h=>by
   have h1:=h x (by simp);have h2:=jA hb (l:=l) fun y hy=>h y (by simp[hy])
   simp only[ofL,List.length_cons,Nat.pow_succ];have:b*(ofL b l+1)≤b*b^l.length:=Nat.mul_le_mul_left _ h2;rw[Nat.mul_add]at this;rw[Nat.mul_comm (b^l.length) b];omega
theorem jT(b:Nat){l:List Nat}{k x:Nat}(h:l[k]?=some x):ofL b (l.take (k+1))=ofL b (l.take k)+b^k*x:=by
 rw[List.take_add_one,h];simp only[Option.toList];rw[rF,List.length_take,Nat.min_eq_left (Nat.le_of_lt (List.getElem?_eq_some_iff.1 h).1)]
theorem Hk(b:Nat):∀(l:List Nat) (k x v:Nat),l[k]?=some x→ofL b (l.set k v)+b^k*x=ofL b l+b^k*v
 | [],k,x,v,h=>by simp at h
 | y::l,0,x,v,h=>by
   simp only[List.getElem?_cons_zero,Option.some.injEq]at h;subst h;simp only[List.set_cons_zero,ofL,Nat.pow_zero,Nat.one_mul];omega
 | y::l,k+1,x,v,h=>by
   have:=Hk b l k x v (by simpa using h);have h2:b*(ofL b (l.set k v)+b^k*x)=b*(ofL b l+b^k*v):=by rw[this]
   simp only[List.set_cons_succ,ofL,Nat.pow_succ];rw[Nat.mul_add,Nat.mul_add,←Nat.mul_assoc,←Nat.mul_assoc]at h2;rw[Nat.mul_comm (b^k) b];omega
theorem G4(b n:Nat):ofL b (List.replicate n 0)=0:=by
 induction n with
 | zero=>rfl
 | succ n ih=>simp[List.replicate_succ,ofL,ih]
theorem dC(b:Nat):aM b 0=[]:=by rw[aM];simp
theorem lR{b n:Nat}(hb:2≤b)(hn:n≠0):aM b n=n%b::aM b (n/b):=by
 rw[aM,dif_neg (by omega)]
theorem bZ{b:Nat}(hb:2≤b)(n:Nat):Lim b (aM b n):=by
 induction n using Nat.strongRecOn with
 | _ n ih=>
   by_cases hn:n=0
   · subst hn;rw[dC];intro x hx;cases hx
   · rw[lR hb hn]
     intro x hx;rcases List.mem_cons.1 hx with rfl|hx
     · exact Nat.mod_lt _ (by omega)
     · exact ih (n/b) (Nat.div_lt_self (by omega) (by omega)) x hx
theorem cF{b:Nat}(hb:2≤b)(n:Nat):ofL b (aM b n)=n:=by
 induction n using Nat.strongRecOn with
 | _ n ih=>
   by_cases hn:n=0
   · subst hn;rw[dC];rfl
   · rw[lR hb hn,ofL,ih (n/b) (Nat.div_lt_self (by omega) (by omega))]
     exact Nat.mod_add_div n b
theorem nC{b n:Nat}(hb:2≤b):aM b n=[]↔n=0:=by
 constructor
 · intro h
   have:=cF hb n;rw[h]at this;exact this.symm
 · rintro rfl;exact dC b
theorem De{b x m:Nat}(hb:2≤b)(hx:x<b)(h:x+b*m≠0):aM b (x+b*m)=x::aM b m:=by
 rw[lR hb h,Nat.add_mul_mod_self_left,Nat.mod_eq_of_lt hx,Nat.add_mul_div_left _ _ (by omega),Nat.div_eq_of_lt hx,Nat.zero_add]
theorem Dv{b:Nat}(hb:2≤b):∀{l:List Nat},Lim b l→mA l=aM b (ofL b l)
 | [],_=>by rw[ofL,dC];rfl
 | x::l,h=>by
   have ih:=Dv hb (l:=l) fun y hy=>h y (by simp[hy])
   have hx:=h x (by simp);rw[mA,ih];by_cases h0:ofL b l=0
   · simp only[ofL,h0,dC]
     by_cases hx0:x=0
     · subst hx0;simp[dC]
     · rw[if_neg hx0,De hb hx (by omega),dC]
   · have hne:aM b (ofL b l)≠[]:=fun e=>h0 ((nC hb).1 e)
     rw[ofL,De hb hx (by have:0<b*ofL b l:=Nat.mul_pos (by omega) (by omega);omega)];split
     · rename_i e;exact absurd e hne
     · rename_i e;rw[e]
theorem HS{b:Nat}(hb:2≤b){l:List Nat}{n:Nat}(h:Lim b l)(hn:ofL b l=n):mA l=aM b n:=by rw[Dv hb h,hn]
theorem gK{b:Nat}(hb:2≤b){n k:Nat}(h:n<b^k):(aM b n).length≤k:=by
 induction k generalizing n with
 | zero => have : n = 0 := by simpa using h
           subst this;rw[dC];exact Nat.le_refl _
 | succ k ih=>
   by_cases hn:n=0
   · subst hn;rw[dC];exact Nat.zero_le _
   · rw[lR hb hn,List.length_cons]
     refine Nat.succ_le_succ (ih ?_);rw[Nat.div_lt_iff_lt_mul (by omega)]
     rwa [Nat.pow_succ]at h
theorem HU{b:Nat}(hb:2≤b){n k:Nat}(h:b^k≤n):k<(aM b n).length:=by
 have h1:=jA (b:=b) (by omega) (bZ hb n);rw[cF hb]at h1;exact(Nat.pow_lt_pow_iff_right (by omega)).1 (Nat.lt_of_le_of_lt h h1)
theorem cE{b:Nat}(hb:2≤b){m n:Nat}(h:m≤n):(aM b m).length≤(aM b n).length:=by
 refine gK hb ?_;have h1:=jA (b:=b) (by omega) (bZ hb n);rw[cF hb]at h1;omega
theorem MI{b:Nat}(hb:2≤b){n:Nat}(hn:n≠0):b^((aM b n).length-1)≤n:=by
 induction n using Nat.strongRecOn with
 | _ n ih=>
   rw[lR hb hn,List.length_cons,Nat.add_sub_cancel];by_cases h0:n/b=0
   · rw[h0,dC];simp;omega
   · have:=ih (n/b) (Nat.div_lt_self (by omega) (by omega)) h0
     have hl:(aM b (n/b)).length=((aM b (n/b)).length-1)+1:=by
       have:aM b (n/b)≠[]:=fun e=>h0 ((nC hb).1 e)
       have:=List.length_pos_iff.2 this;omega
     rw[hl,Nat.pow_succ];exact Nat.le_trans (Nat.mul_le_mul_right b this) (Nat.div_mul_le_self n b)
theorem FY{b:Nat}(hb:0<b){l r:List Nat}(hl:Lim b l)(hr:Lim b r)(hlen:l.length=r.length){k x y:Nat}(hx:l[k]?=some x)(hy:r[k]?=some y)(hxy:x<y)(hd:l.drop (k+1)=r.drop (k+1)):ofL b l<ofL b r:=by
 have hk:k<l.length:=(List.getElem?_eq_some_iff.1 hx).1;have e1:l=l.take (k+1)++l.drop (k+1):=(List.take_append_drop _ _).symm;have e2:r=r.take (k+1)++r.drop (k+1):=(List.take_append_drop _ _).symm;rw[e1,e2,oM,oM,hd,jT b hx,jT b hy,List.length_take,List.length_take,Nat.min_eq_left (by omega),Nat.min_eq_left (by omega)];have h1:=jA hb (l:=l.take k) fun z hz=>hl z (List.mem_of_mem_take hz)
 rw[List.length_take,Nat.min_eq_left (by omega)]at h1;have h2:b^k*(x+1)≤b^k*y:=Nat.mul_le_mul_left _ hxy;rw[Nat.mul_add]at h2;omega
theorem Fg{b:Nat}(hb:2≤b){m n:Nat}(h:(aM b m).length<(aM b n).length):m<n:=by
 rcases Nat.lt_or_ge m n with h1|h1
 · exact h1
 · have:=cE hb h1;omega
theorem CU{α:Type}{p:List α→Prop}(h0:p [])(h1:∀l c,p l→p (l++[c]))(l:List α):p l:=by
 have:∀r:List α,p r.reverse:=fun r=>by
   induction r with
   | nil=>exact h0
   | cons c r ih=>rw[List.reverse_cons];exact h1 _ _ ih
 rw[←List.reverse_reverse l];exact this _
def isD(c:UInt8):Bool:=decide (48≤c.toNat)&&decide (c.toNat≤57)
def gF(l:List UInt8):Nat:=l.foldl (fun a c=>10*a+(c.toNat-48)) 0
def dX(l:List UInt8):Bool:=l != []&&(l.length == 1||l.getD 0 0 != 48)&&l.all isD
def dec(n:Nat):ByteArray:=⟨(decDigits n).toArray⟩
theorem lU(l:List UInt8)(c:UInt8):gF (l++[c])=10*gF l+(c.toNat-48):=by simp[gF]
theorem A5{α:Type}{l r:List α}{k:Nat}{d:α}(h:k<l.length):(l++r).getD k d=l.getD k d:=by
 simp only[List.getD,List.getElem?_append_left h]
theorem lW{d:Nat}(h:d<10):(UInt8.ofNat (48+d)).toNat=48+d:=by
 rw[UInt8.toNat_ofNat'];omega
theorem nU(n:Nat):gF (decDigits n)=n:=by
 induction n using Nat.strongRecOn with
 | _ n ih=>
   rw[decDigits];split
   · rename_i h
     simp only[gF,List.foldl_cons,List.foldl_nil,lW h];omega
   · rename_i h
     rw[lU,ih (n/10) (by omega),lW (by omega)];omega
theorem rY(n:Nat):(decDigits n).all isD=true:=by
 induction n using Nat.strongRecOn with
 | _ n ih=>
   rw[decDigits];split
   · rename_i h
     simp only[List.all_cons,List.all_nil,Bool.and_true,isD,lW h,Bool.and_eq_true,decide_eq_true_eq];omega
   · rename_i h
     rw[List.all_append,ih (n/10) (by omega)];simp only[List.all_cons,List.all_nil,Bool.and_true,Bool.true_and,isD,lW (show n%10<10 by omega),Bool.and_eq_true,decide_eq_true_eq];omega
theorem DF(n:Nat):decDigits n≠[]:=by
 rw[decDigits];split <;> simp
theorem gV(n:Nat):0<(decDigits n).length:=List.length_pos_iff.2 (DF n)
theorem TS{n:Nat}(h:n≠0):(decDigits n).getD 0 0≠48:=by
 induction n using Nat.strongRecOn with
 | _ n ih=>
   rw[decDigits];split
   · rename_i h1
     simp only[List.getD_cons_zero];intro e;have:=lW h1;rw[e]at this;simp at this;omega
   · rename_i h1
     have h2:=ih (n/10) (by omega) (by omega);have h3:=gV (n/10);rw[A5 h3];exact h2
theorem wY{n:Nat}:(decDigits n).length=1↔n<10:=by
 rw[decDigits];split
 · simp_all
 · rename_i h
   have:=gV (n/10);simp only[List.length_append,List.length_cons,List.length_nil];omega
theorem Q3(n:Nat):dX (decDigits n)=true:=by
 unfold dX;simp only[Bool.and_eq_true,bne_iff_ne,ne_eq,Bool.or_eq_true,beq_iff_eq];refine⟨⟨DF n,?_⟩,rY n⟩;by_cases h:n=0
 · left;rw[wY];omega
 · right;exact TS h
theorem lB{c:UInt8}:isD c=true↔48≤c.toNat∧c.toNat≤57:=by simp[isD]
theorem U7{c:UInt8}(h:isD c=true):UInt8.ofNat (48+(c.toNat-48))=c:=by
 rw[lB]at h;rw[show 48+(c.toNat-48)=c.toNat by omega];exact UInt8.ofNat_toNat
theorem Ur:∀{l:List UInt8},l.all isD=true→l≠[]→l.getD 0 0≠48→10^(l.length-1)≤gF l:=by
 intro l;induction l using CU with
 | h0=>intro _ h;exact absurd rfl h
 | h1 l c ih=>
   intro ha _ h0;rw[List.all_append]at ha;simp only[Bool.and_eq_true,List.all_cons,List.all_nil,Bool.and_true]at ha;rw[lU];by_cases hl:l=[]
   · subst hl
     simp only[List.nil_append,List.getD_cons_zero]at h0;simp only[List.nil_append,List.length_cons,List.length_nil,Nat.zero_add,Nat.sub_self,Nat.pow_zero];have:=lB.1 ha.2;have h1:c.toNat≠48:=fun e=>h0 (UInt8.toNat.inj e)
     omega
   · have hp:=List.length_pos_iff.2 hl
     rw[A5 hp]at h0;have:=ih ha.1 hl h0;simp only[List.length_append,List.length_cons,List.length_nil,Nat.zero_add,Nat.add_sub_cancel];rw[show l.length=(l.length-1)+1 by omega,Nat.pow_succ];omega
theorem HW:∀{l:List UInt8},dX l=true→decDigits (gF l)=l:=by
 intro l;induction l using CU with
 | h0=>intro h;simp[dX]at h
 | h1 l c ih=>
   intro h;unfold dX at h;simp only[Bool.and_eq_true,bne_iff_ne,ne_eq,Bool.or_eq_true,beq_iff_eq,List.all_append,List.all_cons,List.all_nil,Bool.and_true]at h;obtain⟨⟨_,h1⟩,h2,h3⟩:=h;have hc:=lB.1 h3;by_cases hl:l=[]
   · subst hl
     rw[List.nil_append];rw[show gF [c]=c.toNat-48 by simp[gF],decDigits_one (by omega),U7 h3]
   · have hp:=List.length_pos_iff.2 hl
     have h0:l.getD 0 0≠48:=by
       rcases h1 with h1|h1
       · simp only[List.length_append,List.length_cons,List.length_nil]at h1;omega
       · rwa [A5 hp]at h1
     have hv:=Ur h2 hl h0;have hv1:1≤gF l:=Nat.le_trans (Nat.one_le_pow _ _ (by omega)) hv;rw[lU,decDigits,dif_neg (by omega)];rw[show(10*gF l+(c.toNat-48))/10=gF l by omega,show(10*gF l+(c.toNat-48))%10=c.toNat-48 by omega,U7 h3,ih];unfold dX;simp only[Bool.and_eq_true,bne_iff_ne,ne_eq,Bool.or_eq_true,beq_iff_eq];exact⟨⟨hl,.inr h0⟩,h2⟩
theorem iD{n k:Nat}(hk:1≤k):(decDigits n).length≤k↔n<10^k:=by
 rw[decDigits_length];constructor
 · intro h
   exact Nat.lt_of_lt_of_le (lt_pow_nDigits n) (Nat.pow_le_pow_right (by omega) h)
 · intro h
   by_cases h0:n<10
   · rw[nDigits_small h0];exact hk
   · induction k generalizing n with
     | zero=>omega
     | succ k ih=>
       by_cases hk0:k=0
       · subst hk0;simp at h;omega
       · rw[nDigits_big h0]
         rw[Nat.pow_succ]at h;have:=Nat.succ_le_succ (show nDigits (n/10)≤k from by
           by_cases h9:n/10<10
           · rw[nDigits_small h9];omega
           · exact ih (by omega) (by omega) h9)
         exact this
end Go.Nu
end

section
set_option linter.unusedSimpArgs false
set_option linter.unusedVariables false
namespace Go.Nu
open Go Go.Lib
def bl(s:ByteArray):List UInt8:=s.data.toList
theorem jR{a b:ByteArray}(h:bl a=bl b):a=b:=by
 cases a;cases b;simp only[bl]at h;rw[Array.toList_inj.1 h]
theorem cA(s:ByteArray):(bl s).length=s.size:=by unfold bl;rw[Array.length_toList];rfl
def eqB(a b:ByteArray):Bool:=bl a == bl b
theorem kL{a b:ByteArray}:eqB a b=true↔a=b:=by
 unfold eqB;rw[beq_iff_eq];exact⟨jR,fun h=>by rw[h]⟩
theorem mE{a b:ByteArray}:eqB a b=false↔a≠b:=by rw[←Bool.not_eq_true,kL]
theorem iN(l:List UInt8):bl ⟨l.toArray⟩=l:=by simp[bl]
theorem kV(a b:ByteArray):bl (a++b)=bl a++bl b:=by unfold bl;rw[ByteArray.data_append,Array.toList_append]
theorem abZ(s:ByteArray):(⟨(bl s).toArray⟩:ByteArray)=s:=jR (iN _)
def emp:ByteArray:=ByteArray.empty
theorem aaL:bl emp=[]:=rfl
theorem fA(s:ByteArray)(a b:Nat):bl (s.extract a b)=((bl s).take b).drop a:=by
 simp[bl,ByteArray.data_extract,Array.toList_extract,List.extract_eq_take_drop,List.drop_take]
def UO:Nat:=4096
def cG:Nat:=10^UO
theorem IY{n k:Nat}(h:n<10^k)(hk:k≤4096):n<cG:=Nat.lt_of_lt_of_le h (Nat.pow_le_pow_right (show 0<10 by omega) (show k≤UO from hk))
theorem WS:0<cG:=Nat.pow_pos (show 0<10 by omega)
def dF(s:ByteArray):Bool:=dX (bl s)
def dT(s:ByteArray):Nat:=gF (bl s)
theorem gQ(n:Nat):bl (dec n)=decDigits n:=iN _
theorem kM(n:Nat):dF (dec n)=true:=by unfold dF;rw[gQ];exact Q3 n
theorem bT(n:Nat):dT (dec n)=n:=by unfold dT;rw[gQ];exact nU n
theorem iV{s:ByteArray}(h:dF s=true):dec (dT s)=s:=jR (by rw[gQ];exact HW h)
theorem gG(n:Nat):(dec n).size=(decDigits n).length:=by rw[←cA,gQ]
theorem gW(n:Nat):(dec n).size≤4096↔n<cG:=by rw[gG];exact iD (k:=UO) (by decide)
theorem uC{s:ByteArray}(h:dF s=true):s.size≤4096↔dT s<cG:=by
 have:=gW (dT s)
 rwa [iV h]at this
theorem oS{m n:Nat}:dec m=dec n↔m=n:=⟨fun h=>by rw[←bT m,h,bT],fun h=>by rw[h]⟩
def szN(n:Nat):ByteArray×Int:=if n<cG then(dec n,0)else(emp,4)
def iR(a b:ByteArray):Int:=if(!dF a|| !dF b)=true then 3 else if(decide (a.size>4096)||decide (b.size>4096))=true then 4 else 0
def Ny(a b:ByteArray):ByteArray×Int:=if iR a b=0 then szN (dT a+dT b)else(emp,iR a b)
def N0(a b:ByteArray):ByteArray×Int:=if iR a b=0 then(if dT a<dT b then(emp,2)else szN (dT a-dT b))else(emp,iR a b)
def Ng(a b:ByteArray):ByteArray×Int:=if iR a b=0 then szN (dT a*dT b)else(emp,iR a b)
def Ay(a b:ByteArray):ByteArray×ByteArray×Int:=if iR a b=0 then(if dT b=0 then(emp,emp,10)else(dec (dT a/dT b),dec (dT a%dT b),0))else(emp,emp,iR a b)
def vM(a b:ByteArray):ByteArray×Int:=if iR a b=0 then szN (Nat.gcd (dT a) (dT b))else(emp,iR a b)
theorem CO{a b:ByteArray}(ha:dF a=true)(hb:dF b=true)(sa:a.size≤4096)(sb:b.size≤4096):iR a b=0:=by
 unfold iR;rw[ha,hb];simp;omega
theorem tS{m n:Nat}(hm:m<cG)(hn:n<cG):iR (dec m) (dec n)=0:=CO (kM m) (kM n) ((gW m).2 hm) ((gW n).2 hn)
theorem oU{a b:ByteArray}(h:iR a b=0):∃m n,a=dec m∧b=dec n∧m<cG∧n<cG:=by
 unfold iR at h;split at h
 · cases h
 · rename_i h1
   split at h
   · cases h
   · rename_i h2
     simp only[Bool.or_eq_true,Bool.not_eq_true',not_or,Bool.not_eq_false,decide_eq_true_eq,Nat.not_lt]at h1 h2;exact⟨dT a,dT b,(iV h1.1).symm,(iV h1.2).symm,(uC h1.1).1 h2.1,(uC h1.2).1 h2.2⟩
theorem uJ{n:Nat}(h:n<cG):szN n=(dec n,0):=if_pos h
def eF(s:ByteArray):Bool:=(bl s).head? == some 45
def dN(s:ByteArray):ByteArray:=if eF s=true then⟨((bl s).drop 1).toArray⟩else s
def eJ(s:ByteArray):Bool:=dF (dN s)&& !(eF s&&eqB (dN s) (dec 0))
def fL(s:ByteArray):Int:=if eF s=true then -(dT (dN s):Int)else dT (dN s)
def zed(n:Int):ByteArray:=⟨(itoa n).toArray⟩
theorem dB(n:Nat):zed n=dec n:=by unfold zed;rw[itoa_nonneg];rfl
theorem Ak{n:Nat}(h:1≤n):zed (-(n:Int))=⟨((45:UInt8)::decDigits n).toArray⟩:=by unfold zed;rw[itoa_neg n h]
theorem zQ(n:Nat):eF (dec n)=false:=by
 unfold eF;rw[gQ];have h1:=rY n;have h2:=DF n;cases h:decDigits n with
 | nil=>exact absurd h h2
 | cons c r=>
   rw[h]at h1;simp only[List.all_cons,Bool.and_eq_true]at h1;have:=lB.1 h1.1;simp only[List.head?_cons,beq_eq_false_iff_ne,ne_eq,Option.some.injEq];intro e;rw[e]at this;simp at this
theorem L7(n:Nat):dN (dec n)=dec n:=by unfold dN;rw[zQ];rfl
theorem Ew(l:List UInt8):eF ⟨((45:UInt8)::l).toArray⟩=true:=by unfold eF;rw[iN];rfl
theorem P0(l:List UInt8):dN ⟨((45:UInt8)::l).toArray⟩=⟨l.toArray⟩:=by unfold dN;rw[Ew,if_pos rfl,iN];rfl
theorem oP(n:Int):eF (zed n)=decide (n<0):=by
 rcases Int.lt_or_le n 0 with h|h
 · obtain⟨m,rfl⟩:∃m:Nat,n= -(m:Int):=⟨n.natAbs,by omega⟩
   rw[Ak (by omega),Ew];simp;omega
 · obtain⟨m,rfl⟩:∃m:Nat,n=m:=⟨n.toNat,by omega⟩
   rw[dB,zQ];simp
theorem gY(n:Int):dN (zed n)=dec n.natAbs:=by
 rcases Int.lt_or_le n 0 with h|h
 · obtain⟨m,rfl⟩:∃m:Nat,n= -(m:Int):=⟨n.natAbs,by omega⟩
   rw[Ak (by omega),P0,Int.natAbs_neg,Int.natAbs_natCast];rfl
 · obtain⟨m,rfl⟩:∃m:Nat,n=m:=⟨n.toNat,by omega⟩
   rw[dB,L7,Int.natAbs_natCast]
theorem oF(n:Int):eJ (zed n)=true:=by
 unfold eJ;rw[gY,oP,kM];simp only[Bool.true_and,Bool.not_eq_true',Bool.and_eq_false_iff,decide_eq_false_iff_not];by_cases h:n<0
 · right
   refine mE.2 fun e=>?_
   rw[oS]at e;omega
 · left;exact h
theorem bY(n:Int):fL (zed n)=n:=by
 unfold fL;rw[gY,oP,bT];split
 · rename_i h;simp only[decide_eq_true_eq]at h;omega
 · rename_i h;simp only[decide_eq_true_eq]at h;omega
theorem qP{s:ByteArray}(h:eJ s=true):zed (fL s)=s:=by
 unfold eJ at h;simp only[Bool.and_eq_true,Bool.not_eq_true',Bool.and_eq_false_iff]at h;obtain⟨h1,h2⟩:=h;have hd:=iV h1;unfold fL;by_cases hm:eF s=true
 · have h3 : dN s ≠ dec 0 := by
     rcases h2 with h2|h2
     · rw[hm]at h2;cases h2
     · exact mE.1 h2
   rw[if_pos hm];have hv:1≤dT (dN s):=by
     rcases Nat.eq_zero_or_pos (dT (dN s))with h4|h4
     · exact absurd (by rw[←hd,h4]) h3
     · exact h4
   rw[Ak hv];refine jR ?_;rw[iN,←gQ,hd];unfold dN;rw[if_pos hm,iN];unfold eF at hm;cases hb:bl s with
   | nil=>rw[hb]at hm;cases hm
   | cons c r=>
     rw[hb]at hm;simp only[List.head?_cons,beq_iff_eq,Option.some.injEq]at hm;subst hm;rfl
 · rw[if_neg hm,dB,hd]
   unfold dN;rw[if_neg hm]
theorem VU{m n:Int}:zed m=zed n↔m=n:=⟨fun h=>by rw[←bY m,h,bY],fun h=>by rw[h]⟩
def szZ(n:Int):ByteArray×Int:=if n.natAbs<cG then(zed n,0)else(emp,4)
def iX(a b:ByteArray):Int:=if(!eJ a|| !eJ b)=true then 3 else if(decide ((dN a).size>4096)||decide ((dN b).size>4096))=true then 4 else 0
def EM(a b:ByteArray):ByteArray×Int:=if iX a b=0 then szZ (fL a+fL b)else(emp,iX a b)
def Rq(a b:ByteArray):ByteArray×Int:=if iX a b=0 then szZ (fL a-fL b)else(emp,iX a b)
def sQ(a b:ByteArray):ByteArray×Int:=if iX a b=0 then szZ (fL a*fL b)else(emp,iX a b)
def rJ(a b:ByteArray):ByteArray×ByteArray×Int:=if iX a b=0 then(if fL b=0 then(emp,emp,10)else(zed ((fL a).fdiv (fL b)),zed ((fL a).fmod (fL b)),0))else(emp,emp,iX a b)
def gM(a b:Int):Int:=if a<b then -1 else if b<a then 1 else 0
def Jc(a b:ByteArray):Int:=if eJ a=true∧eJ b=true then gM (fL a) (fL b)else 0
def FI(a:ByteArray):Int:=if eJ a=true then(fL a).sign else 0
theorem nO{m n:Int}(hm:m.natAbs<cG)(hn:n.natAbs<cG):iX (zed m) (zed n)=0:=by
 unfold iX;rw[oF,oF,gY,gY];have:=(gW m.natAbs).2 hm;have:=(gW n.natAbs).2 hn;simp;omega
theorem nG{a b:ByteArray}(h:iX a b=0):∃m n:Int,a=zed m∧b=zed n∧m.natAbs<cG∧n.natAbs<cG:=by
 unfold iX at h;split at h
 · cases h
 · rename_i h1
   split at h
   · cases h
   · rename_i h2
     simp only[Bool.or_eq_true,Bool.not_eq_true',not_or,Bool.not_eq_false,decide_eq_true_eq,Nat.not_lt]at h1 h2;have ea:=qP h1.1;have eb:=qP h1.2;refine⟨fL a,fL b,ea.symm,eb.symm,?_,?_⟩
     · have:=h2.1
       rw[←ea,gY]at this;exact(gW _).1 this
     · have:=h2.2
       rw[←eb,gY]at this;exact(gW _).1 this
end Go.Nu
end

section
set_option linter.unusedSimpArgs false
set_option linter.unusedVariables false
namespace Go.Nu
open Go Go.Lib
def dG:UInt8:=47
def jV(s:ByteArray):Bool:=(bl s).any (· == dG)
def fS(s:ByteArray):ByteArray:=⟨((bl s).takeWhile (· != dG)).toArray⟩
def fI(s:ByteArray):ByteArray:=if jV s=true then⟨(((bl s).dropWhile (· != dG)).drop 1).toArray⟩else dec 1
def bS(s:ByteArray):Bool:=(eJ (fS s)&&dF (fI s)&&decide ((dN (fS s)).size≤4096)&&decide ((fI s).size≤4096)) &&
 (!jV s||(!eqB (fI s) (dec 0)&& !eqB (fI s) (dec 1)&& !eqB (fS s) (dec 0)&&Nat.gcd (fL (fS s)).natAbs (dT (fI s)) == 1))
def lF(s:ByteArray):Rat:=mkRat (fL (fS s)) (dT (fI s))
def slB:ByteArray:=⟨#[47]⟩
def gO(x:Rat):ByteArray:=if x.den=1 then zed x.num else zed x.num++slB++dec x.den
def mS(x:Rat):Prop:=x.num.natAbs<cG∧x.den<cG
theorem uX{α:Type}{p:α→Bool}:∀{l:List α},(∀c∈l,p c=true)→l.takeWhile p=l
 | [],_=>rfl
 | a::l,h=>by rw[List.takeWhile_cons,if_pos (h a (by simp)),uX fun c hc=>h c (by simp[hc])]
theorem BC{α:Type}{p:α→Bool}:∀{l:List α} {c:α},c∈l.takeWhile p→p c=true
 | [],c,h=>by simp at h
 | a::l,c,h=>by
   rw[List.takeWhile_cons]at h;split at h
   · rename_i ha
     rcases List.mem_cons.1 h with rfl|h
     · exact ha
     · exact BC h
   · cases h
theorem Lb{c:UInt8}(h:isD c=true):(c != dG)=true:=by
 have:=lB.1 h;simp only[bne_iff_ne,ne_eq];intro e;rw[e]at this;simp[dG]at this
theorem B6(n:Nat):∀c∈decDigits n,(c != dG)=true:=fun c hc=>Lb (List.all_eq_true.1 (rY n) c hc)
theorem pY(n:Int):∀c∈itoa n,(c != dG)=true:=by
 intro c hc;unfold itoa at hc;split at hc
 · rcases List.mem_cons.1 hc with rfl|hc
   · decide
   · exact B6 _ c hc
 · exact B6 _ c hc
theorem D4(n:Int):bl (zed n)=itoa n:=iN _
theorem ZF:bl slB=[dG]:=rfl
theorem Gk{l r:List UInt8}(h:∀c∈l,(c != dG)=true):(l++dG::r).takeWhile (· != dG)=l:=by
 rw[List.takeWhile_append_of_pos h];simp
theorem F1{l r:List UInt8}(h:∀c∈l,(c != dG)=true):(l++dG::r).dropWhile (· != dG)=dG::r:=by
 rw[List.dropWhile_append_of_pos h];simp
theorem Uk{l:List UInt8}(h:∀c∈l,(c != dG)=true):l.any (· == dG)=false:=by
 rw[List.any_eq_false];intro c hc e;have:=h c hc;simp at this e;exact this e
theorem rM(x:Rat):bl (gO x)=if x.den=1 then itoa x.num else itoa x.num++dG::decDigits x.den:=by
 unfold gO;split
 · exact D4 _
 · rw[kV,kV,D4,gQ,ZF];simp
theorem DH(x:Rat):jV (gO x)= !(x.den == 1):=by
 unfold jV;rw[rM];split
 · rename_i h;rw[Uk (pY _),h];rfl
 · rename_i h
   rw[List.any_append];simp[h]
theorem Fh(x:Rat):fS (gO x)=zed x.num:=by
 refine jR ?_;unfold fS;rw[iN,rM,D4];split
 · exact uX (pY _)
 · exact Gk (pY _)
theorem Gg(x:Rat):fI (gO x)=dec x.den:=by
 unfold fI;rw[DH,rM];by_cases h:x.den=1
 · simp[h]
 · simp only[h,beq_eq_false_iff_ne.2 h,Bool.not_false,if_true,if_false]
   rw[F1 (pY _)];rfl
theorem dU(x:Rat):lF (gO x)=x:=by
 unfold lF;rw[Fh,Gg,bY,bT,Rat.mkRat_self]
theorem oW(n:Int):(dN (zed n)).size≤4096↔n.natAbs<cG:=by rw[gY];exact gW _
theorem kI{x:Rat}(h:mS x):bS (gO x)=true:=by
 unfold bS;rw[Fh,Gg,oF,kM,DH,bY,bT];simp only[Bool.true_and,Bool.and_eq_true,decide_eq_true_eq,Bool.or_eq_true,Bool.not_not,beq_iff_eq,Bool.not_eq_true',mE,ne_eq];refine⟨⟨(oW _).2 h.1,(gW _).2 h.2⟩,?_⟩;by_cases h1:x.den=1
 · exact .inl h1
 · refine .inr ⟨⟨⟨?_,?_⟩,?_⟩,x.reduced⟩
   · rw[oS];exact x.den_nz
   · rw[oS];exact h1
   · rw[←dB,VU]
     intro h0;apply h1;have:=x.reduced;rw[h0]at this;simpa[Nat.Coprime]using this
theorem fN{s:ByteArray}(h:bS s=true):∃x:Rat,s=gO x∧mS x∧fS s=zed x.num∧fI s=dec x.den:=by
 unfold bS at h;simp only[Bool.and_eq_true,decide_eq_true_eq,Bool.or_eq_true,Bool.not_eq_true',mE,ne_eq,beq_iff_eq]at h;obtain⟨⟨⟨⟨h1,h2⟩,h3⟩,h4⟩,h5⟩:=h;have ep:=qP h1;have eq:=iV h2;have hcop:(fL (fS s)).natAbs.Coprime (dT (fI s))∧dT (fI s)≠0:=by
   rcases h5 with h5|⟨⟨⟨h6,_⟩,_⟩,h7⟩
   · have e1:fI s=dec 1:=by unfold fI;rw[if_neg (by rw[h5];simp)]
     rw[e1,bT];exact⟨Nat.coprime_one_right _,by omega⟩
   · exact⟨h7,fun e=>h6 (by rw[←eq,e])⟩
 let x:Rat:=⟨fL (fS s),dT (fI s),hcop.2,hcop.1⟩
 have e1:fS s=zed x.num:=ep.symm;have e2:fI s=dec x.den:=eq.symm;refine⟨x,jR ?_,⟨?_,?_⟩,e1,e2⟩
 · rw[rM]
   have hn:bl (fS s)=(bl s).takeWhile (· != dG):=iN _;rw[e1,D4]at hn;by_cases hs:jV s=true
   · have hd:bl (fI s)=((bl s).dropWhile (· != dG)).drop 1:=by unfold fI;rw[if_pos hs,iN]
     rw[e2,gQ]at hd;have hx:x.den≠1:=fun e=>by
       rcases h5 with h5|⟨⟨⟨_,h6⟩,_⟩,_⟩
       · rw[hs]at h5;cases h5
       · exact h6 (by rw[e2,e])
     rw[if_neg hx,hn,hd]
     conv=>lhs;rw[←List.takeWhile_append_dropWhile (p:=(· != dG)) (l:=bl s)]
     congr 1
     cases hw:(bl s).dropWhile (· != dG)with
     | nil=>
       exfalso
       unfold jV at hs;obtain⟨c,hc,hcs⟩:=List.any_eq_true.1 hs;rw[←List.takeWhile_append_dropWhile (p:=(· != dG)) (l:=bl s),hw,List.append_nil]at hc;have:=BC hc;simp at this hcs;exact this hcs
     | cons c r=>
       have h0:(c != dG)=false:=by
         have:=List.head?_dropWhile_not (p:=(· != dG)) (l:=bl s);rw[hw]at this;simpa using this
       have:c=dG:=by simpa using h0
       rw[this];rfl
   · have hs:jV s=false:=by simpa using hs
     have hx:x.den=1:=by
       have:fI s=dec 1:=by unfold fI;rw[hs];rfl
       rw[e2]at this;exact oS.1 this
     rw[if_pos hx,hn]
     symm
     refine uX ?_;intro c hc;unfold jV at hs;rw[List.any_eq_false]at hs;have:=hs c hc;simp at this ⊢;exact this
 · rw[e1]at h3;exact(oW _).1 h3
 · rw[e2]at h4;exact(gW _).1 h4
theorem BL{s:ByteArray}(h:bS s=true):gO (lF s)=s:=by
 obtain⟨x,rfl,_⟩:=fN h;rw[dU]
theorem TZ{x y:Rat}:gO x=gO y↔x=y:=⟨fun h=>by rw[←dU x,h,dU],fun h=>by rw[h]⟩
def nQ(n:Int):Bool:= !decide (n.natAbs<cG)
def zF(x y:Rat):ByteArray×Int:=if(nQ (x.num*y.den)||nQ (y.num*x.den)||nQ (x.num*y.den+y.num*x.den)||nQ (x.den*y.den))=true then(emp,4)else(gO (x+y),0)
def qR(a b:ByteArray):ByteArray×Int:=if(bS a&&bS b)=true then zF (lF a) (lF b)else(emp,3)
def pZ(a b:ByteArray):ByteArray×Int:=if(bS a&&bS b)=true then zF (lF a) (-lF b)else(emp,3)
def JG(x y:Rat):Int:=if x<y then -1 else if y<x then 1 else 0
def qD(a b:ByteArray):Int:=if(bS a&&bS b)=true then JG (lF a) (lF b)else 0
end Go.Nu
end

section
set_option linter.unusedSimpArgs false
set_option linter.unusedVariables false
namespace Go.Nu
open Go Go.Lib
theorem Ja{n:Int}{d:Nat}(hd:d≠0):n.fdiv (Nat.gcd n.natAbs d:Nat)=(mkRat n d).num:=by
 rw[Rat.num_mkRat,if_neg hd,Nat.gcd_comm];exact Int.fdiv_eq_ediv_of_nonneg _ (by omega)
theorem IS{n:Int}{d:Nat}(hd:d≠0):(d:Int).fdiv (Nat.gcd n.natAbs d:Nat)=((mkRat n d).den:Int):=by
 rw[Rat.den_mkRat,if_neg hd,Nat.gcd_comm,Int.fdiv_eq_ediv_of_nonneg _ (by omega)];rfl
theorem DA{n:Int}{d:Nat}(hd:d≠0)(hn:n.natAbs<cG)(hd2:d<cG):mS (mkRat n d):=by
 constructor
 · rw[Rat.num_mkRat,if_neg hd]
   have:(n/((d.gcd n.natAbs:Nat):Int)).natAbs≤n.natAbs:=by
     rw[Int.natAbs_ediv_of_dvd]
     · exact Nat.div_le_self _ _
     · exact Int.ofNat_dvd_left.2 (Nat.gcd_dvd_right _ _)
   omega
 · rw[Rat.den_mkRat,if_neg hd]
   exact Nat.lt_of_le_of_lt (Nat.div_le_self _ _) hd2
theorem IJ{n:Int}{d:Nat}(hd:d≠0):0<Nat.gcd n.natAbs d:=Nat.gcd_pos_of_pos_right _ (by omega)
theorem GP{n:Int}{d:Nat}(hd:d≠0)(h:d<cG):Nat.gcd n.natAbs d<cG:=Nat.lt_of_le_of_lt (Nat.gcd_le_right _ (by omega)) h
theorem jM{n:Int}:nQ n=false↔n.natAbs<cG:=by simp[nQ]
theorem D3(x y:Rat):x+y=mkRat (x.num*y.den+y.num*x.den) (x.den*y.den):=Rat.add_def' x y
theorem CH(x y:Rat):((x.den:Int)*y.den).natAbs=x.den*y.den:=by rw[Int.natAbs_mul,Int.natAbs_natCast,Int.natAbs_natCast]
theorem ID(x y:Rat):x.den*y.den≠0:=Nat.mul_ne_zero x.den_nz y.den_nz
theorem Od{x y:Rat}(h:(zF x y).2=0):zF x y=(gO (x+y),0)∧mS (x+y):=by
 unfold zF at h ⊢;split at h
 · cases h
 · rename_i hb
   rw[if_neg hb];simp only[Bool.or_eq_true,not_or,Bool.not_eq_true,jM]at hb;exact⟨rfl,by rw[D3];exact DA (ID x y) hb.1.2 (by rw[←CH];exact hb.2)⟩
theorem OC{x y:Rat}(h1:(x.num*y.den).natAbs<cG)(h2:(y.num*x.den).natAbs<cG)(h3:(x.num*y.den+y.num*x.den).natAbs<cG)(h4:x.den*y.den<cG):zF x y=(gO (x+y),0):=by
 unfold zF;rw[if_neg];simp only[Bool.or_eq_true,not_or,Bool.not_eq_true,jM];exact⟨⟨⟨h1,h2⟩,h3⟩,by rw[CH];exact h4⟩
def EN(p q r s:Int):Int:=gM (p*s) (r*q)
theorem nJ{p q:Int}(hq:0<q):p=p.fdiv q*q+p.fmod q∧0≤p.fmod q∧p.fmod q<q:=
 ⟨by rw[Int.mul_comm];exact(Int.mul_fdiv_add_fmod p q).symm,Int.fmod_nonneg_of_pos _ hq,Int.fmod_lt_of_pos _ hq⟩
theorem iG{a b:Int}(h:a<b):gM a b= -1:=if_pos h
theorem iK{a b:Int}(h:b<a):gM a b=1:=by unfold gM;rw[if_neg (by omega),if_pos h]
theorem nH{a b:Int}(h:a=b):gM a b=0:=by unfold gM;rw[if_neg (by omega),if_neg (by omega)]
theorem Bx{a b:Int}:gM a b=0↔a=b:=by
 unfold gM;constructor
 · intro h
   split at h
   · cases h
   · split at h
     · cases h
     · omega
 · intro h;rw[if_neg (by omega),if_neg (by omega)]
theorem QR(a b:Int):gM b a= -gM a b:=by
 rcases Int.lt_trichotomy a b with h|h|h
 · rw[iG h,iK h];rfl
 · rw[nH h,nH h.symm];rfl
 · rw[iK h,iG h]
theorem KY{p q r s:Int}(hq:0<q)(hs:0<s)(h:p.fdiv q<r.fdiv s):p*s<r*q:=by
 obtain⟨e1,a1,b1⟩:=nJ (p:=p) hq;obtain⟨e2,a2,b2⟩:=nJ (p:=r) hs;have h1:p*s<(p.fdiv q+1)*q*s:=by
   refine Int.mul_lt_mul_of_pos_right ?_ hs;rw[Int.add_mul];omega
 have h2:(p.fdiv q+1)*q*s≤r.fdiv s*q*s:=Int.mul_le_mul_of_nonneg_right (Int.mul_le_mul_of_nonneg_right (by omega) (by omega)) (by omega);have h3:r.fdiv s*q*s≤r*q:=by
   rw[Int.mul_right_comm];exact Int.mul_le_mul_of_nonneg_right (by omega) (by omega)
 omega
theorem C7{p q r s:Int}(hq:0<q)(hs:0<s)(h:p.fdiv q≠r.fdiv s):EN p q r s=gM (p.fdiv q) (r.fdiv s):=by
 unfold EN;rcases Int.lt_or_gt_of_ne h with h|h
 · rw[iG h,iG (KY hq hs h)]
 · rw[iK h,iK (KY hs hq h)]
theorem Fj{p q r s:Int}(hq:0<q)(hs:0<s)(h:p.fdiv q=r.fdiv s):EN p q r s=gM (p.fmod q*s) (r.fmod s*q):=by
 obtain⟨e1,_,_⟩:=nJ (p:=p) hq;obtain⟨e2,_,_⟩:=nJ (p:=r) hs;unfold EN;have h1:p*s=p.fdiv q*q*s+p.fmod q*s:=by
   conv=>lhs;rw[e1]
   rw[Int.add_mul]
 have h2:r*q=p.fdiv q*q*s+r.fmod s*q:=by
   conv=>lhs;rw[e2]
   rw[Int.add_mul,←h,Int.mul_right_comm]
 rw[h1,h2];unfold gM;have c1:(p.fdiv q*q*s+p.fmod q*s<p.fdiv q*q*s+r.fmod s*q)↔p.fmod q*s<r.fmod s*q:=by omega
 have c2:(p.fdiv q*q*s+r.fmod s*q<p.fdiv q*q*s+p.fmod q*s)↔r.fmod s*q<p.fmod q*s:=by omega
 simp only[c1,c2]
theorem FH(x q y s:Int):gM (x*s) (y*q)= -EN q x s y:=by
 unfold EN;rw[Int.mul_comm q y,Int.mul_comm s x];exact QR _ _
theorem Vb(x y:Rat):JG x y=EN x.num x.den y.num y.den:=by
 unfold JG EN gM;simp only[Rat.lt_iff]
end Go.Nu
end

section
set_option linter.unusedSimpArgs false
set_option linter.unusedVariables false
namespace Go.Nu
open Go Go.Lib
theorem qI(b:Nat)(l:List Nat)(k:Nat):ofL b (l.take (k+1))=ofL b (l.take k)+b^k*l.getD k 0:=by
 cases h:l[k]? with
 | none=>
   have hk:=List.getElem?_eq_none_iff.1 h;rw[List.take_of_length_le (by omega),List.take_of_length_le (by omega)];simp[List.getD,h]
 | some x=>rw[jT b h];simp[List.getD,h]
theorem Lim.getD{b:Nat}(hb:0<b){l:List Nat}(h:Lim b l)(k:Nat):l.getD k 0<b:=by
 cases h':l[k]? with
 | none=>simpa[List.getD,h']using hb
 | some x=>simpa[List.getD,h']using h x (List.mem_of_getElem? h')
theorem Lim.snoc{b:Nat}{l:List Nat}(h:Lim b l){x:Nat}(hx:x<b):Lim b (l++[x]):=fun y hy=>by
 rcases List.mem_append.1 hy with hy|hy
 · exact h y hy
 · rw[List.mem_singleton.1 hy];exact hx
theorem Lim.set{b:Nat}{l:List Nat}(h:Lim b l){x k:Nat}(hx:x<b):Lim b (l.set k x):=fun y hy=>by
 rcases List.mem_or_eq_of_mem_set hy with hy|rfl
 · exact h y hy
 · exact hx
theorem Lim.take{b:Nat}{l:List Nat}(h:Lim b l)(k:Nat):Lim b (l.take k):=fun y hy=>h y (List.mem_of_mem_take hy)
theorem Lim.drop{b:Nat}{l:List Nat}(h:Lim b l)(k:Nat):Lim b (l.drop k):=fun y hy=>h y (List.mem_of_mem_drop hy)
theorem Lim.zeros{b:Nat}(hb:0<b)(n:Nat):Lim b (List.replicate n 0):=fun y hy=>by
 rw[(List.mem_replicate.1 hy).2];exact hb
theorem wE(b:Nat){l:List Nat}{k x:Nat}(h:l[k]?=some x):ofL b (l.drop k)=x+b*ofL b (l.drop (k+1)):=by
 obtain⟨hk,hx⟩:=List.getElem?_eq_some_iff.1 h;rw[List.drop_eq_getElem_cons hk,hx,ofL]
theorem N2{b : Nat}(hb : 0 < b){l o : List Nat}{i n k c : Nat}(hn : l[i]? = some n)(hl : o.length = i)(h : ofL b o + b ^ i * c = ofL b (l.take i) * k):
   ofL b (o++[(n*k+c)%b])+b^(i+1)*((n*k+c)/b)=ofL b (l.take (i+1))*k:=by
 rw[rF,jT b hn,hl,Nat.pow_succ];have e:=Nat.mod_add_div (n*k+c) b;have e2:b^i*((n*k+c)%b+b*((n*k+c)/b))=b^i*(n*k+c):=by rw[e]
 grind
theorem LK{b : Nat}(hb : 0 < b){x y o : List Nat}{i c : Nat}(hl : o.length = i)(h : ofL b o + b ^ i * c = ofL b (x.take i) + ofL b (y.take i)):
   ofL b (o++[(x.getD i 0+y.getD i 0+c)%b])+b^(i+1)*((x.getD i 0+y.getD i 0+c)/b)=ofL b (x.take (i+1))+ofL b (y.take (i+1)):=by
 rw[rF,qI,qI,hl,Nat.pow_succ];have e:=Nat.mod_add_div (x.getD i 0+y.getD i 0+c) b;have e2:b^i*((x.getD i 0+y.getD i 0+c)%b+b*((x.getD i 0+y.getD i 0+c)/b))=b^i*(x.getD i 0+y.getD i 0+c):=by rw[e]
 grind
theorem zA{b : Nat}{x y o : List Nat}{i c c' d : Nat}(hl : o.length = i)(h : ofL b o + ofL b (y.take i) = ofL b (x.take i) + b ^ i * c)(hd : d + y.getD i 0 + c = x.getD i 0 + b * c'):
   ofL b (o++[d])+ofL b (y.take (i+1))=ofL b (x.take (i+1))+b^(i+1)*c':=by
 rw[rF,qI,qI,hl,Nat.pow_succ];have e2:b^i*(d+y.getD i 0+c)=b^i*(x.getD i 0+b*c'):=by rw[hd]
 grind
theorem Ch{b x y c:Nat}(hx:x<b)(hy:y<b)(hc:c≤1):(if(x:Int)-y-c<0 then(x:Int)-y-c+b else(x:Int)-y-c)=((if x<y+c then x+b-(y+c)else x-(y+c):Nat):Int):=by
 split <;> split <;> omega
theorem uA{b x y c:Nat}(hx:x<b)(hy:y<b)(hc:c≤1):(if x<y+c then x+b-(y+c)else x-(y+c))+y+c=x+b*(if x<y+c then 1 else 0)∧(if x<y+c then x+b-(y+c)else x-(y+c))<b:=by
 split <;> constructor <;> omega
theorem A9{b : Nat}(hb : 2 ≤ b){x y o : List Nat}{c : Nat}(ho : Lim b o)(hx : Lim b x)(hl : o.length = x.length)(hyl : y.length ≤ x.length)(hle : ofL b y ≤ ofL b x)(hc : c ≤ 1)(h : ofL b o + ofL b (y.take x.length) = ofL b (x.take x.length) + b ^ x.length * c):
   c=0∧ofL b o=ofL b x-ofL b y:=by
 rw[List.take_of_length_le hyl,List.take_length]at h;have h1:=jA (by omega) ho;rw[hl]at h1;rcases Nat.eq_zero_or_pos c with hc0|hc0
 · subst hc0;rw[Nat.mul_zero]at h;omega
 · have:c=1:=by omega
   subst this;rw[Nat.mul_one]at h;omega
theorem Jp{b : Nat}(hb : 0 < b){y out out0 : List Nat}{i k x c v yk : Nat}(hv : out[i + k]? = some v)(hy : y[k]? = some yk)(h : ofL b out + b ^ (i + k) * c = ofL b out0 + b ^ i * (x * ofL b (y.take k))):
   ofL b (out.set (i+k) ((v+x*yk+c)%b))+b^(i+(k+1))*((v+x*yk+c)/b)=ofL b out0+b^i*(x*ofL b (y.take (k+1))):=by
 have h1:=Hk b out (i+k) v ((v+x*yk+c)%b) hv;have e:=Nat.mod_add_div (v+x*yk+c) b;have e2:b^(i+k)*((v+x*yk+c)%b+b*((v+x*yk+c)/b))=b^(i+k)*(v+x*yk+c):=by rw[e]
 rw[jT b hy,show i+(k+1)=(i+k)+1 by omega,Nat.pow_succ];have e3:b^(i+k)=b^i*b^k:=Nat.pow_add b i k
 grind
theorem PN{b : Nat}{y out out0 : List Nat}{i x c : Nat}(hv : out[i + y.length]? = some 0)(h : ofL b out + b ^ (i + y.length) * c = ofL b out0 + b ^ i * (x * ofL b (y.take y.length))):
   ofL b (out.set (i+y.length) c)=ofL b out0+b^i*(x*ofL b y):=by
 have h1:=Hk b out (i+y.length) 0 c hv;rw[List.take_length]at h;rw[←h];omega
theorem LB{b r a : Nat}(hb : 2 ≤ b){l : List Nat}{i x : Nat}{qs : List Nat}(hx : l[i]? = some x)(hxb : x < b)(hr : r < a)(hq : i < qs.length)(h : ofL b (l.drop (i + 1)) = ofL b (qs.drop (i + 1)) * a + r):
   ofL b (l.drop i)=ofL b ((qs.set i ((x+b*r)/a)).drop i)*a+(x+b*r)%a∧(x+b*r)/a<b∧(x+b*r)%a<a:=by
 have ha:0<a:=by omega
 have hs:(qs.set i ((x+b*r)/a))[i]?=some ((x+b*r)/a):=by simp[hq]
 refine⟨?_,?_,Nat.mod_lt _ ha⟩
 · rw[wE b hx,wE b hs,h,List.drop_set_of_lt (by omega)]
   have e:=Nat.mod_add_div (x+b*r) a
   grind
 · rw[Nat.div_lt_iff_lt_mul ha]
   have:b*(r+1)≤b*a:=Nat.mul_le_mul_left _ hr;rw[Nat.mul_add]at this;omega
theorem XY{q r a n:Nat}(hr:r<a)(h:n=q*a+r):q=n/a∧r=n%a:=by
 subst h;have ha:0<a:=by omega
 constructor
 · rw[Nat.add_comm,Nat.add_mul_div_right _ _ ha,Nat.div_eq_of_lt hr,Nat.zero_add]
 · rw[Nat.add_comm,Nat.add_mul_mod_self_right,Nat.mod_eq_of_lt hr]
end Go.Nu
end

section
set_option linter.unusedSimpArgs false
set_option linter.unusedVariables false
namespace Go.Nu
open Go Go.Lib
theorem UK(l:List UInt8):∀a:Nat,l.foldl (fun a c=>10*a+(c.toNat-48)) a=a*10^l.length+gF l:=by
 induction l with
 | nil=>intro a;simp[gF]
 | cons c l ih=>
   intro a;have h1:=ih (10*a+(c.toNat-48));have h2:=ih (10*0+(c.toNat-48));simp only[List.foldl_cons,gF]at h1 h2 ⊢;rw[h1,h2,List.length_cons,Nat.pow_succ]
   grind
theorem rL(a b:List UInt8):gF (a++b)=gF a*10^b.length+gF b:=by
 rw[gF,List.foldl_append];exact UK b _
theorem CL{l:List UInt8}(h:l.all isD=true):gF l<10^l.length:=by
 induction l using CU with
 | h0=>simp[gF]
 | h1 l c ih=>
   rw[List.all_append]at h;simp only[Bool.and_eq_true,List.all_cons,List.all_nil,Bool.and_true]at h;have:=ih h.1;have hc:=lB.1 h.2;rw[lU,List.length_append,List.length_cons,List.length_nil,Nat.pow_succ];omega
def Ke:Nat→Nat→List UInt8
 | 0,_=>[]
 | k+1,x=>Ke k (x/10)++[UInt8.ofNat (48+x%10)]
theorem FO:∀(k x m:Nat),x<10^k→m≠0→decDigits (x+10^k*m)=decDigits m++Ke k x
 | 0,x,m,hx,hm=>by
   have:x=0:=by simpa using hx
   subst this;simp[Ke]
 | k+1,x,m,hx,hm=>by
   rw[Nat.pow_succ]at hx;have h1:10^(k+1)*m=10*(10^k*m):=by rw[Nat.pow_succ,Nat.mul_comm (10^k) 10,Nat.mul_assoc]
   have hp:0<10^k*m:=Nat.mul_pos (Nat.pow_pos (by omega)) (by omega);rw[h1,decDigits,dif_neg (by omega),show(x+10*(10^k*m))/10=x/10+10^k*m by omega,show(x+10*(10^k*m))%10=x%10 by omega,FO k (x/10) m (by omega) hm,Ke,List.append_assoc]
theorem QS(k:Nat):Ke k 0=List.replicate k 48:=by
 induction k with
 | zero=>rfl
 | succ k ih=>
   rw[Ke,Nat.zero_div,ih,List.replicate_succ'];rfl
theorem Ox:∀(k x:Nat),1≤k→x<10^k→Ke k x=List.replicate (k-(decDigits x).length) 48++decDigits x
 | 0,x,hk,hx=>by omega
 | k+1,x,hk,hx=>by
   rw[Ke];by_cases h9:x<10
   · rw[show x/10=0 by omega,QS,decDigits_one h9]
     simp[Nat.mod_eq_of_lt h9]
   · have hk1 : 1 ≤ k := by
       rcases Nat.eq_zero_or_pos k with h|h
       · subst h;simp at hx;omega
       · exact h
     rw[Nat.pow_succ]at hx;rw[Ox k (x/10) hk1 (by omega)]
     conv=>rhs;rw[decDigits,dif_neg h9]
     rw[List.length_append,List.length_cons,List.length_nil,List.append_assoc,show k+1-((decDigits (x/10)).length+(0+1))=k-(decDigits (x/10)).length by omega]
def acZ(x:Nat):List UInt8:=List.replicate (9-(decDigits x).length) 48++decDigits x
theorem UC{x m:Nat}(hx:x<1000000000)(hm:m≠0):decDigits (x+1000000000*m)=decDigits m++acZ x:=by
 have:=FO 9 x m hx hm;rw[Ox 9 x (by omega) hx]at this;exact this
theorem Vu{b:Nat}(hb:2≤b){n k:Nat}(hk:k<(aM b n).length):ofL b ((aM b n).drop k)≠0:=by
 intro h;have hn:n≠0:=fun e=>by subst e;rw[dC]at hk;simp at hk
 have h1:=MI hb hn;have h2:ofL b (aM b n)=ofL b ((aM b n).take k)+b^k*ofL b ((aM b n).drop k):=by
   have:=oM b ((aM b n).take k) ((aM b n).drop k);rw[List.take_append_drop,List.length_take,Nat.min_eq_left (by omega)]at this;exact this
 rw[cF hb,h,Nat.mul_zero,Nat.add_zero]at h2;have h3:=jA (b:=b) (by omega) ((bZ hb n).take k);rw[List.length_take,Nat.min_eq_left (by omega),←h2]at h3;have:b^k≤b^((aM b n).length-1):=Nat.pow_le_pow_right (by omega) (by omega);omega
def dl(l:List UInt8):List Nat:=(l.map fun c=>c.toNat-48).reverse
theorem EA(l:List UInt8):(dl l).length=l.length:=by simp[dl]
theorem N3(l:List UInt8):ofL 10 (dl l)=gF l:=by
 induction l using CU with
 | h0=>rfl
 | h1 l c ih=>
   rw[lU,←ih];simp only[dl,List.map_append,List.map_cons,List.map_nil,List.reverse_append,List.reverse_cons,List.reverse_nil,List.nil_append,List.singleton_append,ofL];omega
theorem Ob{l:List UInt8}(h:l.all isD=true):Lim 10 (dl l):=by
 intro x hx;simp only[dl,List.mem_reverse,List.mem_map]at hx;obtain⟨c,hc,rfl⟩:=hx;have:=lB.1 (List.all_eq_true.1 h c hc);omega
def txt(l:List Nat):List UInt8:=(l.map fun x=>UInt8.ofNat (48+x)).reverse
theorem V9{l:List Nat}(h:Lim 10 l):(txt l).all isD=true:=by
 rw[List.all_eq_true];intro c hc;simp only[txt,List.mem_reverse,List.mem_map]at hc;obtain⟨x,hx,rfl⟩:=hc;have:=h x hx;rw[lB,lW this];omega
theorem Z0{l:List Nat}(h:Lim 10 l):dl (txt l)=l:=by
 simp only[dl,txt,List.map_reverse,List.reverse_reverse,List.map_map]
 conv=>rhs;rw[←List.map_id l]
 refine List.map_congr_left fun x hx=>?_
 simp only[Function.comp,lW (h x hx),id];omega
theorem SC{l:List Nat}(h:Lim 10 l):gF (txt l)=ofL 10 l:=by rw[←N3,Z0 h]
theorem A8{n:Nat}(hn:n≠0):txt (aM 10 n)=decDigits n:=by
 induction n using Nat.strongRecOn with
 | _ n ih=>
   rw[lR (by omega) hn,decDigits];simp only[txt,List.map_cons,List.reverse_cons];split
   · rename_i h
     rw[show n/10=0 by omega,dC,Nat.mod_eq_of_lt h];rfl
   · rename_i h
     rw[←ih (n/10) (by omega) (by omega)];rfl
end Go.Nu
end
