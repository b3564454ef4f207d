/- Texts joined by a program: NuF, AwLib, NuE, NuH. -/
import Derived.Laws.Strings
import Derived.Test.YtpddaldlebngaaaGreatDoorZp09
import Derived.Test.YtpddaldlebngaaaGreatDoorZp11
import Derived.Test.YtpddaldlebngaaaGreatDoorZp12

section
set_option linter.unusedSimpArgs false
set_option linter.unusedVariables false
namespace Go.Nu
open Go Go.Lib
theorem valL_acc (l:List UInt8):∀ a:Nat,l.foldl (fun a c=>10 * a + (c.toNat - 48)) a=a * 10 ^ l.length + valL l:=by
  induction l with
  | nil=>intro a; simp [valL]
  | cons c l ih=>
    intro a
    have h1:=ih (10 * a + (c.toNat - 48))
    have h2:=ih (10 * 0 + (c.toNat - 48))
    simp only [List.foldl_cons,valL] at h1 h2 ⊢
    rw [h1,h2,List.length_cons,Nat.pow_succ]
    grind
theorem valL_append (a b:List UInt8):valL (a ++ b)=valL a * 10 ^ b.length + valL b:=by
  rw [valL,List.foldl_append]
  exact valL_acc b _
theorem valL_lt {l:List UInt8} (h:l.all isD=true):valL l < 10 ^ l.length:=by
  induction l using snocInd with
  | h0=>simp [valL]
  | h1 l c ih=>
    rw [List.all_append] at h
    simp only [Bool.and_eq_true,List.all_cons,List.all_nil,Bool.and_true] at h
    have:=ih h.1
    have hc:=isD_iff.1 h.2
    rw [valL_snoc,List.length_append,List.length_cons,List.length_nil,Nat.pow_succ]
    omega
def padk:Nat→Nat→List UInt8
  | 0,_=>[]
  | k + 1,x=>padk k (x / 10) ++ [UInt8.ofNat (48 + x % 10)]
theorem dec_split:∀ (k x m:Nat),x < 10 ^ k→m≠0→decDigits (x + 10 ^ k * m)=decDigits m ++ padk k x
  | 0,x,m,hx,hm=>by
    have:x=0:=by simpa using hx
    subst this
    simp [padk]
  | k + 1,x,m,hx,hm=>by
    rw [Nat.pow_succ] at hx
    have h1:10 ^ (k + 1) * m=10 * (10 ^ k * m):=by rw [Nat.pow_succ,Nat.mul_comm (10 ^ k) 10,Nat.mul_assoc]
    have hp:0 < 10 ^ k * m:=Nat.mul_pos (Nat.pow_pos (by omega)) (by omega)
    rw [h1,decDigits,dif_neg (by omega),show (x + 10 * (10 ^ k * m)) / 10=x / 10 + 10 ^ k * m by omega,show (x + 10 * (10 ^ k * m)) % 10=x % 10 by omega,dec_split k (x / 10) m (by omega) hm,padk,List.append_assoc]
theorem padk_zero (k:Nat):padk k 0=List.replicate k 48:=by
  induction k with
  | zero=>rfl
  | succ k ih=>
    rw [padk,Nat.zero_div,ih,List.replicate_succ']
    rfl
theorem padk_eq:∀ (k x:Nat),1≤k→x < 10 ^ k→padk k x=List.replicate (k - (decDigits x).length) 48 ++ decDigits x
  | 0,x,hk,hx=>by omega
  | k + 1,x,hk,hx=>by
    rw [padk]
    by_cases h9:x < 10
    · rw [show x / 10=0 by omega,padk_zero,decDigits_one h9]
      simp [Nat.mod_eq_of_lt h9]
    · have hk1 : 1 ≤ k := by
        rcases Nat.eq_zero_or_pos k with h | h
        · subst h; simp at hx; omega
        · exact h
      rw [Nat.pow_succ] at hx
      rw [padk_eq k (x / 10) hk1 (by omega)]
      conv=>rhs; rw [decDigits,dif_neg h9]
      rw [List.length_append,List.length_cons,List.length_nil,List.append_assoc,show k + 1 - ((decDigits (x / 10)).length + (0 + 1))=k - (decDigits (x / 10)).length by omega]
def padB (x:Nat):List UInt8:=List.replicate (9 - (decDigits x).length) 48 ++ decDigits x
theorem dec_limb {x m:Nat} (hx:x < 1000000000) (hm:m≠0):decDigits (x + 1000000000 * m)=decDigits m ++ padB x:=by
  have:=dec_split 9 x m hx hm
  rw [padk_eq 9 x (by omega) hx] at this
  exact this
theorem drop_pos {b:Nat} (hb:2≤b) {n k:Nat} (hk:k < (limbs b n).length):ofL b ((limbs b n).drop k)≠0:=by
  intro h
  have hn:n≠0:=fun e=>by subst e; rw [limbs_zero] at hk; simp at hk
  have h1:=limbs_last hb hn
  have h2:ofL b (limbs b n)=ofL b ((limbs b n).take k) + b ^ k * ofL b ((limbs b n).drop k):=by
    have:=ofL_append b ((limbs b n).take k) ((limbs b n).drop k)
    rw [List.take_append_drop,List.length_take,Nat.min_eq_left (by omega)] at this
    exact this
  rw [ofL_limbs hb,h,Nat.mul_zero,Nat.add_zero] at h2
  have h3:=ofL_lt (b:=b) (by omega) ((limbs_lim hb n).take k)
  rw [List.length_take,Nat.min_eq_left (by omega),← h2] at h3
  have:b ^ k≤b ^ ((limbs b n).length - 1):=Nat.pow_le_pow_right (by omega) (by omega)
  omega
def dl (l:List UInt8):List Nat:=(l.map fun c=>c.toNat - 48).reverse
theorem dl_len (l:List UInt8):(dl l).length=l.length:=by simp [dl]
theorem ofL_dl (l:List UInt8):ofL 10 (dl l)=valL l:=by
  induction l using snocInd with
  | h0=>rfl
  | h1 l c ih=>
    rw [valL_snoc,← ih]
    simp only [dl,List.map_append,List.map_cons,List.map_nil,List.reverse_append,List.reverse_cons,List.reverse_nil,List.nil_append,List.singleton_append,ofL]
    omega
theorem dl_lim {l:List UInt8} (h:l.all isD=true):Lim 10 (dl l):=by
  intro x hx
  simp only [dl,List.mem_reverse,List.mem_map] at hx
  obtain ⟨c,hc,rfl⟩:=hx
  have:=isD_iff.1 (List.all_eq_true.1 h c hc)
  omega
def txt (l:List Nat):List UInt8:=(l.map fun x=>UInt8.ofNat (48 + x)).reverse
theorem txt_isD {l:List Nat} (h:Lim 10 l):(txt l).all isD=true:=by
  rw [List.all_eq_true]
  intro c hc
  simp only [txt,List.mem_reverse,List.mem_map] at hc
  obtain ⟨x,hx,rfl⟩:=hc
  have:=h x hx
  rw [isD_iff,digit_nat this]
  omega
theorem dl_txt {l:List Nat} (h:Lim 10 l):dl (txt l)=l:=by
  simp only [dl,txt,List.map_reverse,List.reverse_reverse,List.map_map]
  conv=>rhs; rw [← List.map_id l]
  refine List.map_congr_left fun x hx=>?_
  simp only [Function.comp,digit_nat (h x hx),id]
  omega
theorem valL_txt {l:List Nat} (h:Lim 10 l):valL (txt l)=ofL 10 l:=by rw [← ofL_dl,dl_txt h]
theorem txt_limbs {n:Nat} (hn:n≠0):txt (limbs 10 n)=decDigits n:=by
  induction n using Nat.strongRecOn with
  | _ n ih=>
    rw [limbs_pos (by omega) hn,decDigits]
    simp only [txt,List.map_cons,List.reverse_cons]
    split
    · rename_i h
      rw [show n / 10=0 by omega,limbs_zero,Nat.mod_eq_of_lt h]
      rfl
    · rename_i h
      rw [← ih (n / 10) (by omega) (by omega)]
      rfl
end Go.Nu
end

section
set_option linter.unusedSimpArgs false
set_option linter.unusedVariables false
namespace Go.Aw
open Go.RowKit
section
variable {P:Program} {S:Sg} {w:World} {H:Heap} {f:FuncId} {args args':List AV} {K:AV→Heap→Prop}
theorem St.frz (hS:St S w H) (l:List Nat):St (S.froze fun k=>if k∈l then H k else none) w (fun k=>if k∈l then none else H k)∧Grow S w (S.froze fun k=>if k∈l then H k else none) w∧St S w fun k=>if k∈l then H k else none:=by
  let Hf:Heap:=fun k=>if k∈l then H k else none
  let Hr:Heap:=fun k=>if k∈l then none else H k
  have hf:∀ k r',Hf k=some r'→k∈l∧H k=some r':=fun k r' hk=>by
    by_cases e:k∈l
    · exact ⟨e,by simpa [Hf,e] using hk⟩
    · simp [Hf,e] at hk
  have hrr:∀ k r',Hr k=some r'→¬ k∈l∧H k=some r':=fun k r' hk=>by
    by_cases e:k∈l
    · simp [Hr,e] at hk
    · exact ⟨e,by simpa [Hr,e] using hk⟩
  refine ⟨⟨?_,?_,fun k r' hk=>(hS.rows k r' (hrr k r' hk).2).keep (S.le_froze Hf) (Kept.refl S w) (fun _ _=>rfl),?_,fun k k' r1 r2 hk hk' hne g hg hg'=>hS.disj k k' r1 r2 (hrr k r1 hk).2 (hrr k' r2 hk').2 hne g hg hg',hS.tabs.keep (S.le_froze Hf) (Kept.refl S w)⟩,⟨S.le_froze Hf,fun k hk=>.inl hk,rfl,rfl,rfl,Nat.le_refl _,fun _ _=>rfl,?_⟩,hS.drop fun k r' hk=>(hf k r' hk).2⟩
  · rintro g (hg | hg)
    · exact .inl (hS.ro_fz g hg)
    · exact .inr hg
  · rintro g (hg | ⟨k,r',hk,hg⟩)
    · exact hS.fz_lt g hg
    · exact (hS.rows k r' (hf k r' hk).2).block_lt hg
  · rintro k r' hk g hg (h1 | ⟨i,r2,hi,h2⟩)
    · exact hS.free k r' (hrr k r' hk).2 g hg h1
    · exact hS.disj k i r' r2 (hrr k r' hk).2 (hf i r2 hi).2 (fun e=>(hrr k r' hk).1 (e ▸ (hf i r2 hi).1)) g hg h2
  · rintro g (hg | ⟨k,r',hk,hg⟩)
    · exact .inl hg
    · exact .inr (hS.free k r' (hf k r' hk).2 g hg)
theorem FCalls.frz (l:List Nat) (hc:ConvL (fun k=>if k∈l then H k else none) args args') (h:FCalls P f args' (fun k=>if k∈l then none else H k) K):FCalls P f args H K:=by
  intro S w vals hS ha
  obtain ⟨h1,h2,h3⟩:=hS.frz l
  refine (h _ w vals h1 (hc.rep h3 ha)).mono fun e w' ⟨v,r,H',S',he,hr,hS',hv,hg,hn⟩=>⟨v,r,H',S',he,hr,hS',hv,h2.trans hg,fun k hk h0=>hn k hk ?_⟩
  by_cases e:k∈l
  · simp [e]
  · simpa [e] using h0
theorem PC.useF {r:AV} (l:List Nat) (hc:ConvL (fun k=>if k∈l then H k else none) args args') (h:PC P f args' r) (hK:K r (fun k=>if k∈l then none else H k)):FCalls P f args H K:=FCalls.frz l hc (PC.use h hK)
theorem NC.useF {row:Row} {mk:Nat→AV} (l:List Nat) (hc:ConvL (fun k=>if k∈l then H k else none) args args') (h:NC P f args' row mk) (hK:∀ k,(if k∈l then none else H k)=none→K (mk k) (updH (fun k=>if k∈l then none else H k) k (some row))):FCalls P f args H K:=FCalls.frz l hc (NC.use h hK)
theorem PC.lib {a:List Value} {r:AV} {v:Value} (hr:∀ S w,rep S w r v) (h:∀ w,(∀ t∈tabL,varCells w t.1=some t.2)→Calls P f a.toArray w fun e w'=>e=.returned v∧Below w.heap.size w w'):PC P f (a.map .v) r:=by
  intro S w vals hS hf ha
  obtain rfl:vals=a:=by
    clear h
    induction a generalizing vals with
    | nil=>
      cases vals with
      | nil=>rfl
      | cons x r=>simp [repL] at ha
    | cons x a ih=>
      simp only [List.map_cons,repL] at ha
      obtain ⟨u,t,rfl,h1,h2⟩:=ha
      simp only [rep] at h1
      subst h1
      rw [ih t h2]
  refine (h w fun t ht=>(hS.tabs t ht).2).mono fun e w' ⟨he,hb⟩=>?_
  exact ⟨v,r,noRows,S,he,rfl,hS.after hb.size fun k hk=>hb.block k hk,hr S w',hS.grow hb.os hb.tape hb.output hb.size fun k hk=>hb.block k hk,NewK.refl _ _⟩
end
end Go.Aw
end

section
set_option linter.unusedSimpArgs false
set_option linter.unusedVariables false
namespace Go.Proofs.YtpddaldlebngaaaGreatDoor.Nu
open Go.Aw Go.Aw.D Go.Proofs Ty Go.Nu
set_option maxRecDepth 100000
abbrev bas:Nat:=1000000000
def encN (n:Nat):List AV:=[int n]
theorem encN_len (n:Nat):(encN n).length=1:=(rfl)
theorem encN_0 (n:Nat):(encN n).getD 0 .any=int n:=(rfl)
attribute [go_sem] encN_len encN_0
theorem cI {H:Heap} {k:IntKind} {a b:Int} (h:a=b):Conv H (.v (.int k a)) (.v (.int k b)):=h ▸ .refl _
theorem cB {H:Heap} {a b:Bool} (h:a=b):Conv H (.v (.bool a)) (.v (.bool b)):=h ▸ .refl _
theorem cS {H:Heap} {a b:ByteArray} (h:a=b):Conv H (.v (.string a)) (.v (.string b)):=h ▸ .refl _
theorem ltB {k n:Nat} (h:decide ((k:Int) < (n:Int))=true):k < n:=by simpa using h
theorem geB {k n:Nat} (hk:k≤n) (h:decide ((k:Int) < (n:Int))=false):k=n:=by
  have:¬ k < n:=by simpa using h
  omega
theorem tl_bl (s:ByteArray):s.toList=bl s:=ByteArray.toList_eq s
theorem allN (l:List Nat):allLen 1 (l.map encN):=allLen_map encN_len l
theorem da_bl (s:ByteArray) (k:Nat):s.data.getD k 0=(bl s).getD k 0:=by simp [bl,Array.getD_eq_getD_getElem?,List.getD]
theorem lit_bl (a:Array UInt8):bl ⟨a⟩=a.toList:=rfl
attribute [go_sem] tl_bl da_bl lit_bl
theorem all_no {α:Type} {q:α→Bool} {l:List α} {k:Nat} {c:α} (h:l[k]?=some c) (hq:q c=false):l.all q=false:=by
  cases h':l.all q with
  | false=>rfl
  | true=>
    have:=List.all_eq_true.1 h' c (List.mem_of_getElem? h)
    rw [hq] at this; cases this
theorem all_yes {α:Type} {q:α→Bool} {l:List α} (h:∀ c∈l,q c=true):l.all q=true:=List.all_eq_true.2 h
theorem take_all' {α:Type} {p:α→Prop} {l:List α} {k:Nat} {x:α} (hk:l[k]?=some x) (hx:p x) (h:∀ x∈l.take k,p x):∀ x∈l.take (k + 1),p x:=by
  rw [take_succ hk]
  intro y hy
  rcases List.mem_append.1 hy with hy | hy
  · exact h y hy
  · rw [List.mem_singleton.1 hy]; exact hx
theorem u8_eq {c:UInt8} {n:Nat} (hn:n < 256):(((c.toNat:Int) == (n:Int))=true)↔c=UInt8.ofNat n:=by
  rw [beq_iff_eq]
  constructor
  · intro h
    have:c.toNat=n:=by omega
    rw [← this,UInt8.ofNat_toNat]
  · intro h
    rw [h,UInt8.toNat_ofNat']
    omega
theorem right_cond (l:List UInt8):(l == [] || (((l.getD 0 0).toNat:Int) == 48 && !(l == [48])))=!(l != [] && (l.length == 1 || l.getD 0 0 != 48)):=by
  cases l with
  | nil=>rfl
  | cons c r=>
    have hc:(((c.toNat:Int) == 48)=true)↔c=48:=u8_eq (n:=48) (by omega)
    by_cases h:c=48
    · subst h
      cases r <;> rfl
    · have h1 : ((c.toNat : Int) == 48) = false := by
        rw [← Bool.not_eq_true,hc]; exact h
      simp [h1,h]
theorem isD_int (c:UInt8):(decide ((c.toNat:Int) < 48) || decide ((c.toNat:Int) > 57))=!isD c:=by
  unfold isD
  rw [Bool.eq_iff_iff]
  simp only [Bool.or_eq_true,decide_eq_true_eq,Bool.not_eq_true',Bool.and_eq_false_iff,decide_eq_false_iff_not]
  omega
theorem u8w {n:Nat} (h:48≤n) (h2:n < 256):IntKind.u8.wrap ((n:Int) - 48)=((n - 48:Nat):Int):=by
  have e:IntKind.u8.wrap ((n:Int) - 48)=((n:Int) - 48) % 256:=rfl
  rw [e]; omega
theorem getD_at {l:List UInt8} {k:Nat} {c:UInt8} (h:l[k]?=some c):l.getD k 0=c:=by simp [List.getD,h]
theorem nright_c (s:ByteArray) (h:s.size≤4611686018427387904):PC Tryz.prog 86 [str s] (boo (rightN s)):=by
  have hs:=bl_size s
  refine PC.body (c:=Tryz.f86.body.getD .skip) (fun _=>false) mixed Tryz.func86 rfl (by kernel_rfl) ?_
  unfold Tryz.f86
  simp only [Option.getD_some]
  simp only [go_sem]
  refine ⟨fun h0=>⟨by omega,?_⟩,?_⟩
  · have:bl s≠[]:=by simpa using h0
    have:=List.length_pos_iff.2 this
    omega
  rw [right_cond]
  refine acond_i (fun hb=>?_) (fun hb=>?_)
  · simp only [go_sem]
    refine cB ?_
    unfold rightN rightL
    rw [Bool.not_eq_true'] at hb
    rw [hb]; rfl
  rw [Bool.not_eq_false'] at hb
  simp only [go_sem]
  refine ⟨fun ρ _=>∃ k:Nat,k≤(bl s).length∧ρ 0=str s∧ρ 16=int s.size∧ρ 17=int k∧∀ c∈(bl s).take k,isD c=true,fun ρ _=>(bl s).length - natOf (ρ 17),⟨0,Nat.zero_le _,rfl,rfl,rfl,by simp⟩,?_⟩
  rintro ρ H ⟨k,hk,h0,h16,h17,hz⟩
  simp only [go_sem,h0,h16,h17]
  refine acond_i (fun hlt=>?_) (fun hge=>?_)
  · have hlt:k < (bl s).length:=by have:=ltB hlt; omega
    obtain ⟨c,hc⟩:=getIn hlt
    have hi:=getD_at hc
    simp only [go_sem,h0,h16,h17,hi,isD_int]
    refine ⟨⟨by omega,by omega⟩,fun _=>⟨by omega,by omega⟩,acond_i (fun hb2=>?_) (fun hb2=>?_)⟩
    · simp only [go_sem]
      refine cB ?_
      unfold rightN rightL
      rw [all_no hc (by simpa using hb2),Bool.and_false]
    · simp only [go_sem,h0,h16,h17,wrapS (show k≤4611686018427387904 by omega)]
      exact ⟨⟨k + 1,hlt,rfl,take_all' hc (by simpa using hb2) hz⟩,by simp only [natOf_int]; omega⟩
  · have hge:k=(bl s).length:=by rw [← hs] at hge; exact geB hk hge
    subst hge
    rw [List.take_length] at hz
    simp only [go_sem]
    refine cB ?_
    unfold rightN rightL
    rw [hb,all_yes hz]; rfl
theorem trim_snoc:∀ (l:List Nat) (x:Nat),trimL (l ++ [x])=if x=0 then trimL l else l ++ [x]
  | [],x=>by simp only [List.nil_append,trimL]
  | y :: l,x=>by
    rw [List.cons_append,trimL,trim_snoc l x]
    by_cases h:x=0
    · rw [if_pos h,if_pos h,trimL]
    · rw [if_neg h,if_neg h]
      cases l <;> rfl
theorem trim_c (l:List Nat) (h:l.length≤4611686018427387904):PC Tryz.prog 174 [.sl (l.map encN)] (.sl ((trimL l).map encN)):=by
  refine PC.body (c:=Tryz.f174.body.getD .skip) (fun _=>false) mixed Tryz.func174 rfl (by kernel_rfl) ?_
  unfold Tryz.f174
  simp only [Option.getD_some]
  simp only [go_sem]
  refine ⟨fun ρ _=>∃ k:Nat,k≤l.length∧ρ 0=.sl ((l.take k).map encN)∧trimL (l.take k)=trimL l,fun ρ _=>match ρ 0 with | .sl es=>es.length | _=>0,⟨l.length,Nat.le_refl _,by rw [List.take_length]; rfl,by rw [List.take_length]⟩,?_⟩
  rintro ρ H ⟨k,hk,h0,hz⟩
  have hkl:(l.take k).length=k:=by rw [List.length_take]; omega
  cases k with
  | zero=>
    simp only [go_sem,h0,hkl,show decide (((0:Nat):Int) > 0)=false from rfl]
    refine acond_i (fun hb=>by cases hb) (fun _=>?_)
    simp only [go_sem,h0]
    have hz':trimL l=[]:=by rw [← hz]; rfl
    rw [hz']
    exact .refl _
  | succ k=>
  have b1:IntKind.i64.wrap (((k + 1:Nat):Int) - 1)=(k:Int):=by rw [wrap_in (by omega)]; omega
  obtain ⟨x,hx⟩:=getIn (show k < l.length by omega)
  have hx':(l.take (k + 1))[k]?=some x:=by rw [List.getElem?_take,if_pos (by omega)]; exact hx
  have e1:l.take (k + 1)=l.take k ++ [x]:=take_succ hx
  simp only [go_sem,h0,hkl,b1,getD_map hx',show decide (((k + 1:Nat):Int) > 0)=true from decide_eq_true (by omega)]
  refine ⟨⟨by omega,by omega⟩,acond_i (fun hb=>?_) (fun hb=>?_)⟩
  · have hx0:x=0:=by simpa using hb
    simp only [go_sem,h0,hkl,b1]
    refine ⟨by omega,⟨⟨k,by omega,?_,?_⟩,?_⟩⟩
    · rw [← List.map_take,List.take_take,Nat.min_eq_left (by omega)]
    · rw [e1,trim_snoc,if_pos hx0] at hz; exact hz
    · rw [← List.map_take,List.length_map,List.length_take]; omega
  · have hx0:x≠0:=by simpa using hb
    simp only [go_sem,h0]
    rw [e1,trim_snoc,if_neg hx0] at hz
    rw [e1,hz]
    exact .refl _
abbrev nl (n:Nat):AV:=.sl ((limbs bas n).map encN)
theorem nl_zero:nl 0=.sl []:=by
  simp only [nl,limbs_zero]; rfl
theorem trimN {l:List Nat} (hl:Lim bas l) (h:l.length≤4611686018427387904) {n:Nat} (hn:ofL bas l=n):PC Tryz.prog 174 [.sl (l.map encN)] (nl n):=by
  have:=trim_c l h
  rwa [trim_of (by decide) hl hn] at this
def numRow (l:List Nat):Row:=⟨3,1,l.map encN⟩
theorem row_snoc {H:Heap} {k:Nat} {l:List Nat} {x:Nat}:updH H k (some ⟨3,1,l.map encN ++ [[int (x:Int)]]⟩) k=some (numRow (l ++ [x])):=by
  rw [updH_same]
  simp only [numRow,List.map_append,List.map_cons,List.map_nil]
  rfl
theorem read_c (s:ByteArray) (hr:(bl s).all isD=true) (h:s.size≤4096):PC Tryz.prog 173 [str s] (nl (valN s)):=by
  have hs:=bl_size s
  refine PC.body (c:=Tryz.f173.body.getD .skip) (fun t=>t == 3) mixed Tryz.func173 rfl (by kernel_rfl) ?_
  unfold Tryz.f173
  simp only [Option.getD_some]
  simp only [go_sem]
  refine anew_i fun j hj=>?_
  simp only [go_sem]
  refine ⟨fun ρ H=>∃ (m j:Nat) (o:List Nat),m≤(bl s).length∧ρ 0=str (s.extract 0 m)∧ρ 3=.os j∧H j=some (numRow o)∧Lim bas o∧o.length≤(bl s).length - m∧ofL bas o + bas ^ o.length * valL ((bl s).take m)=valN s,fun ρ _=>match ρ 0 with | .v (.string t)=>t.size | _=>0,⟨(bl s).length,j,[],Nat.le_refl _,?_,by simp only [go_sem],updH_same _ _ _,by simp [Lim],by simp,?_⟩,?_⟩
  · rw [show s.extract 0 (bl s).length=s from bl_ext (by rw [bl_extract,List.take_length,List.drop_zero])]; rfl
  · rw [List.take_length]; simp [ofL,valN]
  clear hj j
  rintro ρ H ⟨m,j,o,hm,h0,h3,Rj,ho,hlen,hv⟩
  have hsz:(s.extract 0 m).size=m:=by rw [← bl_size,bl_extract,List.drop_zero,List.length_take]; omega
  simp only [go_sem,h0,h3,hsz]
  refine acond_i (fun hb=>?_) (fun hb=>?_)
  · have hm0:0 < m:=by simpa using hb
    have e9:imax 0 (IntKind.i64.wrap ((m:Int) - 9))=((m - 9:Nat):Int):=by
      rw [wrap_in (by omega)]; unfold imax; split <;> omega
    simp only [go_sem,h0,h3,hsz]
    refine ⟨fun ρ H=>∃ i:Nat,m - 9≤i∧i≤m∧ρ 0=str (s.extract 0 m)∧ρ 3=.os j∧ρ 4=int (m - 9:Nat)∧ρ 5=int (valL (((bl s).take i).drop (m - 9)):Nat)∧ρ 6=int i∧H j=some (numRow o),fun ρ _=>m - natOf (ρ 6),
      ⟨m - 9,Nat.le_refl _,by omega,by simp only [go_sem,h0],by simp only [go_sem,h3],?_,?_,?_,Rj⟩,?_⟩
    · simp only [go_sem,e9]
    · simp only [go_sem]
      rw [List.drop_eq_nil_of_le (by rw [List.length_take]; omega)]
      rfl
    · simp only [go_sem,e9]
    clear h0 h3 Rj
    rintro ρ H ⟨i,hi1,hi2,h0,h3,h4,h5,h6,Rj⟩
    simp only [go_sem,h0,h3,h4,h5,h6,hsz]
    refine acond_i (fun hlt=>?_) (fun hge=>?_)
    · have hlt:i < m:=ltB hlt
      obtain ⟨c,hc⟩:=getIn (show i < (bl s).length by omega)
      have hx:(bl (s.extract 0 m)).getD i 0=c:=by rw [bl_extract,List.drop_zero]; exact getD_at (by rw [List.getElem?_take,if_pos hlt]; exact hc)
      have hd:=isD_iff.1 (List.all_eq_true.1 hr c (List.mem_of_getElem? hc))
      have hv2:=valL_lt (l:=((bl s).take i).drop (m - 9)) (List.all_eq_true.2 fun c hc=>List.all_eq_true.1 hr c (List.mem_of_mem_take (List.mem_of_mem_drop hc)))
      have hv3:10 ^ (((bl s).take i).drop (m - 9)).length≤10 ^ 9:=Nat.pow_le_pow_right (by omega) (by rw [List.length_drop,List.length_take]; omega)
      have e1:((bl s).take (i + 1)).drop (m - 9)=((bl s).take i).drop (m - 9) ++ [c]:=by
        rw [take_succ hc,List.drop_append_of_le_length (by rw [List.length_take]; omega)]
      have e2:IntKind.i64.wrap (IntKind.i64.wrap (10 * ((valL (((bl s).take i).drop (m - 9)):Nat):Int)) + IntKind.i64.wrap (IntKind.u8.wrap ((c.toNat:Int) - 48)))=((valL (((bl s).take (i + 1)).drop (m - 9)):Nat):Int):=by
        rw [e1,valL_snoc,u8w hd.1 (by omega)]
        generalize valL (((bl s).take i).drop (m - 9))=V at *
        rw [show IntKind.i64.wrap (10 * (V:Int))=10 * (V:Int) from wrap_in (by omega),show IntKind.i64.wrap (((c.toNat - 48:Nat):Int))=((c.toNat - 48:Nat):Int) from wrap_in (by omega),wrap_in (by omega)]
        omega
      simp only [go_sem,h0,h3,h4,h5,h6,hsz,hx,e2,wrapS (show i≤4611686018427387904 by omega)]
      exact ⟨⟨by omega,by omega⟩,⟨i + 1,by omega,by omega,rfl,rfl,Rj⟩,by simp only [natOf_int]; omega⟩
    · have hge:i=m:=geB hi2 hge
      subst hge
      simp only [go_sem,h0,h3,h4,h5,h6,hsz]
      have hL:(((bl s).take i).drop (i - 9)).length=i - (i - 9):=by rw [List.length_drop,List.length_take]; omega
      have hA:(((bl s).take i).drop (i - 9)).all isD=true:=List.all_eq_true.2 fun c hc=>List.all_eq_true.1 hr c (List.mem_of_mem_take (List.mem_of_mem_drop hc))
      have hv2:=valL_lt hA
      have hv3:10 ^ (((bl s).take i).drop (i - 9)).length≤10 ^ 9:=Nat.pow_le_pow_right (by omega) (by omega)
      have hcut:valL ((bl s).take i)=valL ((bl s).take (i - 9)) * 10 ^ (((bl s).take i).drop (i - 9)).length + valL (((bl s).take i).drop (i - 9)):=by
        rw [← valL_append]
        congr 1
        conv=>lhs; rw [← List.take_append_drop (i - 9) ((bl s).take i)]
        rw [List.take_take,Nat.min_eq_left (by omega)]
      generalize valL (((bl s).take i).drop (i - 9))=x at *
      refine wappE_i Rj ⟨rfl,rfl⟩ ⟨rfl,trivial⟩ (by simp only [numRow,List.length_map,List.length_cons,List.length_nil]; omega) (fun j' hj'=>?_)
      simp only [go_sem,h0,h3,h4,h5,h6,hsz]
      refine ⟨⟨by omega,by omega⟩,⟨⟨i - 9,j',o ++ [x],by omega,?_,rfl,row_snoc,ho.snoc (show x < 1000000000 by omega),?_,?_⟩,?_⟩⟩
      · congr 2
        refine bl_ext ?_
        rw [bl_extract,bl_extract,bl_extract]
        simp only [List.drop_zero,List.take_take]
        rw [Nat.min_eq_left (by omega)]
      · rw [List.length_append,List.length_cons,List.length_nil]; omega
      · rw [← hv,hcut,ofL_snoc,List.length_append,List.length_cons,List.length_nil,Nat.pow_succ]
        by_cases h9:9≤i
        · rw [hL,show i - (i - 9)=9 by omega]
          grind
        · rw [show i - 9=0 by omega]
          simp only [List.take_zero,valL,List.foldl_nil]
          grind
      · rw [← bl_size,bl_extract,bl_extract]
        simp only [List.drop_zero,List.length_take]
        omega
  · have hm0:m=0:=by simpa using hb
    subst hm0
    simp only [go_sem,h0,h3]
    refine PC.useF [j] (.cons _ _ _ _ (.row _ _ _ (by simp [Rj]; rfl) (ConvE.refl _)) .nil) (trimN ho (by omega) (n:=valN s) (by rw [← hv]; simp [valL])) ?_
    simp only [go_sem]
    exact .refl _
end Go.Proofs.YtpddaldlebngaaaGreatDoor.Nu
end

section
set_option linter.unusedSimpArgs false
set_option linter.unusedVariables false
namespace Go.Proofs.YtpddaldlebngaaaGreatDoor.Nu
open Go.Aw Go.Aw.D Go.Proofs Ty Go.Nu
set_option maxRecDepth 100000
theorem neN {a b:Nat} (h:((a:Int) != (b:Int))=true):a≠b:=by
  rw [bne_iff_ne] at h
  omega
theorem eqN {a b:Nat} (h:((a:Int) != (b:Int))=false):a=b:=by
  rw [bne_eq_false_iff_eq] at h
  omega
theorem cmpI_le {a b:Int} (h:a≤b):cmpI a b≤0:=by
  unfold cmpI
  split
  · omega
  · rw [if_neg (by omega)]; omega
theorem isNaN_c (n:Int):PC Tryz.prog 239 [int n] (boo false):=by
  refine PC.body (c:=Tryz.f239.body.getD .skip) (fun _=>false) mixed Tryz.func239 rfl (by kernel_rfl) ?_
  unfold Tryz.f239
  simp only [Option.getD_some]
  simp only [go_sem]
  exact cB (by simp)
theorem cmpI_c (a b:Int):PC Tryz.prog 218 [int a,int b] (int (cmpI a b)):=by
  refine PC.body (c:=Tryz.f218.body.getD .skip) (fun _=>false) mixed Tryz.func218 rfl (by kernel_rfl) ?_
  unfold Tryz.f218
  simp only [Option.getD_some]
  simp only [go_sem]
  refine PC.use (isNaN_c a) ?_
  simp only [go_sem]
  refine PC.use (isNaN_c b) ?_
  simp only [go_sem]
  refine acond_i (fun h=>by cases h) (fun _=>?_)
  simp only [go_sem]
  refine acond_i (fun h=>by cases h) (fun _=>?_)
  simp only [go_sem]
  refine acond_i (fun h=>?_) (fun h=>?_)
  · simp only [go_sem]
    exact cI (by rw [cmpI_lt (by simpa using h)])
  · simp only [go_sem]
    refine acond_i (fun h2=>?_) (fun h2=>?_)
    · simp only [go_sem]
      exact cI (by rw [cmpI_gt (by simpa using h2)])
    · simp only [go_sem]
      exact cI (by rw [cmpI_eq (by simp at h h2; omega)])
theorem limb_c (l:List Nat) (i:Nat) (hi:i≤4611686018427387904):PC Tryz.prog 210 [.sl (l.map encN),int i] (int (l.getD i 0:Nat)):=by
  refine PC.body (c:=Tryz.f210.body.getD .skip) (fun _=>false) mixed Tryz.func210 rfl (by kernel_rfl) ?_
  unfold Tryz.f210
  simp only [Option.getD_some]
  simp only [go_sem]
  refine acond_i (fun h=>?_) (fun h=>?_)
  · have h:=ltB h
    obtain ⟨x,hx⟩:=getIn h
    have b1:=inB h
    simp only [go_sem,getD_map hx,b1]
    exact cI (by simp [List.getD,hx])
  · simp only [go_sem]
    have h:¬ i < l.length:=by simpa using h
    exact cI (by simp [List.getD,List.getElem?_eq_none (by omega:l.length≤i)])
theorem ofL_cmp {l r:List Nat} (hl:Lim bas l) (hr:Lim bas r) (hlen:l.length=r.length) {k x y:Nat} (hx:l[k]?=some x) (hy:r[k]?=some y) (hd:l.drop (k + 1)=r.drop (k + 1)) (hne:x≠y):cmpI (x:Int) y=cmpI (ofL bas l) (ofL bas r):=by
  rcases Nat.lt_or_gt_of_ne hne with h | h
  · have:=ofL_lt_of (b:=bas) (by decide) hl hr hlen hx hy h hd
    rw [cmpI_lt (by omega),cmpI_lt (by omega)]
  · have:=ofL_lt_of (b:=bas) (by decide) hr hl hlen.symm hy hx h hd.symm
    rw [cmpI_gt (by omega),cmpI_gt (by omega)]
theorem compare_c (m n:Nat) (hm:(limbs bas m).length≤1048576) (hn:(limbs bas n).length≤1048576):PC Tryz.prog 175 [nl m,nl n] (int (cmpI m n)):=by
  have om:=ofL_limbs (b:=bas) (by decide) m
  have on:=ofL_limbs (b:=bas) (by decide) n
  have lm:=limbs_lim (b:=bas) (by decide) m
  have ln:=limbs_lim (b:=bas) (by decide) n
  have hlt:(limbs bas m).length < (limbs bas n).length→m < n:=lt_of_len (by decide)
  have hgt:(limbs bas n).length < (limbs bas m).length→n < m:=lt_of_len (by decide)
  simp only [nl]
  generalize limbs bas m=a at *
  generalize limbs bas n=b at *
  refine PC.body (c:=Tryz.f175.body.getD .skip) (fun _=>false) mixed Tryz.func175 rfl (by kernel_rfl) ?_
  unfold Tryz.f175
  simp only [Option.getD_some]
  simp only [go_sem]
  refine acond_i (fun h=>?_) (fun h=>?_)
  · simp only [go_sem]
    refine PC.use (cmpI_c _ _) ?_
    simp only [go_sem]
    refine cI ?_
    have h:a.length≠b.length:=neN h
    rcases Nat.lt_or_gt_of_ne h with h | h
    · have:=hlt h
      rw [cmpI_lt (by omega),cmpI_lt (by omega)]
    · have:=hgt h
      rw [cmpI_gt (by omega),cmpI_gt (by omega)]
  have hlen:a.length=b.length:=eqN h
  simp only [go_sem]
  refine ⟨fun ρ _=>∃ k:Nat,k≤a.length∧ρ 0=.sl (a.map encN)∧ρ 1=.sl (b.map encN)∧ρ 5=int ((k:Int) - 1)∧a.drop k=b.drop k,fun ρ _=>match ρ 5 with | .v (.int _ z)=>(z + 1).toNat | _=>0,⟨a.length,Nat.le_refl _,by simp only [go_sem],by simp only [go_sem],by simp only [go_sem,wrapQ (show a.length≤4611686018427387904 by omega)],by rw [List.drop_eq_nil_of_le (Nat.le_refl _),List.drop_eq_nil_of_le (by omega)]⟩,?_⟩
  rintro ρ H ⟨k,hk,h0,h1,h5,hd⟩
  simp only [go_sem,h0,h1,h5]
  refine acond_i (fun hb=>?_) (fun hb=>?_)
  · have hk0:0 < k:=by simp at hb; omega
    obtain ⟨k,rfl⟩:∃ j,k=j + 1:=⟨k - 1,by omega⟩
    rw [show ((k + 1:Nat):Int) - 1=(k:Int) by omega] at h5 ⊢
    obtain ⟨x,hx⟩:=getIn (show k < a.length by omega)
    obtain ⟨y,hy⟩:=getIn (show k < b.length by omega)
    have b1:=inB (show k < a.length by omega)
    have b2:=inB (show k < b.length by omega)
    simp only [go_sem,h0,h1,h5]
    refine adraw_q (by rfl) (by kernel_rfl) ?_
    simp only [go_sem,h0,h1,h5,getD_map hx,getD_map hy,b1,b2]
    refine acond_i (fun hb2=>?_) (fun hb2=>?_)
    · simp only [go_sem,h0,h1,h5]
      refine adraw_q (by rfl) (by kernel_rfl) ?_
      simp only [go_sem,h0,h1,h5,getD_map hx,getD_map hy,b1,b2]
      refine ⟨_,(cmpI_c x y).q rfl,?_⟩
      simp only [go_sem]
      exact cI (by rw [ofL_cmp lm ln hlen hx hy hd (neN hb2),om,on])
    · have hxy:x=y:=eqN hb2
      simp only [go_sem,h0,h1,h5,wrapQ (show k≤4611686018427387904 by omega)]
      refine ⟨⟨k,by omega,rfl,?_⟩,by omega⟩
      have e1:a.drop k=x :: a.drop (k + 1):=by rw [List.drop_eq_getElem_cons (by omega)]; congr 1; exact (List.getElem?_eq_some_iff.1 hx).2
      have e2:b.drop k=y :: b.drop (k + 1):=by rw [List.drop_eq_getElem_cons (by omega)]; congr 1; exact (List.getElem?_eq_some_iff.1 hy).2
      rw [e1,e2,hd,hxy]
  · have hk0:k=0:=by simp at hb; omega
    subst hk0
    simp only [go_sem]
    refine cI ?_
    have hab:a=b:=by simpa using hd
    rw [cmpI_eq]
    rw [← om,← on,hab]
def tw (a b:ByteArray) (n:Nat):List (List AV):=if errN a b=0 then (limbs bas n).map encN else []
theorem tw_ok {a b:ByteArray} {n:Nat} (h:errN a b=0):tw a b n=(limbs bas n).map encN:=if_pos h
theorem tw_no {a b:ByteArray} {n:Nat} (h:errN a b≠0):tw a b n=[]:=if_neg h
theorem two_c (a b:ByteArray) (ha:a.size≤1048576) (hb:b.size≤1048576):PC Tryz.prog 137 [str a,str b] (.tup [.sl (tw a b (valN a)),.sl (tw a b (valN b)),int (errN a b)]):=by
  refine PC.body (c:=Tryz.f137.body.getD .skip) (fun _=>false) mixed Tryz.func137 rfl (by kernel_rfl) ?_
  unfold Tryz.f137
  simp only [Option.getD_some]
  simp only [go_sem]
  refine PC.use (nright_c a (by omega)) ?_
  simp only [go_sem]
  refine ⟨_,fun _=>(nright_c b (by omega)).q rfl,?_⟩
  simp only [go_sem]
  refine acond_i (fun h=>?_) (fun h=>?_)
  · simp only [go_sem]
    have e:errN a b=3:=by unfold errN; rw [if_pos h]
    rw [tw_no (by rw [e]; decide),tw_no (by rw [e]; decide),e]
    exact .refl _
  have hr:rightN a=true∧rightN b=true:=by simpa using h
  simp only [go_sem]
  refine acond_i (fun h2=>?_) (fun h2=>?_)
  · simp only [go_sem]
    have h2':(decide (a.size > 4096) || decide (b.size > 4096))=true:=by simp at h2 ⊢; omega
    have e:errN a b=4:=by unfold errN; rw [if_neg (by rw [h]; simp),if_pos h2']
    rw [tw_no (by rw [e]; decide),tw_no (by rw [e]; decide),e]
    exact .refl _
  have h3:a.size≤4096∧b.size≤4096:=by simp at h2; omega
  have e:errN a b=0:=errN_ok hr.1 hr.2 h3.1 h3.2
  have d:∀ {s:ByteArray},rightN s=true→(bl s).all isD=true:=fun h=>by
    unfold rightN rightL at h
    simp only [Bool.and_eq_true] at h
    exact h.2
  simp only [go_sem]
  refine PC.use (read_c a (d hr.1) h3.1) ?_
  simp only [go_sem]
  refine PC.use (read_c b (d hr.2) h3.2) ?_
  simp only [go_sem]
  rw [tw_ok e,tw_ok e,e]
  exact .refl _
theorem row_nil {H:Heap} {j:Nat}:updH H j (some ⟨3,1,[]⟩) j=some (numRow []):=updH_same _ _ _
theorem times_c (m k:Nat) (hm:(limbs bas m).length≤1048576) (hk:k < bas):PC Tryz.prog 178 [nl m,int k] (nl (m * k)):=by
  have hk:k < 1000000000:=hk
  have om:=ofL_limbs (b:=bas) (by decide) m
  have lm:=limbs_lim (b:=bas) (by decide) m
  simp only [nl]
  generalize limbs bas m=l at *
  have hw0:IntKind.i64.wrap ((l.length:Int) + 1)=((l.length + 1:Nat):Int):=wrapS (by omega)
  refine PC.body (c:=Tryz.f178.body.getD .skip) (fun t=>t == 5) mixed Tryz.func178 rfl (by kernel_rfl) ?_
  unfold Tryz.f178
  simp only [Option.getD_some]
  simp only [go_sem]
  refine ⟨by omega,anew_i fun j hj=>?_⟩
  simp only [go_sem]
  refine ⟨fun ρ H=>∃ (i j c:Nat) (o:List Nat),i≤l.length∧ρ 1=int k∧ρ 13=.sl (l.map encN)∧ρ 14=int l.length∧ρ 5=.os j∧ρ 6=int c∧ρ 15=int i∧H j=some (numRow o)∧Lim bas o∧o.length=i∧c < 1000000000∧ofL bas o + bas ^ i * c=ofL bas (l.take i) * k,fun ρ _=>l.length - natOf (ρ 15),
    ⟨0,j,0,[],Nat.zero_le _,by simp only [go_sem],by simp only [go_sem],by simp only [go_sem,List.length_map],by simp only [go_sem],by simp only [go_sem]; rfl,by simp only [go_sem]; rfl,row_nil,by simp [Lim],rfl,by omega,by simp [ofL]⟩,?_⟩
  clear hj j
  rintro ρ H ⟨i,j,c,o,hi,h1,h13,h14,h5,h6,h15,Rj,ho,hol,hc,hv⟩
  simp only [go_sem,h1,h13,h14,h5,h6,h15]
  refine acond_i (fun hlt=>?_) (fun hge=>?_)
  · have hlt:=ltB hlt
    obtain ⟨n,hn⟩:=getIn hlt
    have b1:=inB hlt
    have hnb:n < 1000000000:=lm n (List.mem_of_getElem? hn)
    have hmul:n * k≤999999999 * 999999999:=Nat.mul_le_mul (by omega) (by omega)
    have e1:IntKind.i64.wrap (IntKind.i64.wrap ((n:Int) * (k:Int)) + (c:Int))=((n * k + c:Nat):Int):=by
      rw [show (n:Int) * (k:Int)=((n * k:Nat):Int) from (Int.natCast_mul n k).symm]
      generalize n * k=p at *
      rw [show IntKind.i64.wrap (p:Int)=(p:Int) from wrap_in (by omega),wrap_in (by omega)]
      omega
    have hst:=times_step (b:=bas) (by decide) hn hol hv
    simp only [go_sem,h1,h13,h14,h5,h6,h15,getD_map hn,b1,e1]
    have hq:(n * k + c) / 1000000000 < 1000000000:=by omega
    have e2:IntKind.i64.wrap ((((n * k + c:Nat):Int)).tdiv 1000000000)=(((n * k + c) / 1000000000:Nat):Int):=by
      generalize n * k + c=p at *
      rw [Int.tdiv_eq_ediv_of_nonneg (by omega),wrap_in (by omega)]
      omega
    have e3:(((n * k + c:Nat):Int)).tmod 1000000000=(((n * k + c) % 1000000000:Nat):Int):=by
      rw [Int.tmod_eq_emod_of_nonneg (by omega)]
      omega
    simp only [e2,e3]
    refine ⟨by decide,?_⟩
    refine wappE_i Rj ⟨rfl,rfl⟩ ⟨rfl,trivial⟩ (by simp only [numRow,List.length_map,List.length_cons,List.length_nil]; omega) (fun j' hj'=>?_)
    simp only [go_sem,h1,h13,h14,h5,h6,h15,e2,wrapS (show i≤4611686018427387904 by omega)]
    refine ⟨by decide,⟨i + 1,j',_,o ++ [(n * k + c) % bas],hlt,rfl,rfl,rfl,row_snoc,ho.snoc (Nat.mod_lt _ (by decide)),by simp [hol],hq,hst⟩,by simp only [natOf_int]; omega⟩
  · have hge:=geB hi hge
    subst hge
    simp only [go_sem,h5,h6]
    refine wappE_i Rj ⟨rfl,rfl⟩ ⟨rfl,trivial⟩ (by simp only [numRow,List.length_map,List.length_cons,List.length_nil]; omega) (fun j' hj'=>?_)
    simp only [go_sem]
    have hT:Lim bas (o ++ [c]):=ho.snoc hc
    have hV:ofL bas (o ++ [c])=m * k:=by rw [ofL_snoc,hol,hv,List.take_length,om]
    refine PC.useF [j'] (.cons _ _ _ _ (.row _ _ _ (by simp only [List.mem_singleton,if_true]; exact row_snoc) (ConvE.refl _)) .nil) (trimN hT (by simp; omega) hV) ?_
    simp only [go_sem]
    exact .refl _
theorem minus_c (m n:Nat) (hm:(limbs bas m).length≤1048576) (hnm:n≤m):PC Tryz.prog 177 [nl m,nl n] (nl (m - n)):=by
  have om:=ofL_limbs (b:=bas) (by decide) m
  have on:=ofL_limbs (b:=bas) (by decide) n
  have lm:=limbs_lim (b:=bas) (by decide) m
  have ln:=limbs_lim (b:=bas) (by decide) n
  have hyl:=limbs_len_mono (b:=bas) (by decide) hnm
  simp only [nl]
  generalize limbs bas m=x at *
  generalize limbs bas n=y at *
  refine PC.body (c:=Tryz.f177.body.getD .skip) (fun t=>t == 5) mixed Tryz.func177 rfl (by kernel_rfl) ?_
  unfold Tryz.f177
  simp only [Option.getD_some]
  simp only [go_sem]
  refine ⟨by omega,anew_i fun j hj=>?_⟩
  simp only [go_sem]
  refine ⟨fun ρ H=>∃ (i j c:Nat) (o:List Nat),i≤x.length∧ρ 0=.sl (x.map encN)∧ρ 1=.sl (y.map encN)∧ρ 13=int x.length∧ρ 5=.os j∧ρ 6=int c∧ρ 14=int i∧H j=some (numRow o)∧Lim bas o∧o.length=i∧c≤1∧ofL bas o + ofL bas (y.take i)=ofL bas (x.take i) + bas ^ i * c,fun ρ _=>x.length - natOf (ρ 14),
    ⟨0,j,0,[],Nat.zero_le _,by simp only [go_sem],by simp only [go_sem],by simp only [go_sem,List.length_map],by simp only [go_sem],by simp only [go_sem]; rfl,by simp only [go_sem]; rfl,row_nil,by simp [Lim],rfl,by omega,by simp [ofL]⟩,?_⟩
  clear hj j
  rintro ρ H ⟨i,j,c,o,hi,h0,h1,h13,h5,h6,h14,Rj,ho,hol,hc,hv⟩
  simp only [go_sem,h0,h1,h13,h5,h6,h14]
  refine acond_i (fun hlt=>?_) (fun hge=>?_)
  · have hlt:=ltB hlt
    obtain ⟨a,ha⟩:=getIn hlt
    have hag:x.getD i 0=a:=by simp [List.getD,ha]
    have b1:=inB hlt
    have hab:a < 1000000000:=lm a (List.mem_of_getElem? ha)
    have hyb:y.getD i 0 < 1000000000:=ln.getD (by decide) i
    simp only [go_sem,h0,h1,h13,h5,h6,h14]
    refine adraw_q (by rfl) (by kernel_rfl) ?_
    simp only [go_sem,h0,h1,h13,h5,h6,h14,getD_map ha,b1]
    refine ⟨_,(limb_c y i (by omega)).q rfl,?_⟩
    have hd1:=minus_digit (b:=1000000000) hab hyb hc
    have hd2:=minus_digit2 (b:=1000000000) hab hyb hc
    have hst:=minus_step (b:=bas) (x:=x) (y:=y) (c':=if a < y.getD i 0 + c then 1 else 0) (d:=if a < y.getD i 0 + c then a + 1000000000 - (y.getD i 0 + c) else a - (y.getD i 0 + c)) hol hv (by rw [hag]; exact hd2.1)
    generalize y.getD i 0=yi at *
    have e1:IntKind.i64.wrap (IntKind.i64.wrap ((a:Int) - (yi:Int)) - (c:Int))=(a:Int) - yi - c:=by
      rw [show IntKind.i64.wrap ((a:Int) - (yi:Int))=(a:Int) - yi from wrap_in (by omega),wrap_in (by omega)]
    simp only [go_sem,h0,h1,h13,h5,h6,h14,e1]
    refine acond_join (fun ρ' H'=>ρ' 0=.sl (x.map encN)∧ρ' 1=.sl (y.map encN)∧ρ' 13=int x.length∧ρ' 5=.os j∧ρ' 14=int i∧H' j=some (numRow o)∧ρ' 8=int (if a < yi + c then a + 1000000000 - (yi + c) else a - (yi + c):Nat)∧ρ' 6=int (if a < yi + c then 1 else 0:Nat)) ?_ fun K hK=>acond_i (fun hb=>?_) (fun hb=>?_)
    rotate_left
    · have hb:a < yi + c:=by simp at hb; omega
      have e2:IntKind.i64.wrap ((a:Int) - yi - c + 1000000000)=((a + 1000000000 - (yi + c):Nat):Int):=by rw [wrap_in (by omega)]; omega
      simp only [go_sem,h0,h1,h13,h5,h6,h14,e2]
      exact hK _ _ ⟨by simp only [go_sem,h0],by simp only [go_sem,h1],by simp only [go_sem,h13],by simp only [go_sem,h5],by simp only [go_sem,h14],Rj,by simp only [go_sem,if_pos hb],by simp only [go_sem,if_pos hb]; rfl⟩
    · have hb:¬ a < yi + c:=by simp at hb; omega
      simp only [go_sem,h0,h1,h13,h5,h6,h14]
      refine hK _ _ ⟨by simp only [go_sem,h0],by simp only [go_sem,h1],by simp only [go_sem,h13],by simp only [go_sem,h5],by simp only [go_sem,h14],Rj,?_,by simp only [go_sem,if_neg hb]; rfl⟩
      simp only [go_sem,if_neg hb]
      congr 2
      omega
    clear h0 h1 h13 h5 h6 h14 Rj
    rintro ρ H ⟨h0,h1,h13,h5,h14,Rj,h8,h6⟩
    simp only [go_sem,h0,h1,h13,h5,h6,h14,h8]
    refine wappE_i Rj ⟨rfl,rfl⟩ ⟨rfl,trivial⟩ (by simp only [numRow,List.length_map,List.length_cons,List.length_nil]; omega) (fun j' hj'=>?_)
    simp only [go_sem,h0,h1,h13,h5,h6,h14,wrapS (show i≤4611686018427387904 by omega)]
    exact ⟨⟨i + 1,j',_,_,hlt,rfl,rfl,rfl,row_snoc,ho.snoc hd2.2,by simp [hol],by split <;> omega,hst⟩,by simp only [natOf_int]; omega⟩
  · have hge:=geB hi hge
    subst hge
    simp only [go_sem,h5]
    obtain ⟨_,hV⟩:=minus_end (b:=bas) (by decide) ho lm hol hyl (by omega) hc hv
    refine PC.useF [j] (.cons _ _ _ _ (.row _ _ _ (by simp only [List.mem_singleton,if_true]; exact Rj) (ConvE.refl _)) .nil) (trimN ho (by omega) (hV.trans (by rw [om,on]))) ?_
    simp only [go_sem]
    exact .refl _
theorem half {d r q:Nat} (h1:d * q≤r) (h2:r < d * (q + 1)) (hd:0 < d):q=r / d:=by
  symm
  exact (Nat.div_eq_iff hd).2 ⟨by rw [Nat.mul_comm]; exact h1,by rw [Nat.mul_add,Nat.mul_one] at h2; rw [Nat.mul_comm q d]; omega⟩
theorem digit_c (r d:Nat) (hr:(limbs bas r).length≤1048576) (hd:0 < d) (hdl:(limbs bas d).length≤1048575) (h:r < d * bas):PC Tryz.prog 176 [nl r,nl d] (int (r / d:Nat)):=by
  refine PC.body (c:=Tryz.f176.body.getD .skip) (fun _=>false) mixed Tryz.func176 rfl (by kernel_rfl) ?_
  unfold Tryz.f176
  simp only [Option.getD_some]
  simp only [go_sem]
  refine ⟨fun ρ _=>∃ a b:Nat,a≤b∧b < 1000000000∧ρ 0=nl r∧ρ 1=nl d∧ρ 5=int a∧ρ 6=int b∧d * a≤r∧r < d * (b + 1),fun ρ _=>natOf (ρ 6) - natOf (ρ 5),⟨0,999999999,by omega,by omega,by simp only [go_sem],by simp only [go_sem],by simp only [go_sem]; rfl,by simp only [go_sem]; rfl,by simp,h⟩,?_⟩
  rintro ρ H ⟨a,b,hab,hb,h0,h1,h5,h6,ha2,hb2⟩
  simp only [go_sem,h0,h1,h5,h6]
  refine acond_i (fun hlt=>?_) (fun hge=>?_)
  · have hlt:=ltB hlt
    have e1:IntKind.i64.wrap ((IntKind.i64.wrap (IntKind.i64.wrap ((a:Int) + (b:Int)) + 1)).tdiv 2)=(((a + b + 1) / 2:Nat):Int):=by
      rw [show IntKind.i64.wrap ((a:Int) + (b:Int))=((a + b:Nat):Int) by rw [wrap_in (by omega)]; omega,wrapS (by omega),Int.tdiv_eq_ediv_of_nonneg (by omega),wrap_in (by omega)]
      omega
    simp only [go_sem,h0,h1,h5,h6,e1]
    refine ⟨by decide,?_⟩
    have hm:(a + b + 1) / 2 < bas:=show _ < 1000000000 by omega
    have hm1:a < (a + b + 1) / 2:=by omega
    have hm2:(a + b + 1) / 2≤b:=by omega
    generalize (a + b + 1) / 2=m at *
    refine PC.use (times_c d m (by omega) hm) ?_
    simp only [go_sem,h0,h1,h5,h6]
    have hdm:(limbs bas (d * m)).length≤1048576:=by
      have h1:=ofL_lt (b:=bas) (by decide) (limbs_lim (b:=bas) (by decide) d)
      rw [ofL_limbs (by decide)] at h1
      have h2:d * m < bas ^ ((limbs bas d).length + 1):=by
        rw [Nat.pow_succ]
        exact Nat.lt_of_lt_of_le (Nat.mul_lt_mul_of_pos_left hm hd) (Nat.mul_le_mul_right _ (Nat.le_of_lt h1))
      have:=limbs_len_le (b:=bas) (by decide) h2
      omega
    refine PC.use (compare_c (d * m) r hdm hr) ?_
    simp only [go_sem,h0,h1,h5,h6]
    refine acond_i (fun hc=>?_) (fun hc=>?_)
    · have hc : d * m ≤ r := by
        rcases Nat.lt_or_ge r (d * m) with h | h
        · rw [cmpI_gt (by omega)] at hc; simp at hc
        · exact h
      simp only [go_sem,h0,h1,h5,h6]
      exact ⟨⟨m,b,by omega,hb,rfl,rfl,hc,hb2⟩,by simp only [natOf_int]; omega⟩
    · have hc : r < d * m := by
        rcases Nat.lt_or_ge r (d * m) with h | h
        · exact h
        · exfalso
          exact of_decide_eq_false hc (cmpI_le (by omega))
      simp only [go_sem,h0,h1,h5,h6]
      refine ⟨⟨a,m - 1,by omega,by omega,rfl,?_,ha2,?_⟩,?_⟩
      · rw [wrapQ (by omega)]; congr 2; omega
      · rw [show m - 1 + 1=m by omega]; exact hc
      · rw [wrapQ (by omega)]; simp only [natOf_int]; omega
  · have hge:=geB hab hge
    subst hge
    simp only [go_sem,h5]
    exact cI (by rw [half ha2 hb2 hd])
end Go.Proofs.YtpddaldlebngaaaGreatDoor.Nu
end
