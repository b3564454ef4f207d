/- Texts joined by a program: CuI, SoA, SoB, SoC, SoD, SoE, MaA, CuR. -/
import Derived.Lib.ItoaMem
import Derived.Lib.LaidIn
import Derived.MakeChecks
import Derived.Stop.LaidErr
import Derived.Test.YtpddaldlebngaaaGreatDoorZp22
import Derived.Test.YtpddaldlebngaaaGreatDoorZp25
import Derived.Test.YtpddaldlebngaaaGreatDoorZp26
import Derived.Test.YtpddaldlebngaaaGreatDoorZp28

section
set_option linter.unusedSimpArgs false
set_option linter.unusedVariables false
namespace Go.Proofs.YtpddaldlebngaaaGreatDoor.Nu
open Go.Aw Go.Aw.D Go.Proofs Ty Go.Nu
set_option maxRecDepth 100000
theorem memS_iff {s:Nat} {i:Int}:i∈memS (s:Int)↔∃ j:Nat,j < 63∧s.testBit j=true∧i=(j:Int):=by
  unfold memS memU
  rw [List.mem_map]
  constructor
  · rintro ⟨j,hj,rfl⟩
    obtain ⟨h1,h2⟩:=List.mem_filter.1 hj
    have h3:=List.mem_range.1 h1
    rw [hasR_nat (by omega)] at h2
    exact ⟨j,h3,h2,rfl⟩
  · rintro ⟨j,h1,h2,rfl⟩
    refine ⟨j,List.mem_filter.2 ⟨List.mem_range.2 h1,?_⟩,rfl⟩
    rw [hasR_nat (by omega)]; exact h2
theorem mem_pos {s:Nat} (hs:s < 2 ^ 63):(0 < (memS (s:Int)).length)↔0 < s:=by
  constructor
  · intro h
    rcases Nat.eq_zero_or_pos s with rfl | h0
    · obtain ⟨i,hi⟩:=List.exists_mem_of_length_pos h
      obtain ⟨j,_,h2,_⟩:=memS_iff.1 hi
      simp at h2
    · exact h0
  · intro h
    obtain ⟨j,hj⟩:=Nat.exists_testBit_of_ne_zero (x:=s) (by omega)
    have hj63:j < 63:=by
      rcases Nat.lt_or_ge j 63 with h1 | h1
      · exact h1
      · rw [Nat.testBit_lt_two_pow (Nat.lt_of_lt_of_le hs (Nat.pow_le_pow_right (by decide) h1))] at hj; cases hj
    exact List.length_pos_of_mem (memS_iff.2 ⟨j,hj63,hj,rfl⟩)
theorem must_same {x:Instance} {s:Nat} (hx:x.orders.length≤62) (hs:s < 2 ^ 63) (h0:0 < s):must28 x.orders (memS (s:Int))=!stays x (s:Int):=by
  unfold must28 stays
  rw [decide_eq_true ((mem_pos hs).2 h0),Bool.and_true,exist_nat,Int.toNat_natCast,show decide ((s:Int)≤0)=false by simp; omega,Bool.false_or]
  rw [Bool.eq_iff_iff]
  simp only [Bool.not_eq_true',Bool.or_eq_false_iff,Bool.not_eq_false',decide_eq_true_eq,List.any_eq_false]
  have hbit:∀ j:Nat,j < 63→(badM x.orders (j:Int)=false↔(mustO x).testBit j=true):=by
    intro j hj
    unfold mustO suchN badM
    rw [bitsN_test]
    rcases Nat.lt_or_ge j x.orders.length with hlt | hge
    · obtain ⟨o,ho⟩:=getIn hlt
      rw [orderAt_get ho,suchB_at ho,decide_eq_true hlt,show decide ((j:Int)≥(x.orders.length:Int))=false by simp; omega]
      simp
    · rw [show decide ((j:Int)≥(x.orders.length:Int))=true by simp; omega,show decide (j < x.orders.length)=false by simp; omega]
      simp
  have hin:∀ j,s.testBit j=true→j < 63:=fun j hj=>by
    rcases Nat.lt_or_ge j 63 with h1 | h1
    · exact h1
    · rw [Nat.testBit_lt_two_pow (Nat.lt_of_lt_of_le hs (Nat.pow_le_pow_right (by decide) h1))] at hj; cases hj
  constructor
  · intro h
    have hsub:∀ j,s.testBit j=true→(mustO x).testBit j=true:=fun j hj=>(hbit j (hin j hj)).1 (by have:=h (j:Int) (memS_iff.2 ⟨j,hin j hj,hj,rfl⟩); simpa using this)
    have hand:s &&& mustO x=s:=by
      apply Nat.eq_of_testBit_eq
      intro j
      rw [Nat.testBit_and]
      cases hj:s.testBit j with
      | false=>rfl
      | true=>rw [hsub j hj]; rfl
    refine ⟨?_,hand⟩
    have hmu:mustO x < 2 ^ x.orders.length:=suchN_lt _ _
    have:s &&& mustO x≤mustO x:=Nat.and_le_right
    omega
  · rintro ⟨_,hand⟩ i hi
    obtain ⟨j,h1,h2,rfl⟩:=memS_iff.1 hi
    have h3:(mustO x).testBit j=true:=by
      rw [← hand,Nat.testBit_and] at h2
      exact (Bool.and_eq_true_iff.1 h2).2
    simpa using (hbit j h1).2 h3
theorem tripsD_spec {x : Instance} {d dim : Nat} {ms : List Int} (h : LoadsOk x d) (hd : dim < d) (hm : Memb x.orders ms) :
    0≤tripsD x ms dim∧(capMax x.types dim < 1→tripsD x ms dim=0)∧(1≤capMax x.types dim→∀ n:Int,0≤n→(tripsD x ms dim≤n↔loadSum x.orders ms dim≤n * capMax x.types dim))∧tripsD x ms dim≤loadSum x.orders ms dim:=by
  have hL:=(loadSum_in h hd hm).1
  have hC:=(capMax_in h hd x.types.length).1
  rw [List.take_length] at hC
  unfold tripsD tripsL
  generalize loadSum x.orders ms dim=L at *
  generalize capMax x.types dim=C at *
  have hnc:([C].any fun n=>decide (n < 0))=false:=by simp; exact hC
  simp only [List.length_cons,List.length_nil,ne_eq,not_true,if_false,hnc,Bool.false_eq_true,tripsF]
  by_cases h0:L≤0
  · have:L=0:=by omega
    subst this
    simp only [Int.le_refl,if_true]
    simp
    intro hc n hn
    exact ⟨fun _=>Int.mul_nonneg hn (by omega),fun _=>hn⟩
  · rw [if_neg h0]
    by_cases hc:C=0
    · rw [if_pos hc]; simp; omega
    · rw [if_neg hc]
      have hq:imax 0 ((L + C - 1).tdiv C)=(L + C - 1) / C:=by
        have h1:(L + C - 1).tdiv C=(L + C - 1) / C:=Int.tdiv_eq_ediv_of_nonneg (by omega)
        have h2:0≤(L + C - 1) / C:=Int.ediv_nonneg (by omega) (by omega)
        rw [h1]; unfold imax; split <;> omega
      simp only [hq,not_true,if_false]
      have h2:0≤(L + C - 1) / C:=Int.ediv_nonneg (by omega) (by omega)
      refine ⟨h2,fun h=>by omega,fun h1 n hn=>?_,?_⟩
      · have h4:(L + C - 1) / C≤n↔(L + C - 1) / C < n + 1:=by omega
        rw [h4,Int.ediv_lt_iff_lt_mul (by omega),Int.add_mul,Int.one_mul]
        omega
      · have h4:(L + C - 1) / C≤L↔(L + C - 1) / C < L + 1:=by omega
        rw [h4,Int.ediv_lt_iff_lt_mul (by omega),Int.add_mul,Int.one_mul]
        have:L * 1≤L * C:=Int.mul_le_mul_of_nonneg_left (by omega) (by omega)
        omega
theorem dimF_in {x:Instance} {d:Nat} {ms:List Int} (h:LoadsOk x d) (hm:Memb x.orders ms) (hl:ms.length≤63):∀ k,k≤d→1≤dimF x ms k∧dimF x ms k≤63001
  | 0,_=>by simp [dimF]
  | k + 1,hk=>by
    have ih:=dimF_in h hm hl k (by omega)
    have h1:=tripsD_spec h (dim:=k) (by omega) hm
    have h2:=loadSum_in h (dim:=k) (by omega) hm
    rw [dimF_succ]
    unfold imax
    split <;> omega
theorem trips28_c (x:Instance) (d:Nat) (set:Int) (h:LoadsOk x d) (ht:x.types≠[]) (hset:set < 9223372036854775808):PC Tryz.prog 145 [.agg (encInstance x),int set] (int (tripsP x d set)):=by
  have ho62:=h.orders
  have hd3:=h.dims
  have htl:=h.types
  obtain ⟨t,r,ht2⟩:=List.exists_cons_of_ne_nil ht
  have hlen:((x.types.length:Int) == 0)=false:=by rw [ht2]; rw [beq_eq_false_iff_ne]; simp; omega
  refine PC.body (c:=Tryz.f145.body.getD .skip) (fun _=>false) mixed Tryz.func145 rfl (by kernel_rfl) ?_
  unfold Tryz.f145
  simp only [Option.getD_some]
  simp only [go_sem]
  simp only [go_sem,List.length_map,hlen]
  refine acond_i (fun hb=>?_) (fun hb=>?_)
  · simp only [go_sem]
    have:stays x set=true:=by unfold stays; rw [show decide (set≤0)=true by simpa using hb]; rfl
    rw [show tripsP x d set=0 from if_pos this]
    exact .refl _
  obtain ⟨s,rfl⟩:=Int.eq_ofNat_of_zero_le (a:=set) (by simp at hb; omega)
  have hs0:0 < s:=by simp at hb; omega
  have hs63:s < 2 ^ 63:=by omega
  simp only [go_sem]
  refine PC.use (members5_c s hs63) ?_
  simp only [go_sem]
  have hml:(memS (s:Int)).length≤63:=memU_len _ _
  refine PC.use (must28_c x (memS (s:Int)) (fun i hi=>by obtain ⟨j,_,_,rfl⟩:=memS_iff.1 hi; omega) (by omega)) ?_
  rw [must_same ho62 hs63 hs0]
  simp only [go_sem]
  refine acond_i (fun hb2=>?_) (fun hb2=>?_)
  · simp only [go_sem]
    rw [show tripsP x d (s:Int)=0 from if_pos (by simpa using hb2)]
    exact .refl _
  have hst:stays x (s:Int)=false:=by simpa using hb2
  have e0:tripsP x d (s:Int)=if togP x (memS (s:Int))=false then 1 else dimF x (memS (s:Int)) d:=if_neg (by rw [hst]; simp)
  rw [e0]
  have hsn:s < 2 ^ x.orders.length:=by
    unfold stays at hst
    simp only [Bool.or_eq_false_iff,Bool.not_eq_false'] at hst
    obtain ⟨s',hs',hlt⟩:=exist_spec hst.1.2
    omega
  have hm:Memb x.orders (memS (s:Int)):=memS_in hsn ho62
  simp only [go_sem]
  refine PC.use (sided28_c x (memS (s:Int)) hm (by omega)) ?_
  simp only [go_sem]
  refine acond_i (fun hb3=>?_) (fun hb3=>?_)
  · simp only [go_sem]
    rw [if_pos (by simpa using hb3)]
    exact .refl _
  rw [if_neg (by simpa using hb3)]
  have b1:=inB (show 0 < x.types.length by rw [ht2]; simp)
  have hx0:x.types[0]?=some t:=by rw [ht2]; rfl
  have hg0:=getD_map (f:=encVType) hx0
  have hd:=(h.cap t (by rw [ht2]; simp)).1
  subst hd
  have hld:=load11_c x _ s h hsn
  simp only [go_sem]
  refine adraw_m [(0,true),(1,true),(2,true),(3,true),(4,true),(5,true),(6,true),(7,true),(8,true),(9,false),(10,true),(11,true),(12,true),(13,true),(14,true)] (by kernel_rfl) ?_
  simp only [go_sem,List.length_map,hg0]
  refine ⟨by omega,?_⟩
  refine PC.use hld ?_
  simp only [go_sem]
  have hdl:((List.range t.cap.length).map fun dim=>loadSum x.orders (memS (s:Int)) dim).length=t.cap.length:=by simp
  refine ⟨fun ρ H=>∃ (k:Nat),k≤t.cap.length∧ρ 2=.rp (encInstance x) 0∧ρ 7=.sl (((List.range t.cap.length).map fun dim=>loadSum x.orders (memS (s:Int)) dim).map encInt)∧ρ 8=int 0∧ρ 9=int k∧ρ 6=int (dimF x (memS (s:Int)) k),fun ρ _=>t.cap.length - natOf (ρ 9),⟨0,Nat.zero_le _,by simp only [go_sem],by simp only [go_sem],by simp only [go_sem],(by simp only [go_sem]; rfl),by simp only [go_sem]; rfl⟩,?_⟩
  rintro ρ H ⟨k,hk,e2,e7,e8,e9,e6⟩
  simp only [go_sem,e2,e7,e8,e9,e6]
  refine acond_i (fun hlt=>?_) (fun hge=>?_)
  · have hkl:k < t.cap.length:=by simpa using hlt
    clear hlt
    have hlt:=hkl
    have hR:=dimF_in h hm hml (k + 1) (by omega)
    have hK:=dimF_in h hm hml k (by omega)
    obtain ⟨q0,q1,q2,_⟩:=tripsD_spec h hlt hm
    have hL:=loadSum_in h hlt hm
    have hC:=capMax_in h hlt x.types.length
    rw [List.take_length] at hC
    have hsucc:=dimF_succ x (memS (s:Int)) k
    have hlk:((List.range t.cap.length).map fun dim=>loadSum x.orders (memS (s:Int)) dim)[k]?=some (loadSum x.orders (memS (s:Int)) k):=by
      rw [List.getElem?_map,List.getElem?_range hlt]; rfl
    have hgl:=getD_map (f:=encInt) hlk
    generalize hG:((List.range t.cap.length).map fun dim=>loadSum x.orders (memS (s:Int)) dim)=G at *
    have bG:0≤(k:Int)∧(k:Int) < (G.length:Int):=by omega
    simp only [go_sem,e2,e7,e8,e9,e6]
    refine PC.use (greatest_c x _ k h hlt) ?_
    simp only [go_sem,e2,e7,e8,e9,e6]
    generalize loadSum x.orders (memS (s:Int)) k=L at *
    generalize capMax x.types k=C at *
    generalize tripsD x (memS (s:Int)) k=T at *
    refine acond_i (fun hc=>?_) (fun hc=>?_)
    · have hT:=q1 (by simpa using hc)
      simp only [go_sem,e2,e7,e8,e9,e6,wrapS (show k≤4611686018427387904 by omega)]
      refine ⟨⟨k + 1,hlt,rfl,?_⟩,by simp only [natOf_int]; omega⟩
      rw [hsucc,hT]; unfold imax; rw [if_neg (by omega)]
    have hc:1≤C:=by simp at hc; omega
    simp only [go_sem,e2,e7,e8,e9,e6]
    refine ⟨fun ρ H=>∃ out:Int,dimF x (memS (s:Int)) k≤out∧out≤dimF x (memS (s:Int)) (k + 1)∧ρ 2=.rp (encInstance x) 0∧ρ 7=.sl (G.map encInt)∧ρ 8=int 0∧ρ 9=int k∧ρ 10=int C∧ρ 6=int out,fun ρ _=>(dimF x (memS (s:Int)) (k + 1)).toNat - natOf (ρ 6),
      ⟨dimF x (memS (s:Int)) k,Int.le_refl _,by rw [hsucc]; unfold imax; split <;> omega,by simp only [go_sem,e2,e7,e8,e9,e6],by simp only [go_sem,e2,e7,e8,e9,e6],by simp only [go_sem,e2,e7,e8,e9,e6],by simp only [go_sem,e2,e7,e8,e9,e6],by simp only [go_sem,e2,e7,e8,e9,e6],by simp only [go_sem,e2,e7,e8,e9,e6]⟩,?_⟩
    clear e2 e7 e8 e9 e6
    rintro ρ H ⟨out,ho1,ho2,e2,e7,e8,e9,e10,e6⟩
    have hmul:out * C≤63001 * 1000:=Int.le_trans (Int.mul_le_mul_of_nonneg_right (by omega:out≤63001) (by omega)) (Int.mul_le_mul_of_nonneg_left hC.2 (by omega))
    have hmul0:0≤out * C:=Int.mul_nonneg (by omega) (by omega)
    have w1:IntKind.i64.wrap (out * C)=out * C:=wrap_in (by omega)
    simp only [go_sem,e2,e7,e8,e9,e10,e6,hgl,bG,w1]
    refine acond_i (fun hb=>?_) (fun hb=>?_)
    · have hb:L > out * C:=by simpa using hb
      have hT:¬ T≤out:=fun h=>by have:=(q2 hc out (by omega)).1 h; omega
      have w2:IntKind.i64.wrap (out + 1)=out + 1:=wrap_in (by omega)
      have hup:out + 1≤dimF x (memS (s:Int)) (k + 1):=by rw [hsucc] at ho2 ⊢; unfold imax at ho2 ⊢; split at ho2 <;> split <;> omega
      simp only [go_sem,e2,e7,e8,e9,e10,e6,w2]
      exact ⟨⟨out + 1,by omega,hup,rfl⟩,by simp only [natOf_int]; omega⟩
    · have hb:¬ L > out * C:=by simpa using hb
      have hT:T≤out:=(q2 hc out (by omega)).2 (by omega)
      simp only [go_sem,e2,e7,e8,e9,e10,e6,wrapS (show k≤4611686018427387904 by omega)]
      refine ⟨⟨k + 1,hlt,rfl,?_⟩,by simp only [natOf_int]; omega⟩
      have:out=dimF x (memS (s:Int)) (k + 1):=by rw [hsucc] at ho2 ⊢; unfold imax at ho2 ⊢; split at ho2 <;> split <;> omega
      rw [this]
  · have hge:k=t.cap.length:=by simp at hge; omega
    subst hge
    simp only [go_sem,e2,e7,e8,e9,e6]
    exact .refl _
theorem exist_mem {n s:Nat} (hn:n≤62) (hs:s < 2 ^ 63):existP n (s:Int)=!((memS (s:Int)).any fun i=>decide (i≥(n:Int))):=by
  rw [exist_nat,Bool.eq_iff_iff]
  simp only [Bool.not_eq_true',decide_eq_true_eq,List.any_eq_false]
  constructor
  · intro h i hi
    have:=memS_in h hn i hi
    omega
  · intro h
    refine Nat.lt_pow_two_of_testBit _ fun j hj=>?_
    cases hb:s.testBit j with
    | false=>rfl
    | true=>
      have hj63:j < 63:=by
        rcases Nat.lt_or_ge j 63 with h1 | h1
        · exact h1
        · rw [Nat.testBit_lt_two_pow (Nat.lt_of_lt_of_le hs (Nat.pow_le_pow_right (by decide) h1))] at hb; cases hb
      have:=h (j:Int) (memS_iff.2 ⟨j,hj63,hb,rfl⟩)
      omega
theorem right28_c (x:Instance) (d:Nat) (one:Cut) (h:LoadsOk x d) (ht:x.types≠[]) (hset:one.set < 9223372036854775808):PC Tryz.prog 94 [.agg (encInstance x),.agg (encCut one)] (int (rightC x d one)):=by
  have ho62:=h.orders
  refine PC.body (c:=Tryz.f94.body.getD .skip) (fun _=>false) mixed Tryz.func94 rfl (by kernel_rfl) ?_
  unfold Tryz.f94
  simp only [Option.getD_some]
  simp only [go_sem]
  unfold rightC
  refine acond_i (fun h1=>?_) (fun h1=>?_)
  · have h1:one.kind≠1∧one.kind≠2:=by simpa using h1
    simp only [go_sem]
    rw [if_neg h1.1,if_neg h1.2]
    exact .refl _
  have hkd:one.kind=1∨one.kind=2:=by
    simp at h1
    by_cases e:one.kind=1
    · exact .inl e
    · exact .inr (h1 e)
  simp only [go_sem]
  refine acond_i (fun h2=>?_) (fun h2=>?_)
  · have he:existP x.orders.length one.set=false:=by unfold existP; rw [show decide (one.set≥0)=false by simpa using h2]; rfl
    simp only [go_sem]
    rw [he]
    rcases hkd with hkd | hkd
    · rw [if_pos hkd,if_pos (by rfl)]; exact .refl _
    · rw [if_neg (by omega),if_pos hkd,if_pos (by rfl)]; exact .refl _
  obtain ⟨s,hs⟩:=Int.eq_ofNat_of_zero_le (a:=one.set) (by simpa using h2)
  have hs63:s < 2 ^ 63:=by omega
  have hsl:(memS (s:Int)).length=popK 63 s:=memU_pop s 63 (Nat.le_refl _)
  have h63p:=popK_le 63 s
  have hpos:=mem_pos hs63
  have hex:=exist_mem ho62 hs63
  rw [hs,Int.toNat_natCast,← hsl]
  simp only [go_sem,hs]
  refine PC.use (members5_c s hs63) ?_
  simp only [go_sem]
  refine ⟨fun ρ H=>∃ (k:Nat),k≤(memS (s:Int)).length∧ρ 2=.rp (encInstance x) 0∧ρ 3=.rp (encCut one) 0∧ρ 5=.sl ((memS (s:Int)).map encInt)∧ρ 6=int k∧∀ i∈(memS (s:Int)).take k,decide (i≥(x.orders.length:Int))=false,fun ρ _=>(memS (s:Int)).length - natOf (ρ 6),⟨0,Nat.zero_le _,by simp only [go_sem],by simp only [go_sem],by simp only [go_sem],(by simp only [go_sem]; rfl),by simp⟩,?_⟩
  rintro ρ H ⟨k,hk,e2,e3,e5,e6,hz⟩
  simp only [go_sem,e2,e3,e5,e6]
  refine acond_i (fun hlt=>?_) (fun hge=>?_)
  · have hlt:=ltB hlt
    obtain ⟨i,hi⟩:=getIn hlt
    have b1:=inB hlt
    simp only [go_sem,e2,e3,e5,e6]
    refine adraw_q (by rfl) (by kernel_rfl) ?_
    simp only [go_sem,e2,e3,e5,e6,getD_map hi,b1]
    refine acond_i (fun hb=>?_) (fun hb=>?_)
    · rw [hex,any_yes hi hb]
      simp only [go_sem]
      rcases hkd with hkd | hkd
      · rw [if_pos hkd,if_pos (by rfl)]; exact .refl _
      · rw [if_neg (by omega),if_pos hkd,if_pos (by rfl)]; exact .refl _
    · simp only [go_sem,e2,e3,e5,e6,wrapS (show k≤4611686018427387904 by omega)]
      exact ⟨⟨k + 1,hlt,rfl,take_all' (p:=fun i=>decide (i≥(x.orders.length:Int))=false) hi hb hz⟩,by simp only [natOf_int]; omega⟩
  have hge:=geB hk hge
  subst hge
  rw [List.take_length] at hz
  rw [hex,any_none hz]
  have h63:(memS (s:Int)).length≤63:=memU_len _ _
  simp only [go_sem,e2,e3,e5,e6,List.length_map]
  refine acond_i (fun h1=>?_) (fun h1=>?_)
  · rw [if_pos (by simpa using h1)]
    simp only [go_sem,e2,e3,e5,e6,List.length_map]
    refine acond_i (fun hb=>?_) (fun hb=>?_)
    · rw [if_pos (by simpa using hb)]
      simp only [go_sem]
      exact .refl _
    rw [if_neg (by simpa using hb)]
    simp only [go_sem,e2,e3,e5,e6]
    refine acond_i (fun hb=>?_) (fun hb=>?_)
    · rw [if_pos (by simpa using hb)]
      simp only [go_sem]
      exact .refl _
    · rw [if_neg (by simpa using hb)]
      simp only [go_sem]
      exact .refl _
  have h1:one.kind≠1:=by simpa using h1
  rw [if_neg h1,if_pos (hkd.resolve_left h1)]
  simp only [go_sem,e2,e3,e5,e6,List.length_map]
  have hz0:(((memS (s:Int)).length:Int) == 0)=((s:Int) == 0):=by
    rw [Bool.eq_iff_iff,beq_iff_eq,beq_iff_eq]
    omega
  rw [hz0]
  refine acond_i (fun hb=>?_) (fun hb=>?_)
  · rw [if_pos (by rw [hb]; rfl)]
    simp only [go_sem]
    exact .refl _
  rw [if_neg (by rw [hb]; simp)]
  have htr:=trips28_c x d (s:Int) h ht (by omega)
  simp only [go_sem,e2,e3,e5,e6]
  refine adraw_q (by rfl) (by kernel_rfl) ?_
  simp only [go_sem,e2,e3,e5,e6,hs]
  refine ⟨_,fun _=>htr.q rfl,?_⟩
  simp only [go_sem]
  refine acond_i (fun hb=>?_) (fun hb=>?_)
  · rw [if_pos (by exact hb)]
    simp only [go_sem]
    exact .refl _
  · rw [if_neg (by rw [show (decide (one.n < 1) || decide (one.n > tripsP x d (s:Int)))=false from hb]; simp)]
    simp only [go_sem]
    exact .refl _
end Go.Proofs.YtpddaldlebngaaaGreatDoor.Nu
end

section
set_option linter.unusedSimpArgs false
set_option linter.unusedVariables false
namespace Go.So
variable {α:Type}
structure SWO (lt:α→α→Bool):Prop where
  asym:∀ a b,lt a b=true→lt b a=false
  neg:∀ a b c,lt a b=false→lt b c=false→lt a c=false
def tlt (lt:α→α→Bool) (p q:α × Nat):Prop:=lt p.1 q.1=true∨(lt q.1 p.1=false∧p.2 < q.2)
section
variable {lt:α→α→Bool} (h:SWO lt)
include h
end
section
variable {lt:α→α→Bool} (h:SWO lt)
include h
end
def ranks (A B:List (α × Nat)):Prop:=∀ x∈A,∀ y∈B,x.2 < y.2
structure Good (lt:α→α→Bool) (R:List (List (α × Nat))):Prop where
  srt:∀ A∈R,A.Pairwise (tlt lt)
  rk:R.Pairwise ranks
end Go.So
end

section
set_option linter.unusedSimpArgs false
set_option linter.unusedVariables false
namespace Go.Proofs.YtpddaldlebngaaaGreatDoor.Nu
open Go.Aw Go.Aw.D Go.Proofs Ty Go.Nu Go.So
set_option maxRecDepth 100000
structure Broken where
  cut:Cut
  by_:ByteArray
def encBroken (x:Broken):List AV:=[.v (.int .i64 x.cut.kind),.v (.int .i64 x.cut.set),.v (.int .i64 x.cut.n),.v (.string x.by_)]
theorem updH_self {H:Heap} {j:Nat} {r:Row} (h:H j=some r):updH H j (some r)=H:=by
  funext k
  unfold updH
  split
  · next e=>rw [e,h]
  · rfl
end Go.Proofs.YtpddaldlebngaaaGreatDoor.Nu
end

section
set_option linter.unusedSimpArgs false
set_option linter.unusedVariables false
namespace Go.Proofs.YtpddaldlebngaaaGreatDoor.Nu
open Go.Aw Go.Aw.D Go.Proofs Ty Go.Nu Go.So
set_option maxRecDepth 100000
abbrev TB:=Broken × Nat
def fs (L:List TB):List Broken:=L.map Prod.fst
structure CmpOk (gf:Nat) (lt:Broken→Broken→Bool) (ok:Broken→Prop):Prop where
  call:callOk Tryz.prog gf=true
  cmp:∀ x y,ok x→ok y→∃ n:Int,decide (n < 0)=lt x y∧PC Tryz.prog gf [.agg (encBroken x),.agg (encBroken y)] (int n)
end Go.Proofs.YtpddaldlebngaaaGreatDoor.Nu
end

section
set_option linter.unusedSimpArgs false
set_option linter.unusedVariables false
namespace Go.Proofs.YtpddaldlebngaaaGreatDoor.Nu
open Go.Aw Go.Aw.D Go.Proofs Ty Go.Nu Go.So
set_option maxRecDepth 100000
section
variable {gf:Nat} {lt:Broken→Broken→Bool} {ok:Broken→Prop}
end
end Go.Proofs.YtpddaldlebngaaaGreatDoor.Nu
end

section
set_option linter.unusedSimpArgs false
set_option linter.unusedVariables false
namespace Go.Proofs.YtpddaldlebngaaaGreatDoor.Nu
open Go.Aw Go.Aw.D Go.Proofs Ty Go.Nu Go.So
set_option maxRecDepth 100000
section
variable {gf:Nat} {lt:Broken→Broken→Bool} {ok:Broken→Prop}
end
end Go.Proofs.YtpddaldlebngaaaGreatDoor.Nu
end

section
set_option linter.unusedSimpArgs false
set_option linter.unusedVariables false
namespace Go.Proofs.YtpddaldlebngaaaGreatDoor.Dec
open Go.Aw Go.Aw.D Go.Proofs Ty
set_option maxRecDepth 100000
theorem convI {H:Heap} {k:IntKind} {a b:Int} (h:a=b):Conv H (.v (.int k a)) (.v (.int k b)):=h ▸ .refl _
theorem convB {H:Heap} {a b:Bool} (h:a=b):Conv H (.v (.bool a)) (.v (.bool b)):=h ▸ .refl _
def orderR (x:Instance) (n:Int):Bool:=decide (n≥0) && decide (n < (x.orders.length:Int))
theorem order_c (x:Instance) (n:Int):PC Tryz.prog 183 [.agg (encInstance x),int n] (boo (orderR x n)):=by
  refine PC.body (c:=Tryz.f183.body.getD .skip) (fun _=>false) mixed Tryz.func183 rfl (by kernel_rfl) ?_
  unfold Tryz.f183
  simp only [Option.getD_some]
  simp only [go_sem]
  exact .refl _
theorem known1_c (x:Instance) (n:Int):PC Tryz.prog 160 [int n,.rp (encInstance x) 0] (boo (orderR x n)):=by
  refine PC.body (c:=Tryz.f160.body.getD .skip) (fun _=>false) mixed Tryz.func160 rfl (by kernel_rfl) ?_
  unfold Tryz.f160
  simp only [Option.getD_some]
  simp only [go_sem]
  exact .refl _
def knownR (x:Instance) (d:Decision):Int:=
  if d.kind=1∨d.kind=2 then (if orderR x d.a && orderR x d.b && d.a != d.b then 0 else 2)
  else if d.kind=5∨d.kind=6 then (if orderR x d.a then 0 else 2)
  else if d.kind=3∨d.kind=4 then (if decide (d.a≥0) && decide (d.a < (x.types.length:Int)) && decide (d.n≥0) && decide (d.n≤10) then 0 else 2)
  else 8
theorem known_c (x:Instance) (d:Decision):PC Tryz.prog 123 [.agg (encInstance x),.agg (encDecision d)] (int (knownR x d)):=by
  refine PC.body (c:=Tryz.f123.body.getD .skip) (fun _=>false) mixed Tryz.func123 rfl (by kernel_rfl) ?_
  unfold Tryz.f123
  simp only [Option.getD_some]
  simp only [go_sem]
  repeat' (first | (refine PC.use (known1_c _ _) ?_) | (refine ⟨_,fun _=>PC.q (known1_c _ _) rfl,?_⟩) | (refine ⟨_,PC.q (known1_c _ _) rfl,?_⟩) | (refine acond_i (fun hb=>?_) (fun hb=>?_)) | (simp only [go_sem]))
  all_goals (refine convI ?_; (try unfold knownR); generalize orderR x d.a=p at *; generalize orderR x d.b=q at *; cases p <;> cases q <;> simp_all <;> (try omega))
theorem one_c (x:Instance) (d:Decision):PC Tryz.prog 143 [.agg (encInstance x),.agg (encDecision d)] (int (knownR x d)):=by
  refine PC.body (c:=Tryz.f143.body.getD .skip) (fun _=>false) mixed Tryz.func143 rfl (by kernel_rfl) ?_
  unfold Tryz.f143
  simp only [Option.getD_some]
  simp only [go_sem]
  repeat' (first | (refine PC.use (order_c _ _) ?_) | (refine ⟨_,fun _=>PC.q (order_c _ _) rfl,?_⟩) | (refine ⟨_,PC.q (order_c _ _) rfl,?_⟩) | (refine acond_i (fun hb=>?_) (fun hb=>?_)) | (simp only [go_sem]))
  all_goals (refine convI ?_; (try unfold knownR); generalize orderR x d.a=p at *; generalize orderR x d.b=q at *; cases p <;> cases q <;> simp_all <;> (try omega))
def firstErr:List Int→Int
  | []=>0
  | e :: r=>if e != 0 then e else firstErr r
theorem firstErr_hit {l:List Int} {k:Nat} {e:Int} (h:∀ e∈l.take k,e=0) (hk:l[k]?=some e) (he:(e != 0)=true):firstErr l=e:=by
  induction l generalizing k with
  | nil=>simp at hk
  | cons a r ih=>
    cases k with
    | zero=>simp at hk; subst hk; simp only [firstErr]; rw [if_pos he]
    | succ k=>
      have h0:=h a (by simp)
      subst h0
      simp only [firstErr]
      exact ih (k:=k) (fun e he'=>h e (by simp [he'])) (by simpa using hk)
theorem firstErr_none {l:List Int} (h:∀ e∈l,e=0):firstErr l=0:=by
  induction l with
  | nil=>rfl
  | cons a r ih=>have h0:=h a (by simp); subst h0; simp only [firstErr]; exact ih fun e he=>h e (by simp [he])
theorem firstErr_zero {l:List Int} (h:firstErr l=0):∀ e∈l,e=0:=by
  induction l with
  | nil=>simp
  | cons a r ih=>
    simp only [firstErr] at h
    split at h
    · rename_i hb; simp at hb; exact absurd h hb
    · rename_i hb; simp at hb; intro e he; rcases List.mem_cons.1 he with rfl | he; exact hb; exact ih h e he
def chkR (x:Instance) (l:List Decision):Int:=if decide ((l.length:Int) > 1024) then 4 else firstErr (l.map (knownR x))
theorem chk_c (x:Instance) (l:List Decision) (hl:l.length≤1048576):PC Tryz.prog 68 [.agg (encInstance x),.sl (l.map encDecision)] (int (chkR x l)):=by
  refine PC.body (c:=Tryz.f68.body.getD .skip) (fun _=>false) mixed Tryz.func68 rfl (by kernel_rfl) ?_
  unfold Tryz.f68
  simp only [Option.getD_some]
  simp only [go_sem]
  refine acond_i (fun hb=>?_) (fun hb=>?_)
  · simp only [go_sem]
    exact convI (by unfold chkR; rw [if_pos hb])
  · have hc:chkR x l=firstErr (l.map (knownR x)):=by unfold chkR; rw [if_neg (by rw [hb]; simp)]
    rw [hc]
    simp only [go_sem]
    refine ⟨fun ρ _=>∃ k:Nat,k≤l.length∧ρ 2=.rp (encInstance x) 0∧ρ 11=.sl (l.map encDecision)∧ρ 12=int l.length∧ρ 13=int k∧∀ e∈(l.map (knownR x)).take k,e=0,fun ρ _=>l.length - natOf (ρ 13),⟨0,Nat.zero_le _,rfl,rfl,rfl,rfl,by simp⟩,?_⟩
    rintro ρ H ⟨k,hk,h2,h11,h12,h13,hz⟩
    simp only [go_sem,h2,h11,h12,h13]
    refine acond_i (fun hlt=>?_) (fun hge=>?_)
    · have hlt:=le_of_lt_b hlt
      obtain ⟨d,hd⟩:=getIn hlt
      have b1:=inB hlt
      simp only [go_sem,h2,h11,h12,h13,getD_map hd,b1]
      refine anew_i fun j hj=>?_
      simp only [go_sem,h2,h11,h12,h13,getD_map hd,b1]
      refine wputE_n (updH_same _ _ _) (by simp [encDecision_len]) ?_
      simp only [go_sem,h2,h11,h12,h13,getD_map hd,b1]
      refine PC.use (known_c x d) ?_
      simp only [go_sem,h2,h11,h12,h13]
      refine acond_i (fun hb=>?_) (fun hb=>?_)
      · simp only [go_sem]
        exact convI (firstErr_hit hz (by simp [hd]) hb).symm
      · simp only [go_sem,h2,h11,h12,h13,wrapS (show k≤4611686018427387904 by omega)]
        refine ⟨⟨k + 1,hlt,rfl,?_⟩,by simp only [natOf_int]; omega⟩
        rw [take_succ (x:=knownR x d) (by simp [hd])]
        intro e he
        rcases List.mem_append.1 he with he | he
        · exact hz e he
        · simp at he; subst he; simpa using hb
    · have hge:=eq_of_ge_b hk hge
      subst hge
      simp only [go_sem]
      exact convI (firstErr_none (by rw [List.take_of_length_le (by simp)] at hz; exact hz)).symm
theorem chk29_c (x:Instance) (l:List Decision) (hl:l.length≤1048576):PC Tryz.prog 93 [.agg (encInstance x),.sl (l.map encDecision)] (int (chkR x l)):=by
  refine PC.body (c:=Tryz.f93.body.getD .skip) (fun _=>false) mixed Tryz.func93 rfl (by kernel_rfl) ?_
  unfold Tryz.f93
  simp only [Option.getD_some]
  simp only [go_sem]
  refine acond_i (fun hb=>?_) (fun hb=>?_)
  · simp only [go_sem]
    exact convI (by unfold chkR; rw [if_pos hb])
  · have hc:chkR x l=firstErr (l.map (knownR x)):=by unfold chkR; rw [if_neg (by rw [hb]; simp)]
    rw [hc]
    simp only [go_sem]
    refine ⟨fun ρ _=>∃ k:Nat,k≤l.length∧ρ 2=.rp (encInstance x) 0∧ρ 1=.sl (l.map encDecision)∧ρ 5=int k∧∀ e∈(l.map (knownR x)).take k,e=0,fun ρ _=>l.length - natOf (ρ 5),⟨0,Nat.zero_le _,rfl,rfl,rfl,by simp⟩,?_⟩
    rintro ρ H ⟨k,hk,h2,h1,h5,hz⟩
    simp only [go_sem,h2,h1,h5]
    refine acond_i (fun hlt=>?_) (fun hge=>?_)
    · have hlt:=le_of_lt_b hlt
      obtain ⟨d,hd⟩:=getIn hlt
      have b1:=inB hlt
      simp only [go_sem]
      refine adraw_q (by rfl) (by kernel_rfl) ?_
      simp only [go_sem,h2,h1,h5,getD_map hd,b1]
      refine ⟨_,(one_c x d).q rfl,?_⟩
      simp only [go_sem,h2,h1,h5]
      refine acond_i (fun hb=>?_) (fun hb=>?_)
      · simp only [go_sem]
        exact convI (firstErr_hit hz (by simp [hd]) hb).symm
      · simp only [go_sem,h2,h1,h5,wrapS (show k≤4611686018427387904 by omega)]
        refine ⟨⟨k + 1,hlt,rfl,?_⟩,by simp only [natOf_int]; omega⟩
        rw [take_succ (x:=knownR x d) (by simp [hd])]
        intro e he
        rcases List.mem_append.1 he with he | he
        · exact hz e he
        · simp at he; subst he; simpa using hb
    · have hge:=eq_of_ge_b hk hge
      subst hge
      simp only [go_sem]
      exact convI (firstErr_none (by rw [List.take_of_length_le (by simp)] at hz; exact hz)).symm
theorem and1 (x:Int):bitV .and .i64 x 1=x % 2:=by
  have h:((BitVec.ofInt 64 x &&& BitVec.ofInt 64 1).toNat:Int)=x % 2:=by
    rw [BitVec.toNat_and,BitVec.toNat_ofInt,BitVec.toNat_ofInt]
    have:((1:Int) % ((2 ^ 64:Nat):Int)).toNat=1:=by decide
    rw [this,Nat.and_one_is_mod]
    omega
  refine Eq.trans (congrArg IntKind.i64.wrap h) ?_
  exact wrap_in (by omega)
theorem or_nat {a b:Nat} (ha:a < 2 ^ 63) (hb:b < 2 ^ 63):bitV .or .i64 (a:Int) (b:Int)=((a ||| b:Nat):Int):=by
  have h:((BitVec.ofInt 64 (a:Int) ||| BitVec.ofInt 64 (b:Int)).toNat:Int)=((a ||| b:Nat):Int):=by
    rw [BitVec.toNat_or,BitVec.toNat_ofInt,BitVec.toNat_ofInt]
    have h1:((a:Int) % ((2 ^ 64:Nat):Int)).toNat=a:=by omega
    have h2:((b:Int) % ((2 ^ 64:Nat):Int)).toNat=b:=by omega
    rw [h1,h2]
  refine Eq.trans (congrArg IntKind.i64.wrap h) ?_
  have:=Nat.or_lt_two_pow ha hb
  exact wrap_in (by omega)
theorem and_nat {a b:Nat} (ha:a < 2 ^ 63) (hb:b < 2 ^ 63):bitV .and .i64 (a:Int) (b:Int)=((a &&& b:Nat):Int):=by
  have h:((BitVec.ofInt 64 (a:Int) &&& BitVec.ofInt 64 (b:Int)).toNat:Int)=((a &&& b:Nat):Int):=by
    rw [BitVec.toNat_and,BitVec.toNat_ofInt,BitVec.toNat_ofInt]
    have h1:((a:Int) % ((2 ^ 64:Nat):Int)).toNat=a:=by omega
    have h2:((b:Int) % ((2 ^ 64:Nat):Int)).toNat=b:=by omega
    rw [h1,h2]
  refine Eq.trans (congrArg IntKind.i64.wrap h) ?_
  have:=@Nat.and_le_left a b
  exact wrap_in (by omega)
theorem shr_in {x:Int} {i:Nat} (h:i≤62):shV .shr .i64 x (i:Int)=x / 2 ^ i:=by
  show x.fdiv (2 ^ min ((i:Int)).toNat 64)=_
  have:min ((i:Int)).toNat 64=i:=by omega
  rw [this,Int.fdiv_eq_ediv_of_nonneg _ (by exact Int.le_of_lt (Int.pow_pos (by decide)))]
theorem shl_in {i:Nat} (h:i≤62):shV .shl .i64 1 (i:Int)=((2 ^ i:Nat):Int):=by
  show IntKind.i64.wrap (1 * 2 ^ min ((i:Int)).toNat 64)=_
  have:min ((i:Int)).toNat 64=i:=by omega
  rw [this,Int.one_mul]
  have h2:(2:Nat) ^ i≤2 ^ 62:=Nat.pow_le_pow_right (by decide) h
  have h3:((2:Int) ^ i)=((2 ^ i:Nat):Int):=by norm_cast
  rw [h3]
  generalize 2 ^ i=m at h2
  exact wrap_in (by omega)
def hasR (set i:Int):Bool:=decide (i≥0) && decide (i≤62) && ((set / 2 ^ i.toNat) % 2 == 1)
theorem has_c (set i:Int):PC Tryz.prog 71 [int set,int i] (boo (hasR set i)):=by
  refine PC.body (c:=Tryz.f71.body.getD .skip) (fun _=>false) mixed Tryz.func71 rfl (by kernel_rfl) ?_
  unfold Tryz.f71
  simp only [Option.getD_some]
  simp only [go_sem]
  refine ⟨fun h=>?_,?_⟩
  · simp at h; omega
  · refine convB ?_
    unfold hasR
    rw [and1]
    by_cases h:0≤i∧i≤62
    · obtain ⟨h0,h1⟩:=h
      have e:=shr_in (x:=set) (i:=i.toNat) (by omega)
      rw [Int.toNat_of_nonneg h0] at e
      rw [e]
    · have:(decide (i≥0) && decide (i≤62))=false:=by simp; omega
      rw [this]; rfl
def hasN (set i:Int):Bool:=(set / 2 ^ i.toNat) % 2 == 1
theorem has29_c (set i:Int) (hs:0≤set) (hs2:set≤9223372036854775807) (hi:i≤9223372036854775807):PC Tryz.prog 147 [int set,int i] (boo (hasN set i)):=by
  refine PC.body (c:=Tryz.f147.body.getD .skip) (fun _=>false) mixed Tryz.func147 rfl (by kernel_rfl) ?_
  unfold Tryz.f147
  simp only [Option.getD_some]
  simp only [go_sem]
  refine ⟨fun ρ _=>∃ k:Nat,(k:Int)≤max i 0∧ρ 1=int i∧ρ 5=int k∧ρ 0=int (set / 2 ^ k),fun ρ _=>i.toNat - natOf (ρ 5),⟨0,by omega,rfl,rfl,by simp [env0,upd]⟩,?_⟩
  rintro ρ H ⟨k,hk,h1,h5,h0⟩
  have hpos:0≤set / 2 ^ k:=Int.ediv_nonneg hs (Int.le_of_lt (Int.pow_pos (by decide)))
  simp only [go_sem,h1,h5,h0]
  refine acond_i (fun hlt=>?_) (fun hge=>?_)
  · have hlt:(k:Int) < i:=by simpa using hlt
    have hw:IntKind.i64.wrap ((k:Int) + 1)=((k + 1:Nat):Int):=by rw [wrap_in (by omega)]; omega
    simp only [go_sem,h1,h5,h0,hw,natOf_int]
    refine ⟨by omega,⟨k + 1,by omega,rfl,?_⟩,by omega⟩
    rw [Int.tdiv_eq_ediv_of_nonneg hpos,Int.pow_succ,← Int.ediv_ediv_of_nonneg (Int.le_of_lt (Int.pow_pos (by decide)))]
    have hle:set / 2 ^ k≤set:=Int.ediv_le_self _ hs
    generalize set / 2 ^ k=m at hpos hle
    exact congrArg (fun z=>AV.v (Value.int .i64 z)) (wrap_in (by omega))
  · have hge:i≤(k:Int):=by simpa using hge
    have hki:k=i.toNat:=by omega
    subst hki
    simp only [go_sem,h1,h5,h0]
    refine ⟨by omega,convB ?_⟩
    rw [Int.tmod_eq_emod_of_nonneg hpos]
    rfl
def allowsR (d:Decision) (set:Int):Bool:=
  if d.kind=1 then hasR set d.a == hasR set d.b else if d.kind=2 then !hasR set d.a || !hasR set d.b else if d.kind=6 then !hasR set d.a else true
theorem allows_c (d:Decision) (set:Int):PC Tryz.prog 91 [.agg (encDecision d),int set] (boo (allowsR d set)):=by
  refine PC.body (c:=Tryz.f91.body.getD .skip) (fun _=>false) mixed Tryz.func91 rfl (by kernel_rfl) ?_
  unfold Tryz.f91
  simp only [Option.getD_some]
  simp only [go_sem]
  refine adraw_q (by rfl) (by kernel_rfl) ?_
  repeat' (first | (refine PC.use (has_c _ _) ?_) | (refine ⟨_,fun _=>PC.q (has_c _ _) rfl,?_⟩) | (refine ⟨_,PC.q (has_c _ _) rfl,?_⟩) | (refine acond_i (fun hb=>?_) (fun hb=>?_)) | (simp only [go_sem]))
  all_goals (refine convB ?_; unfold allowsR; simp_all)
def forbidsR (d:Decision) (set:Int):Bool:=
  if d.kind=1 then hasN set d.a != hasN set d.b else if d.kind=2 then hasN set d.a && hasN set d.b else if d.kind=6 then hasN set d.a else false
def decB (d:Decision):Prop:=bDecision 0 d
theorem forbids_c (d:Decision) (set:Int) (hd:decB d) (hs:0≤set) (hs2:set≤9223372036854775807):PC Tryz.prog 103 [.agg (encDecision d),int set] (boo (forbidsR d set)):=by
  have ha:d.a≤9223372036854775807:=hd.2.1.2
  have hb':d.b≤9223372036854775807:=hd.2.2.1.2
  refine PC.body (c:=Tryz.f103.body.getD .skip) (fun _=>false) mixed Tryz.func103 rfl (by kernel_rfl) ?_
  unfold Tryz.f103
  simp only [Option.getD_some]
  simp only [go_sem]
  refine acond_i (fun hb=>?_) (fun hb=>?_)
  · simp only [go_sem]
    refine adraw_q (by rfl) (by kernel_rfl) ?_
    repeat' (first | (refine PC.use (has29_c _ _ hs hs2 ha) ?_) | (refine ⟨_,fun _=>PC.q (has29_c _ _ hs hs2 ha) rfl,?_⟩) | (refine ⟨_,PC.q (has29_c _ _ hs hs2 ha) rfl,?_⟩) | (refine PC.use (has29_c _ _ hs hs2 hb') ?_) | (refine ⟨_,fun _=>PC.q (has29_c _ _ hs hs2 hb') rfl,?_⟩) | (refine ⟨_,PC.q (has29_c _ _ hs hs2 hb') rfl,?_⟩) | (refine acond_i (fun hb=>?_) (fun hb=>?_)) | (simp only [go_sem]))
    all_goals (refine convB ?_; unfold forbidsR; generalize hasN set d.a=p at *; generalize hasN set d.b=q at *; cases p <;> cases q <;> simp_all)
  · simp only [go_sem]
    repeat' (first | (refine PC.use (has29_c _ _ hs hs2 ha) ?_) | (refine ⟨_,fun _=>PC.q (has29_c _ _ hs hs2 ha) rfl,?_⟩) | (refine ⟨_,PC.q (has29_c _ _ hs hs2 ha) rfl,?_⟩) | (refine PC.use (has29_c _ _ hs hs2 hb') ?_) | (refine ⟨_,fun _=>PC.q (has29_c _ _ hs hs2 hb') rfl,?_⟩) | (refine ⟨_,PC.q (has29_c _ _ hs hs2 hb') rfl,?_⟩) | (refine acond_i (fun hb=>?_) (fun hb=>?_)) | (simp only [go_sem]))
    all_goals (refine convB ?_; unfold forbidsR; generalize hasN set d.a=p at *; generalize hasN set d.b=q at *; cases p <;> cases q <;> simp_all)
theorem all_hit {α:Type} {p:α→Bool} {l:List α} {k:Nat} {x:α} (hk:l[k]?=some x) (hx:p x=false):l.all p=false:=by
  rw [List.all_eq_false]
  exact ⟨x,List.mem_of_getElem? hk,by simp [hx]⟩
theorem all_none {α:Type} {p:α→Bool} {l:List α} (h:∀ x∈l.take l.length,p x=true):l.all p=true:=by
  rw [List.take_length] at h
  rw [List.all_eq_true]; exact h
theorem take_all {α:Type} {p:α→Bool} {l:List α} {k:Nat} {x:α} (hk:l[k]?=some x) (hx:p x=true) (h:∀ x∈l.take k,p x=true):∀ x∈l.take (k + 1),p x=true:=by
  rw [take_succ hk]
  intro y hy
  rcases List.mem_append.1 hy with hy | hy
  · exact h y hy
  · simp at hy; subst hy; exact hx
theorem take_allP {α:Type} {p:α→Prop} {l:List α} {k:Nat} {x:α} (hk:l[k]?=some x) (hx:p x) (h:∀ x∈l.take k,p x):∀ x∈l.take (k + 1),p x:=by
  rw [take_succ hk]
  intro y hy
  rcases List.mem_append.1 hy with hy | hy
  · exact h y hy
  · simp at hy; subst hy; exact hx
theorem Allows_c (l:List Decision) (c:Column) (hl:l.length≤1048576):PC Tryz.prog 45 [.sl (l.map encDecision),.agg (encColumn c)] (boo (l.all fun d=>allowsR d c.set)):=by
  refine PC.body (c:=Tryz.f45.body.getD .skip) (fun _=>false) mixed Tryz.func45 rfl (by kernel_rfl) ?_
  unfold Tryz.f45
  simp only [Option.getD_some]
  simp only [go_sem]
  refine ⟨fun ρ _=>∃ k:Nat,k≤l.length∧ρ 3=.rp (encColumn c) 0∧ρ 7=.sl (l.map encDecision)∧ρ 8=int l.length∧ρ 9=int k∧∀ d∈l.take k,allowsR d c.set=true,fun ρ _=>l.length - natOf (ρ 9),⟨0,Nat.zero_le _,rfl,rfl,rfl,rfl,by simp⟩,?_⟩
  rintro ρ H ⟨k,hk,h3,h7,h8,h9,hz⟩
  simp only [go_sem,h3,h7,h8,h9]
  refine acond_i (fun hlt=>?_) (fun hge=>?_)
  · have hlt:=le_of_lt_b hlt
    obtain ⟨d,hd⟩:=getIn hlt
    have b1:=inB hlt
    simp only [go_sem,h3,h7,h8,h9,getD_map hd,b1]
    refine anew_i fun j hj=>?_
    simp only [go_sem,h3,h7,h8,h9,getD_map hd,b1]
    refine wputE_n (updH_same _ _ _) (by simp [encDecision_len]) ?_
    simp only [go_sem,h3,h7,h8,h9,getD_map hd,b1]
    refine PC.use (allows_c d _) ?_
    simp only [go_sem,h3,h7,h8,h9]
    refine acond_i (fun hb=>?_) (fun hb=>?_)
    · simp only [go_sem]
      exact convB (all_hit hd (by simpa using hb)).symm
    · simp only [go_sem,h3,h7,h8,h9,wrapS (show k≤4611686018427387904 by omega)]
      exact ⟨⟨k + 1,hlt,rfl,take_all hd (by simpa using hb) hz⟩,by simp only [natOf_int]; omega⟩
  · have hge:=eq_of_ge_b hk hge
    subst hge
    simp only [go_sem]
    exact convB (all_none hz).symm
theorem Allows29_c (l:List Decision) (c:Column) (hl:l.length≤1048576) (hd0:∀ d∈l,decB d) (hs:0≤c.set) (hs2:c.set≤9223372036854775807):PC Tryz.prog 54 [.sl (l.map encDecision),.agg (encColumn c)] (boo (l.all fun d=>!forbidsR d c.set)):=by
  refine PC.body (c:=Tryz.f54.body.getD .skip) (fun _=>false) mixed Tryz.func54 rfl (by kernel_rfl) ?_
  unfold Tryz.f54
  simp only [Option.getD_some]
  simp only [go_sem]
  refine ⟨fun ρ _=>∃ k:Nat,k≤l.length∧ρ 3=.rp (encColumn c) 0∧ρ 0=.sl (l.map encDecision)∧ρ 5=int k∧∀ d∈l.take k,forbidsR d c.set=false,fun ρ _=>l.length - natOf (ρ 5),⟨0,Nat.zero_le _,rfl,rfl,rfl,by simp⟩,?_⟩
  rintro ρ H ⟨k,hk,h3,h0,h5,hz⟩
  simp only [go_sem,h3,h0,h5]
  refine acond_i (fun hlt=>?_) (fun hge=>?_)
  · have hlt:=le_of_lt_b hlt
    obtain ⟨d,hd⟩:=getIn hlt
    have b1:=inB hlt
    simp only [go_sem]
    refine adraw_q (by rfl) (by kernel_rfl) ?_
    simp only [go_sem,h3,h0,h5,getD_map hd,b1]
    refine ⟨_,(forbids_c d _ (hd0 d (List.mem_of_getElem? hd)) hs hs2).q rfl,?_⟩
    refine acond_i (fun hb=>?_) (fun hb=>?_)
    · simp only [go_sem]
      exact convB (all_hit (p:=fun d=>!forbidsR d c.set) hd (by simpa using hb)).symm
    · simp only [go_sem,h3,h0,h5,wrapS (show k≤4611686018427387904 by omega)]
      exact ⟨⟨k + 1,hlt,rfl,take_allP (p:=fun d=>forbidsR d c.set=false) hd (by simpa using hb) hz⟩,by simp only [natOf_int]; omega⟩
  · have hge:=eq_of_ge_b hk hge
    subst hge
    simp only [go_sem]
    exact convB (all_none fun d hd=>by rw [hz d hd]; rfl).symm
end Go.Proofs.YtpddaldlebngaaaGreatDoor.Dec
end

section
set_option linter.unusedSimpArgs false
set_option linter.unusedVariables false
namespace Go.Aw.D
open Go.Aw Go.RowKit Go.Proofs Go.Proofs.YtpddaldlebngaaaGreatDoor Go.WideShapes Go.ChangeShapes
set_option maxRecDepth 100000
section
variable {H:Type} {e:TypeId × Value→H} {w:World}
theorem rd_LRat:Rd e (BK H) Tryz.prog w 36 (fun l:List ByteArray=>[.sl (l.map encStr)]) (bL bStr):=rd_slice (sz:=1) Tryz.underlying36 (by kernel_rfl) (by omega) (fun _=>rfl) (rd_str Tryz.underlying58)
end
def rowLaid:List (String × DataW Unit):=[("math/bits.deBruijn32tab",Go.Proofs.YtpddaldlebngaaaGreatDoor.Rows.laid_math_bits_deBruijn32tab),("math/bits.deBruijn64tab",Go.Proofs.YtpddaldlebngaaaGreatDoor.Rows.laid_math_bits_deBruijn64tab),("internal/strconv.uint64pow10",Go.Proofs.YtpddaldlebngaaaGreatDoor.Rows.laid_internal_strconv_uint64pow10)]
theorem laid_bru:(Go.Proofs.YtpddaldlebngaaaGreatDoor.Rows.laid_math_bits_deBruijn64tab:DataW Unit)=Lib.tabData .u8 (Lib.deBruijn64tab.map fun z:Nat=>(z:Int)):=by kernel_rfl
theorem laid_pow:(Go.Proofs.YtpddaldlebngaaaGreatDoor.Rows.laid_internal_strconv_uint64pow10:DataW Unit)=Lib.tabData .u64 Lib.pow10Tab:=by kernel_rfl
theorem tabsIn_of {W:World} (h:laidMetH Tryz.prog rowLaid W):TabsIn W:=by
  have h0:laidMet Tryz.prog rowLaid W:=(Go.MakeChecks.laidMetH_plain Tryz.prog rowLaid W (by kernel_rfl)) ▸ h
  have h1:=laidMet.tail h0
  have h2:=laidMet.tail h1
  rw [laid_bru] at h1
  rw [laid_pow] at h2
  have b:=Lib.tabIs_of_head (g:=3) (by kernel_rfl) (by kernel_rfl) (t:=273) (e:=5) (n:=64) Tryz.underlying273 Tryz.underlying5 (by kernel_rfl) (by kernel_rfl) h1
  have p:=Lib.tabIs_of_head (g:=1) (by kernel_rfl) (by kernel_rfl) (t:=262) (e:=248) (n:=20) Tryz.underlying262 Tryz.underlying248 (by kernel_rfl) (by kernel_rfl) h2
  unfold Lib.TabIs World.var? at b p
  rw [show Tryz.prog.globalNamed "math/bits.deBruijn64tab" = some 3 by kernel_rfl] at b
  rw [show Tryz.prog.globalNamed "internal/strconv.uint64pow10" = some 1 by kernel_rfl] at p
  intro t ht
  simp only [tabL,List.mem_cons,List.not_mem_nil,or_false] at ht
  rcases ht with rfl | rfl
  · exact p
  · have:bruTab=((Lib.deBruijn64tab.map fun z:Nat=>(z:Int)).map fun z=>Value.int .u8 z).toArray:=by simp [bruTab]
    rw [this]
    exact b
end Go.Aw.D
end
