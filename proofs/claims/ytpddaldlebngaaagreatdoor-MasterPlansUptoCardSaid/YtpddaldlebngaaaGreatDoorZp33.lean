/- Texts joined by a program: MaE, MaG. -/
import Derived.Test.YtpddaldlebngaaaGreatDoorZp32

section
set_option linter.unusedSimpArgs false
set_option linter.unusedVariables false
namespace Go.Proofs.YtpddaldlebngaaaGreatDoor.Nu
open Go.Aw Go.Aw.D Go.Proofs Ty Go.Nu
open Dec (chkR knownR allowsR forbidsR decB hasN)
set_option maxRecDepth 100000
theorem andNot_nat {a b:Nat} (ha:a < 2 ^ 63) (hb:b < 2 ^ 63):∃ s:Nat,bitV .andNot .i64 (a:Int) (b:Int)=(s:Int)∧s≤a∧∀ i,s.testBit i=(a.testBit i && !b.testBit i):=by
  have h1:((a:Int) % ((2 ^ 64:Nat):Int)).toNat=a:=by omega
  have h2:((b:Int) % ((2 ^ 64:Nat):Int)).toNat=b:=by omega
  have h3:BitVec.ofInt 64 (a:Int)=BitVec.ofNat 64 a:=by apply BitVec.eq_of_toNat_eq; rw [BitVec.toNat_ofInt,BitVec.toNat_ofNat,h1,Nat.mod_eq_of_lt (by omega)]
  have h4:BitVec.ofInt 64 (b:Int)=BitVec.ofNat 64 b:=by apply BitVec.eq_of_toNat_eq; rw [BitVec.toNat_ofInt,BitVec.toNat_ofNat,h2,Nat.mod_eq_of_lt (by omega)]
  have hle:(BitVec.ofNat 64 a &&& ~~~BitVec.ofNat 64 b).toNat≤a:=by
    rw [BitVec.toNat_and,BitVec.toNat_ofNat,Nat.mod_eq_of_lt (by omega:a < 2 ^ 64)]
    exact Nat.and_le_left
  refine ⟨(BitVec.ofNat 64 a &&& ~~~BitVec.ofNat 64 b).toNat,?_,hle,fun i=>?_⟩
  · have h:((BitVec.ofInt 64 (a:Int) &&& ~~~(BitVec.ofInt 64 (b:Int))).toNat:Int)=(((BitVec.ofNat 64 a &&& ~~~BitVec.ofNat 64 b).toNat:Nat):Int):=by rw [h3,h4]
    refine Eq.trans (congrArg IntKind.i64.wrap h) ?_
    exact wrap_in (by omega)
  · rw [BitVec.testBit_toNat]
    by_cases hi:i < 64
    · simp only [BitVec.getLsbD_and,BitVec.getLsbD_not,BitVec.getLsbD_ofNat,hi,decide_true,Bool.true_and]
    · rw [BitVec.getLsbD_of_ge _ _ (by omega),Nat.testBit_lt_two_pow (Nat.lt_of_lt_of_le ha (Nat.pow_le_pow_right (by decide) (by omega)))]; rfl
theorem mem_skip (x : Instance) (h : x.orders.length ≤ 62) (ds : List Decision) {s : Nat} (hs : ∀ i, s.testBit i = ((allO x).testBit i && !(mustO x).testBit i)) :
    (memS (s:Int)).filter (skipB x ds)=skipsM x ds∧(memS (s:Int)).length≤63∧∀ i∈memS (s:Int),∃ n o,i=((n:Nat):Int)∧n < x.orders.length∧x.orders[n]?=some o:=by
  have ht:∀ i,(allO x).testBit i=(decide (i < x.orders.length) && suchB (fun _=>true) x.orders i):=fun i=>bitsN_test _ _ _
  have hm:∀ i,(mustO x).testBit i=(decide (i < x.orders.length) && suchB (fun o=>o.penalty == -1) x.orders i):=fun i=>bitsN_test _ _ _
  have h63:∀ i:Nat,hasR ((s:Nat):Int) (i:Int)=(decide (i < x.orders.length) && (suchB (fun _=>true) x.orders i && !suchB (fun o=>o.penalty == -1) x.orders i)):=by
    intro i
    by_cases hi:i < x.orders.length
    · rw [hasR_nat (by omega),hs,ht,hm,decide_eq_true hi]; simp
    · rw [decide_eq_false hi,Bool.false_and]
      by_cases h62:i≤62
      · rw [hasR_nat h62,hs,ht,decide_eq_false hi]; simp
      · unfold hasR
        rw [decide_eq_false (show ¬ ((i:Int)≤62) by omega)]
        simp
  have hmem:memS (s:Int)=((List.range x.orders.length).filter fun i=>suchB (fun _=>true) x.orders i && !suchB (fun o=>o.penalty == -1) x.orders i).map fun i:Nat=>(i:Int):=by
    unfold memS memU
    congr 1
    obtain ⟨m,hmm⟩:∃ m,63=x.orders.length + m:=⟨63 - x.orders.length,by omega⟩
    rw [hmm]
    refine filter_cut (fun i hi=>?_) (fun i hi=>?_) m
    · rw [h63,decide_eq_true hi,Bool.true_and]
    · rw [h63,decide_eq_false (by omega),Bool.false_and]
  refine ⟨?_,?_,?_⟩
  · rw [hmem]
    unfold skipsM ordI ordN
    rw [List.filter_map,List.filter_map,List.filter_filter,List.filter_filter]
    congr 1
    refine List.filter_congr fun i hi=>?_
    have hlt:=List.mem_range.1 hi
    obtain ⟨o,ho⟩:=getIn hlt
    rw [suchB_at ho,suchB_at ho]
    have hp:penAt x (i:Int)=o.penalty:=by unfold penAt; rw [orderAt_get ho]
    show (skipB x ds (i:Int) && _)=(skipB x ds (i:Int) && _)
    by_cases hq:o.penalty=-1
    · have:skipB x ds (i:Int)=false:=by unfold skipB; rw [hp,hq]; rfl
      rw [this]; rfl
    · have:(o.penalty == -1)=false:=by simpa using hq
      rw [this]; simp
  · exact memU_len _ 63
  · intro i hi
    rw [hmem] at hi
    obtain ⟨n,hn,rfl⟩:=List.mem_map.1 hi
    have hlt:=List.mem_range.1 (List.mem_filter.1 hn).1
    obtain ⟨o,ho⟩:=getIn hlt
    exact ⟨n,o,rfl,hlt,ho⟩
def cntV (ds:List Decision) (i:Int):Nat:=ds.countP fun d=>d.kind == 5 && d.a == i
theorem cntV_succ {ds:List Decision} {k:Nat} {d:Decision} {i:Int} (h:ds[k]?=some d):cntV (ds.take (k + 1)) i=cntV (ds.take k) i + (if (d.kind == 5 && d.a == i)=true then 1 else 0):=by
  unfold cntV
  rw [take_succ h,List.countP_append,List.countP_cons,List.countP_nil,Nat.zero_add]
theorem cntV_le (ds:List Decision) (k:Nat) (i:Int):cntV (ds.take k) i≤k:=Nat.le_trans List.countP_le_length (by rw [List.length_take]; omega)
theorem cntV_zero (ds:List Decision) (i:Int):((cntV ds i:Int) == 0)=!servedB ds i:=by
  unfold cntV servedB
  rw [Bool.eq_iff_iff]
  simp only [beq_iff_eq,Bool.not_eq_true',List.any_eq_false]
  constructor
  · intro h d hd hc
    have:0 < ds.countP fun d=>d.kind == 5 && d.a == i:=List.countP_pos_iff.2 ⟨d,hd,hc⟩
    omega
  · intro h
    have:(ds.countP fun d=>d.kind == 5 && d.a == i)=0:=List.countP_eq_zero.2 h
    omega
theorem skips_c (x:Instance) (ds:List Decision) (hx:x.orders.length≤62) (hd:ds.length≤1048576):PC Tryz.prog 18 [.agg (encInstance x),.sl (ds.map encDecision)] (.sl ((skipsM x ds).map encInt)):=by
  refine PC.body (c:=Tryz.f18.body.getD .skip) (fun t=>t == 8) mixed Tryz.func18 rfl (by kernel_rfl) ?_
  unfold Tryz.f18
  simp only [Option.getD_some]
  simp only [go_sem]
  refine anew_i fun jm hjm0=>?_
  generalize hGjm:updH _ jm _=HGjm
  have Rm:HGjm jm=some (mapRow []):=by rw [← hGjm,updH_same]; rfl
  clear hGjm hjm0
  simp only [go_sem,List.length_map,Rm]
  refine ⟨fun ρ H=>∃ (k:Nat) (m:List (Int × Int)),k≤ds.length∧ρ 2=.rp (encInstance x) 0∧ρ 5=.om jm∧ρ 12=.sl (ds.map encDecision)∧ρ 13=int (ds.length:Nat)∧ρ 14=int k∧H jm=some (mapRow m)∧∀ i,getM m i=(cntV (ds.take k) i:Nat),fun ρ _=>ds.length - natOf (ρ 14),⟨0,[],Nat.zero_le _,by simp only [go_sem],by simp only [go_sem],by simp only [go_sem],by simp only [go_sem,List.length_map],(by simp only [go_sem]; rfl),Rm,fun _=>rfl⟩,?_⟩
  rintro ρ H ⟨k,m,hk,e2,e5,e12,e13,e14,Rm,hm⟩
  simp only [go_sem,e2,e5,e12,e13,e14]
  refine acond_i (fun hlt=>?_) (fun hge=>?_)
  · have hlt:=ltB (by simpa using hlt)
    obtain ⟨d,hdd⟩:=getIn hlt
    have b1:=inB hlt
    simp only [go_sem,e2,e5,e12,e13,e14,getD_map hdd,b1]
    refine anew_i fun i7 hi70=>?_
    have ne_jm_i7:jm≠i7:=ne_new Rm hi70
    simp only [go_sem,e2,e5,e12,e13,e14,Rm]
    refine wputE_n (updH_same _ _ _) (by simp [encDecision_len]) ?_
    generalize hGi7:updH (updH _ i7 _) i7 _=HGi7
    replace Rm:=(congrFun hGi7.symm jm).trans ((updH_ne _ _ _ _ ne_jm_i7).trans ((updH_ne _ _ _ _ ne_jm_i7).trans Rm))
    have R7:HGi7 i7=some (⟨110,4,[encDecision d]⟩):=by rw [← hGi7,updH_same]; rfl
    clear hGi7 hi70
    simp only [go_sem,e2,e5,e12,e13,e14,R7,Rm]
    refine acond_i (fun hb=>?_) (fun hb=>?_)
    · have hk5:d.kind=5:=by simpa using hb
      have hcl:=cntV_le ds k d.a
      have hmv:=hm d.a
      have wm:IntKind.i64.wrap (getM m d.a + 1)=getM m d.a + 1:=wrap_in (by omega)
      simp only [go_sem,e2,e5,e12,e13,e14,R7]
      refine alookup_i Rm ma108 (plain_int _) (mfind_int0 _ _) zv3 ?_
      rw [mget_int]
      simp only [go_sem,e2,e5,e12,e13,e14,wm]
      refine wmapU_i Rm ma108 (plain_int _) (mfind_int0 _ _) ?_
      rw [mput_int]
      generalize hP:updH _ jm _=HP
      replace Rm:HP jm=some (mapRow (putM m d.a (getM m d.a + 1))):=by rw [← hP,updH_same]; skip
      clear hP
      simp only [go_sem,e2,e5,e12,e13,e14,Rm]
      simp only [wrapS (show k≤4611686018427387904 by omega)]
      refine ⟨⟨k + 1,putM m d.a (getM m d.a + 1),hlt,rfl,rfl,fun o=>?_⟩,by simp only [natOf_int]; omega⟩
      rw [getM_put,cntV_succ hdd,hm o,hm d.a]
      by_cases e:o=d.a
      · subst e; rw [hk5]; simp
      · have e2:(d.kind == 5 && d.a == o)=false:=by simp; exact fun _ h=>e h.symm
        rw [if_neg e,e2]; simp
    · have hk5:d.kind≠5:=by simpa using hb
      simp only [go_sem,e2,e5,e12,e13,e14,wrapS (show k≤4611686018427387904 by omega)]
      refine ⟨⟨k + 1,m,hlt,rfl,Rm,fun o=>?_⟩,by simp only [natOf_int]; omega⟩
      have e2:(d.kind == 5 && d.a == o)=false:=by simp; exact fun h=>absurd h hk5
      rw [cntV_succ hdd,hm o,e2]; simp
  have hge:=geB hk (by simpa using hge)
  subst hge
  rw [List.take_length] at hm
  simp only [go_sem,e2,e5,e12,e13,e14]
  refine anew_i fun j hj0=>?_
  have ne_jm_j:jm≠j:=ne_new Rm hj0
  generalize hGj:updH _ j _=HGj
  replace Rm:=(congrFun hGj.symm jm).trans ((updH_ne _ _ _ _ ne_jm_j).trans Rm)
  have R:HGj j=some (iRow []):=by rw [← hGj,updH_same]; rfl
  clear hGj hj0
  simp only [go_sem,e2,e5,e12,e13,e14,R,Rm]
  refine adraw_m [(0,true),(1,true),(2,true),(3,true),(4,true),(7,true),(5,false),(6,false)] (by kernel_rfl) ?_
  have ha63:allO x < 2 ^ 63:=Nat.lt_of_lt_of_le (suchN_lt _ _) (Nat.pow_le_pow_right (by decide) (by omega))
  have hm63:mustO x < 2 ^ 63:=Nat.lt_of_lt_of_le (suchN_lt _ _) (Nat.pow_le_pow_right (by decide) (by omega))
  obtain ⟨s,hs1,hs2,hs3⟩:=andNot_nat ha63 hm63
  obtain ⟨q1,q2,q3⟩:=mem_skip x hx ds hs3
  rw [← q1]
  clear q1
  simp only [go_sem,e2,e5,e12,e13,e14]
  refine ⟨_,(all_c x hx).q rfl,?_⟩
  simp only [go_sem,e2,e5,e12,e13,e14]
  refine ⟨_,(must_c x hx).q rfl,?_⟩
  simp only [go_sem,e2,e5,e12,e13,e14,hs1]
  refine PC.use (members_c _) ?_
  generalize memS (s:Int)=M at *
  simp only [go_sem,e2,e5,e12,e13,e14,List.length_map]
  refine ⟨fun ρ H=>∃ (k:Nat) (j:Nat),k≤M.length∧ρ 2=.rp (encInstance x) 0∧ρ 5=.om jm∧ρ 32=.sl (M.map encInt)∧ρ 33=int (M.length:Nat)∧ρ 34=int k∧ρ 8=.os j∧H j=some (iRow ((M.take k).filter (skipB x ds)))∧H jm=some (mapRow m),fun ρ _=>M.length - natOf (ρ 34),⟨0,j,Nat.zero_le _,by simp only [go_sem,e2,e5],by simp only [go_sem,e2,e5],by simp only [go_sem,e2,e5],by simp only [go_sem,List.length_map,e2,e5],(by simp only [go_sem,e2,e5]; rfl),by simp only [go_sem],R,Rm⟩,?_⟩
  rintro ρ H ⟨k,j,hk,e2,e5,e32,e33,e34,e8,R,Rm⟩
  simp only [go_sem,e2,e5,e32,e33,e34,e8]
  refine acond_i (fun hlt=>?_) (fun hge=>?_)
  · have hlt:=ltB (by simpa using hlt)
    obtain ⟨i,hi⟩:=getIn hlt
    have b1:=inB hlt
    obtain ⟨n,o,rfl,hn,ho⟩:=q3 i (List.mem_of_getElem? hi)
    have b2:=inB hn
    have hfs:=filter_take (p:=skipB x ds) hi
    have hfl:=filter_tl (skipB x ds) M k
    have hpen:penAt x (n:Int)=o.penalty:=by unfold penAt; rw [orderAt_get ho]
    simp only [go_sem,e2,e5,e32,e33,e34,e8,getD_map hi,b1,getD_map ho,b2]
    refine alookup_i Rm ma108 (plain_int _) (mfind_int0 _ _) zv3 ?_
    rw [mget_int,hm]
    simp only [go_sem,e2,e5,e32,e33,e34,e8]
    have hcond:(decide (o.penalty≥0) && ((cntV ds (n:Int):Nat):Int) == 0)=skipB x ds (n:Int):=by unfold skipB; rw [hpen,cntV_zero]
    refine acond_i (fun hb=>?_) (fun hb=>?_)
    · rw [if_pos (by rw [← hcond]; exact hb)] at hfs
      have ne_jm_j:jm≠j:=fun e=>by subst e; rw [Rm] at R; cases R
      simp only [go_sem,e2,e5,e32,e33,e34,e8]
      refine wappE_i R ⟨rfl,rfl⟩ ⟨rfl,trivial⟩ (by simp only [List.length_map,List.length_cons,List.length_nil]; omega) (fun j' hj'0=>?_)
      have ne_jm_j':jm≠j':=ne_new Rm hj'0
      generalize hP:updH (updH _ j none) j' _=HP
      replace Rm:=(congrFun hP.symm jm).trans ((updH_ne _ _ _ _ ne_jm_j').trans ((updH_ne _ _ _ _ (by first | exact ne_jm_j | exact ne_j_jm.symm)).trans Rm))
      have Rn:HP j'=some (iRow ((M.take (k + 1)).filter (skipB x ds))):=by rw [← hP,updH_same]; rw [hfs]; exact congrArg (fun l=>some (⟨3,1,l⟩:Row)) (List.map_append (f:=encInt) (l₁:=(M.take k).filter (skipB x ds)) (l₂:=[(n:Int)])).symm
      clear hP hj'0
      simp only [go_sem,e2,e5,e32,e33,e34,e8,Rn,Rm]
      simp only [wrapS (show k≤4611686018427387904 by omega)]
      exact ⟨⟨k + 1,j',hlt,rfl,rfl,Rn⟩,by simp only [natOf_int]; omega⟩
    · rw [if_neg (by rw [← hcond,show (decide (o.penalty≥0) && ((cntV ds (n:Int):Nat):Int) == 0)=false from hb]; simp),List.append_nil] at hfs
      simp only [go_sem,e2,e5,e32,e33,e34,e8,wrapS (show k≤4611686018427387904 by omega)]
      exact ⟨⟨k + 1,j,hlt,rfl,rfl,by rw [hfs]; exact R,Rm⟩,by simp only [natOf_int]; omega⟩
  have hge:=geB hk (by simpa using hge)
  subst hge
  rw [List.take_length] at R
  simp only [go_sem,e2,e5,e32,e33,e34,e8]
  exact .row _ _ _ R (ConvE.refl _)
def reducedM (x:Instance) (c:Column) (cuts:List Cut) (ds:List Decision) (dual:List ByteArray):ByteArray × Int:=
  if dual.length≠(coefsM x c cuts ds).length then (emp,2) else if (timesR (coefsM x c cuts ds) dual).2≠0 then (emp,(timesR (coefsM x c cuts ds) dual).2) else subR (zed c.price) (timesR (coefsM x c cuts ds) dual).1
theorem zed64_size {n:Int} (h0:-9223372036854775808≤n) (h1:n≤9223372036854775807):(zed n).size≤8194:=by
  have:=Go.Nu.zed_size (m:=n) (lt_max (k:=20) (by omega) (by omega))
  omega
theorem bitI_in (b:Bool):bitI b=0∨bitI b=1:=by cases b <;> simp [bitI]
theorem coefP_in (k:Int) (n:Nat):coefP k n=0∨coefP k n=1:=by unfold coefP; split <;> simp
theorem coefsM_in {x:Instance} {c:Column} {cuts:List Cut} {ds:List Decision} {n:Int} (h:n∈coefsM x c cuts ds):n=0∨n=1:=by
  unfold coefsM coefO coefT coefC coefD at h
  simp only [List.mem_append,List.mem_map] at h
  rcases h with ((⟨i,_,rfl⟩ | ⟨i,_,rfl⟩) | ⟨i,_,rfl⟩) | ⟨i,_,rfl⟩
  · exact bitI_in _
  · exact bitI_in _
  · exact coefP_in _ _
  · exact bitI_in _
theorem mReduced_c (x : Instance) (c : Column) (cuts : List Cut) (ds : List Decision) (dual : List ByteArray) (h : MIn x cuts ds) (hc : ColB c) (hq : CutsB cuts) (hp : -9223372036854775808 ≤ c.price ∧ c.price ≤ 9223372036854775807) (hl : dual.length ≤ 1048576) (hs : ∀ s ∈ dual, s.size ≤ 1048576) :
    PC Tryz.prog 14 [.agg (encInstance x),.agg (encColumn c),.sl (cuts.map encCut),.sl (ds.map encDecision),.sl (dual.map Go.Aw.D.encStr)] (.tup [str (reducedM x c cuts ds dual).1,int (reducedM x c cuts ds dual).2]):=by
  refine PC.body (c:=Tryz.f14.body.getD .skip) (fun _=>false) mixed Tryz.func14 rfl (by kernel_rfl) ?_
  unfold Tryz.f14
  simp only [Option.getD_some]
  simp only [go_sem]
  refine PC.use (coefs_c x c cuts ds h hc hq) ?_
  have hin:∀ n∈coefsM x c cuts ds,-9223372036854775808≤n∧n≤9223372036854775807:=fun n hn=>by rcases coefsM_in hn with e | e <;> omega
  unfold reducedM
  generalize coefsM x c cuts ds=L at *
  simp only [go_sem,List.length_map]
  refine acond_i (fun hb=>?_) (fun hb=>?_)
  · rw [if_pos (by simp at hb; omega)]
    simp only [go_sem]
    exact .refl _
  rw [if_neg (by simp at hb; omega)]
  simp only [go_sem]
  refine PC.use (rTimes_c L dual hin hl hs) ?_
  have htr:=times_right (ns:=L) (xs:=dual)
  generalize timesR L dual=T at *
  obtain ⟨t,e⟩:=T
  simp only [go_sem]
  refine acond_i (fun hb=>?_) (fun hb=>?_)
  · have he:e≠0:=by simpa using hb
    rw [if_pos he]
    simp only [go_sem]
    exact .refl _
  have he:e=0:=by simpa using hb
  rw [if_neg (by simpa using he)]
  have h8:=right_size' (htr he)
  simp only [go_sem]
  refine PC.use (rof_c c.price hp.1 hp.2) ?_
  simp only [go_sem]
  have hz:=zed64_size hp.1 hp.2
  refine PC.use (rSub_c (zed c.price) t (by omega) (by simp only at h8; omega)) ?_
  simp only [go_sem]
  exact .refl _
def badC (x:Instance) (c:Column):Bool:=decide (c.type < 0) || decide (c.type≥(x.types.length:Int)) || decide (c.set≤0) || !decide (c.set.toNat &&& allO x=c.set.toNat)
def wrongM (x:Instance) (d:Nat) (cols:List Column) (cuts:List Cut) (ds:List Decision):Int:=
  if chkR x ds≠0 then chkR x ds else if Dec.firstErr (cuts.map (rightC x d))≠0 then Dec.firstErr (cuts.map (rightC x d)) else if cols.any (badC x)=true then 2 else 0
theorem wrong_c (x : Instance) (d : Nat) (cols : List Column) (cuts : List Cut) (ds : List Decision) (hlo : LoadsOk x d) (hne : x.types ≠ []) (h : MIn x cuts ds) (hl : cols.length ≤ 1048576) (hs : ∀ c ∈ cols, c.set ≤ 9223372036854775807) :
    PC Tryz.prog 29 [.agg (encInstance x),.sl (cols.map encColumn),.sl (cuts.map encCut),.sl (ds.map encDecision)] (int (wrongM x d cols cuts ds)):=by
  have h1:=h.orders
  have h2:=h.types
  have h3:=h.cl
  have h4:=h.dl
  unfold wrongM
  refine PC.body (c:=Tryz.f29.body.getD .skip) (fun _=>false) mixed Tryz.func29 rfl (by kernel_rfl) ?_
  unfold Tryz.f29
  simp only [Option.getD_some]
  simp only [go_sem]
  refine PC.use (Dec.chk_c x ds h4) ?_
  simp only [go_sem]
  refine acond_i (fun hb=>?_) (fun hb=>?_)
  · rw [if_pos (by simpa using hb)]
    simp only [go_sem]
    exact .refl _
  rw [if_neg (by simpa using hb)]
  simp only [go_sem,List.length_map]
  refine ⟨fun ρ H=>∃ (k:Nat),k≤cuts.length∧ρ 1=.sl (cols.map encColumn)∧ρ 4=.rp (encInstance x) 0∧ρ 22=.sl (cuts.map encCut)∧ρ 23=int (cuts.length:Nat)∧ρ 24=int k∧∀ e∈(cuts.map (rightC x d)).take k,e=0,fun ρ _=>cuts.length - natOf (ρ 24),⟨0,Nat.zero_le _,by simp only [go_sem],by simp only [go_sem],by simp only [go_sem],by simp only [go_sem,List.length_map],(by simp only [go_sem]; rfl),by simp⟩,?_⟩
  rintro ρ H ⟨k,hk,e1,e4,e22,e23,e24,hz⟩
  simp only [go_sem,e1,e4,e22,e23,e24]
  refine acond_i (fun hlt=>?_) (fun hge=>?_)
  · have hlt:=ltB (by simpa using hlt)
    obtain ⟨q,hq⟩:=getIn hlt
    have b1:=inB hlt
    have hm:(cuts.map (rightC x d))[k]?=some (rightC x d q):=by rw [List.getElem?_map,hq]; rfl
    simp only [go_sem,e1,e4,e22,e23,e24,getD_map hq,b1]
    refine anew_i fun i11 hi110=>?_
    simp only [go_sem,e1,e4,e22,e23,e24]
    refine wputE_n (updH_same _ _ _) (by simp [encCut_len]) ?_
    generalize hGi11:updH (updH _ i11 _) i11 _=HGi11
    have R11:HGi11 i11=some (⟨126,3,[encCut q]⟩):=by rw [← hGi11,updH_same]; rfl
    clear hGi11 hi110
    simp only [go_sem,e1,e4,e22,e23,e24,R11]
    refine PC.use (rightC_c x d q hlo hne) ?_
    simp only [go_sem,e1,e4,e22,e23,e24]
    refine acond_i (fun hb=>?_) (fun hb=>?_)
    · have he:=Dec.firstErr_hit hz hm hb
      rw [if_pos (by rw [he]; simpa using hb),he]
      simp only [go_sem]
      exact .refl _
    · simp only [go_sem,e1,e4,e22,e23,e24,wrapS (show k≤4611686018427387904 by omega)]
      exact ⟨⟨k + 1,hlt,rfl,take_all' (p:=fun e:Int=>e=0) hm (by simpa using hb) hz⟩,by simp only [natOf_int]; omega⟩
  have hge:=geB hk (by simpa using hge)
  subst hge
  rw [List.take_of_length_le (by rw [List.length_map]; exact Nat.le_refl _)] at hz
  rw [if_neg (by rw [Dec.firstErr_none hz]; simp)]
  simp only [go_sem,e1,e4,e22,e23,e24]
  refine PC.use (all_c x h1) ?_
  simp only [go_sem,e1,e4,e22,e23,e24,List.length_map]
  refine ⟨fun ρ H=>∃ (k:Nat),k≤cols.length∧ρ 4=.rp (encInstance x) 0∧ρ 13=int (allO x:Nat)∧ρ 37=.sl (cols.map encColumn)∧ρ 38=int (cols.length:Nat)∧ρ 39=int k∧∀ c∈cols.take k,badC x c=false,fun ρ _=>cols.length - natOf (ρ 39),⟨0,Nat.zero_le _,by simp only [go_sem,e4],by simp only [go_sem,e4],by simp only [go_sem,e4],by simp only [go_sem,List.length_map,e4],(by simp only [go_sem,e4]; rfl),by simp⟩,?_⟩
  rintro ρ H ⟨k,hk,e4,e13,e37,e38,e39,hz⟩
  simp only [go_sem,e4,e13,e37,e38,e39]
  refine acond_i (fun hlt=>?_) (fun hge=>?_)
  · have hlt:=ltB (by simpa using hlt)
    obtain ⟨c,hc⟩:=getIn hlt
    have b1:=inB hlt
    have hcs:=hs c (List.mem_of_getElem? hc)
    simp only [go_sem,e4,e13,e37,e38,e39,getD_map hc,b1]
    refine anew_i fun i15 hi150=>?_
    simp only [go_sem,e4,e13,e37,e38,e39]
    refine wputE_n (updH_same _ _ _) (by simp [encColumn_len]) ?_
    generalize hGi15:updH (updH _ i15 _) i15 _=HGi15
    have R15:HGi15 i15=some (⟨57,7,[encColumn c]⟩):=by rw [← hGi15,updH_same]; rfl
    clear hGi15 hi150
    simp only [go_sem,e4,e13,e37,e38,e39,R15]
    have hbad:(decide (c.type < 0) || decide (c.type≥(x.types.length:Int)) || decide (c.set≤0) || (bitV .andNot .i64 c.set ((allO x:Nat):Int) != 0))=badC x c:=by
      unfold badC
      by_cases h0:c.set≤0
      · rw [decide_eq_true h0]; simp
      · obtain ⟨s,hs'⟩:=Int.eq_ofNat_of_zero_le (show 0≤c.set by omega)
        have ha63:allO x < 2 ^ 63:=Nat.lt_of_lt_of_le (suchN_lt _ _) (Nat.pow_le_pow_right (by decide) (by omega))
        rw [hs',bne,within_nat (by omega) ha63,Int.toNat_natCast]
    refine acond_i (fun hb=>?_) (fun hb=>?_)
    · have hb:badC x c=true:=by rw [← hbad]; exact hb
      rw [if_pos (List.any_eq_true.2 ⟨c,List.mem_of_getElem? hc,hb⟩)]
      simp only [go_sem]
      exact .refl _
    · have hb:badC x c=false:=by rw [← hbad]; exact hb
      simp only [go_sem,e4,e13,e37,e38,e39,wrapS (show k≤4611686018427387904 by omega)]
      exact ⟨⟨k + 1,hlt,rfl,take_all' (p:=fun c=>badC x c=false) hc hb hz⟩,by simp only [natOf_int]; omega⟩
  have hge:=geB hk (by simpa using hge)
  subst hge
  rw [List.take_length] at hz
  have hany:¬ cols.any (badC x)=true:=by
    intro hc
    obtain ⟨c,hc1,hc2⟩:=List.any_eq_true.1 hc
    rw [hz c hc1] at hc2; cases hc2
  rw [if_neg hany]
  simp only [go_sem,e4,e13,e37,e38,e39]
  exact .refl _
end Go.Proofs.YtpddaldlebngaaaGreatDoor.Nu
end

section
set_option linter.unusedSimpArgs false
set_option linter.unusedVariables false
namespace Go.Proofs.YtpddaldlebngaaaGreatDoor.Nu
open Go.Aw Go.Aw.D Go.Proofs Ty Go.Nu
set_option maxRecDepth 100000
abbrev cellF (f:Nat→Nat) (i:Nat) (r:PRow):List AV:=[.os (f i),int r.kind,int r.right]
abbrev linRow (f:Nat→Nat) (rows:List PRow):Row:=⟨68,3,rows.mapIdx (cellF f)⟩
def updF (f:Nat→Nat) (k c:Nat):Nat→Nat:=fun i=>if i=k then c else f i
structure LinH (H:Heap) (jr:Nat) (f:Nat→Nat) (rows:List PRow):Prop where
  row:H jr=some (linRow f rows)
  coef:∀ (i:Nat) (r:PRow),rows[i]?=some r→H (f i)=some (iRow r.coef)
  inj:∀ i k,i < rows.length→k < rows.length→f i=f k→i=k
theorem cells_app (f:Nat→Nat) (rows:List PRow) (c:Nat) (kd rt:Int):rows.mapIdx (cellF f) ++ [[.os c,int kd,int rt]]=(rows ++ [(⟨[],kd,rt⟩:PRow)]).mapIdx (cellF (updF f rows.length c)):=by
  rw [List.mapIdx_append]
  congr 1
  · refine List.ext_getElem? fun i=>?_
    rw [List.getElem?_mapIdx,List.getElem?_mapIdx]
    cases h:rows[i]? with
    | none=>rfl
    | some r=>
      have hlt:=(List.getElem?_eq_some_iff.1 h).1
      show some (cellF f i r)=some (cellF (updF f rows.length c) i r)
      unfold cellF updF
      rw [if_neg (by omega)]
  · simp [cellF,updF]
theorem cells_set (f:Nat→Nat) (rows:List PRow) (k c:Nat) (r:PRow) (l:List Int) (h:rows[k]?=some r):(rows.mapIdx (cellF f)).set k [.os c,int r.kind,int r.right]=(rows.set k (⟨l,r.kind,r.right⟩:PRow)).mapIdx (cellF (updF f k c)):=by
  have hlt:=(List.getElem?_eq_some_iff.1 h).1
  refine List.ext_getElem? fun i=>?_
  rw [List.getElem?_set,List.getElem?_mapIdx,List.getElem?_mapIdx,List.getElem?_set]
  by_cases hi:k=i
  · subst hi
    rw [if_pos rfl,if_pos rfl,List.length_mapIdx,if_pos hlt,if_pos hlt]
    show some _=some (cellF (updF f k c) k _)
    unfold cellF updF
    rw [if_pos rfl]
  · rw [if_neg hi,if_neg hi]
    cases h2:rows[i]? with
    | none=>rfl
    | some r2=>
      show some (cellF f i r2)=some (cellF (updF f k c) i r2)
      unfold cellF updF
      rw [if_neg (fun e=>hi e.symm)]
structure RowsS (H0 H:Heap) (j:Nat) (f:Nat→Nat) (rows:List PRow):Prop where
  lin:LinH H j f rows
  keep:∀ k row,H0 k=some row→H k=some row
  nj:H0 j=none
  nf:∀ i,i < rows.length→H0 (f i)=none
theorem keep_none {H0 H:Heap} (h:∀ k row,H0 k=some row→H k=some row) {c:Nat} (hc:H c=none):H0 c=none:=by
  cases e:H0 c with
  | none=>rfl
  | some row=>rw [h c row e] at hc; cases hc
theorem LinH.ne {H:Heap} {j:Nat} {f:Nat→Nat} {rows:List PRow} (h:LinH H j f rows) {i:Nat} (hi:i < rows.length):f i≠j:=fun e=>by
  obtain ⟨r,hr⟩:=getIn hi
  have h1:=h.coef i r hr
  rw [e,h.row] at h1
  have h2:(linRow f rows).e=(iRow r.coef).e:=congrArg Row.e (Option.some.inj h1)
  exact absurd (show (68:Nat)=3 from h2) (by decide)
theorem LinH.new {H:Heap} {j:Nat} {f:Nat→Nat} {rows:List PRow} (h:LinH H j f rows) {i:Nat} (hi:H i=none) (a:Option Row):LinH (updH H i a) j f rows:=by
  refine ⟨?_,fun k r hr=>?_,h.inj⟩
  · rw [updH_ne _ _ _ _ (fun e=>by subst e; rw [h.row] at hi; cases hi)]; exact h.row
  · have:=h.coef k r hr
    rw [updH_ne _ _ _ _ (fun e=>by rw [e,hi] at this; cases this)]; exact this
theorem RowsS.new {H0 H:Heap} {j:Nat} {f:Nat→Nat} {rows:List PRow} (h:RowsS H0 H j f rows) {i:Nat} (hi:H i=none) (a b:Option Row):RowsS H0 (updH (updH H i a) i b) j f rows:=by
  have e:updH (updH H i a) i b=updH H i b:=by
    funext k
    by_cases e:k=i
    · subst e; rw [updH_same,updH_same]
    · rw [updH_ne _ _ _ _ e,updH_ne _ _ _ _ e,updH_ne _ _ _ _ e]
  rw [e]
  refine ⟨h.lin.new hi b,fun k row hk=>?_,h.nj,h.nf⟩
  have:=h.keep k row hk
  rw [updH_ne _ _ _ _ (fun e=>by subst e; rw [hi] at this; cases this)]; exact this
theorem RowsS.app {H0 H : Heap} {j : Nat} {f : Nat → Nat} {rows : List PRow} (h : RowsS H0 H j f rows) {c j' : Nat} (hc : H c = none) (hj' : updH H c (some (iRow [])) j' = none) (kd rt : Int) :
    RowsS H0 (updH (updH (updH H c (some (iRow []))) j none) j' (some ⟨68,3,rows.mapIdx (cellF f) ++ [[.os c,int kd,int rt]]⟩)) j' (updF f rows.length c) (rows ++ [⟨[],kd,rt⟩]):=by
  have hjc:c≠j':=fun e=>by subst e; rw [updH_same] at hj'; cases hj'
  have hjn:H j'=none:=by rwa [updH_ne _ _ _ _ hjc.symm] at hj'
  have hcj:c≠j:=fun e=>by subst e; rw [h.lin.row] at hc; cases hc
  refine ⟨⟨?_,fun i r hr=>?_,fun i k hi hk hik=>?_⟩,fun k row hk=>?_,keep_none h.keep hjn,fun i hi=>?_⟩
  · rw [updH_same,cells_app]
  · unfold updF
    by_cases e:i=rows.length
    · subst e
      rw [if_pos rfl,updH_ne _ _ _ _ hjc,updH_ne _ _ _ _ hcj,updH_same]
      have:r=⟨[],kd,rt⟩:=by simpa using hr.symm
      rw [this]
    · have hlt:i < rows.length:=by have:=(List.getElem?_eq_some_iff.1 hr).1; rw [List.length_append] at this; simp at this; omega
      rw [if_neg e]
      rw [List.getElem?_append_left hlt] at hr
      have hh:=h.lin.coef i r hr
      rw [updH_ne _ _ _ _ (fun e=>by rw [e,hjn] at hh; cases hh),updH_ne _ _ _ _ (h.lin.ne hlt),updH_ne _ _ _ _ (fun e=>by rw [e,hc] at hh; cases hh)]
      exact hh
  · have hsome : ∀ i, i < rows.length → f i ≠ c := fun i hi e => by
      obtain ⟨r,hr⟩:=getIn hi
      have:=h.lin.coef i r hr
      rw [e,hc] at this; cases this
    rw [List.length_append] at hi hk
    simp at hi hk
    unfold updF at hik
    by_cases e1:i=rows.length
    · by_cases e2:k=rows.length
      · omega
      · rw [if_pos e1,if_neg e2] at hik
        exact absurd hik.symm (hsome k (by omega))
    · by_cases e2:k=rows.length
      · rw [if_neg e1,if_pos e2] at hik
        exact absurd hik (hsome i (by omega))
      · rw [if_neg e1,if_neg e2] at hik
        exact h.lin.inj i k (by omega) (by omega) hik
  · have hh:=h.keep k row hk
    rw [updH_ne _ _ _ _ (fun e=>by rw [e,hjn] at hh; cases hh),updH_ne _ _ _ _ (fun e=>by rw [e,h.nj] at hk; cases hk),updH_ne _ _ _ _ (fun e=>by rw [e,hc] at hh; cases hh)]
    exact hh
  · unfold updF
    by_cases e:i=rows.length
    · rw [if_pos e]; exact keep_none h.keep hc
    · rw [if_neg e]
      rw [List.length_append] at hi
      simp at hi
      exact h.nf i (by omega)
def rowD (d:Decision):Option PRow:=if d.kind=3 then some ⟨[],1,d.n⟩ else if d.kind=4 then some ⟨[],3,d.n⟩ else none
def rowsO (k:Nat):List PRow:=List.replicate k ⟨[],2,1⟩
def rowsT (l:List VType):List PRow:=l.map fun t=>⟨[],1,t.count⟩
def rowsC (l:List Cut):List PRow:=l.map fun q=>⟨[],(rowC q).1,(rowC q).2⟩
def rowsD (l:List Decision):List PRow:=l.filterMap rowD
def rowsM (x:Instance) (cuts:List Cut) (ds:List Decision):List PRow:=rowsO (ordI x).length ++ rowsT x.types ++ rowsC cuts ++ rowsD ds
theorem rowsD_len (ds:List Decision):(rowsD ds).length=(ds.filter cntD).length:=by
  unfold rowsD
  induction ds with
  | nil=>rfl
  | cons d l ih=>
    rw [List.filterMap_cons,List.filter_cons]
    by_cases h3:d.kind=3
    · rw [show rowD d=some ⟨[],1,d.n⟩ from if_pos h3,if_pos (show cntD d=true by simp [cntD,h3])]
      try simp only [List.length_cons,ih]
    · by_cases h4:d.kind=4
      · rw [show rowD d=some ⟨[],3,d.n⟩ from (if_neg h3).trans (if_pos h4),if_pos (show cntD d=true by simp [cntD,h4])]
        try simp only [List.length_cons,ih]
      · rw [show rowD d=none from (if_neg h3).trans (if_neg h4),if_neg (show ¬ cntD d=true by simp [cntD,h3,h4])]
        try exact ih
theorem rowsM_len (x:Instance) (cuts:List Cut) (ds:List Decision):(rowsM x cuts ds).length=rowsN x cuts ds:=by
  unfold rowsM rowsO rowsT rowsC rowsN
  simp only [List.length_append,List.length_map,List.length_replicate,rowsD_len]
theorem filterMap_take {ds:List Decision} {k:Nat} {d:Decision} (h:ds[k]?=some d):rowsD (ds.take (k + 1))=rowsD (ds.take k) ++ (rowD d).toList:=by
  unfold rowsD
  rw [take_succ h,List.filterMap_append]
  congr 1
theorem mrows_c (x : Instance) (cuts : List Cut) (ds : List Decision) (h : MIn x cuts ds) (H0 : Heap) (K : AV → Heap → Prop) (hK : ∀ j f Hn, RowsS H0 Hn j f (rowsM x cuts ds) → K (.os j) Hn) :
    FCalls Tryz.prog 30 [.agg (encInstance x),.sl (cuts.map encCut),.sl (ds.map encDecision)] H0 K:=by
  have h1:=h.orders
  have h2:=h.types
  have h3:=h.cl
  have h4:=h.dl
  have hol:=ordI_len x
  refine FCalls.body (c:=Tryz.f30.body.getD .skip) (fun t=>t == 7 || t == 23 || t == 37 || t == 55 || t == 72 || t == 80) mixed Tryz.func30 rfl (by kernel_rfl) ?_
  unfold Tryz.f30
  simp only [Option.getD_some]
  simp only [go_sem]
  refine anew_i fun j hj=>?_
  have S:RowsS H0 (updH H0 j (some ⟨68,3,[]⟩)) j id []:=by
    refine ⟨⟨updH_same _ _ _,fun i r hr=>(by simp at hr),fun i k hi=>absurd hi (by simp)⟩,fun k row hk=>?_,hj,fun i hi=>absurd hi (by simp)⟩
    rw [updH_ne _ _ _ _ (fun e=>by subst e; rw [hj] at hk; cases hk)]; exact hk
  generalize updH H0 j _=H1 at S ⊢
  simp only [go_sem]
  refine PC.use (all_c x h1) ?_
  simp only [go_sem]
  refine PC.use (members_c _) ?_
  rw [mem_all x h1]
  simp only [go_sem,List.length_map]
  refine ⟨fun ρ H=>∃ (k:Nat) (j:Nat) (f:Nat→Nat),k≤(ordI x).length∧ρ 1=.sl (cuts.map encCut)∧ρ 2=.sl (ds.map encDecision)∧ρ 3=.rp (encInstance x) 0∧ρ 19=int ((ordI x).length:Nat)∧ρ 20=int k∧ρ 7=.os j∧RowsS H0 H j f (rowsO k),fun ρ _=>(ordI x).length - natOf (ρ 20),⟨0,j,id,Nat.zero_le _,by simp only [go_sem],by simp only [go_sem],by simp only [go_sem],by simp only [go_sem,List.length_map],(by simp only [go_sem]; rfl),by simp only [go_sem],S⟩,?_⟩
  rintro ρ H ⟨k,j,f,hk,e1,e2,e3,e19,e20,e7,S⟩
  simp only [go_sem,e1,e2,e3,e19,e20,e7]
  refine acond_i (fun hlt=>?_) (fun hge=>?_)
  · have hlt:=ltB (by simpa using hlt)
    simp only [go_sem,e1,e2,e3,e19,e20,e7]
    refine anew_i fun c hc=>?_
    have R:=(S.lin.new hc (some (iRow []))).row
    refine wappE_i R ⟨rfl,rfl⟩ ⟨rfl,trivial⟩ (by simp only [List.length_mapIdx,rowsO,List.length_replicate,List.length_cons,List.length_nil]; omega) (fun j' hj'=>?_)
    have S2:=S.app hc hj' 2 1
    have e:rowsO (k + 1)=rowsO k ++ [⟨[],2,1⟩]:=List.replicate_succ'
    rw [← e] at S2
    simp only [go_sem,e1,e2,e3,e19,e20,e7,wrapS (show k≤4611686018427387904 by omega)]
    exact ⟨⟨k + 1,j',_,hlt,rfl,rfl,S2⟩,by simp only [natOf_int]; omega⟩
  have hge:=geB hk (by simpa using hge)
  subst hge
  simp only [go_sem,e1,e2,e3,e19,e20,e7,List.length_map]
  generalize hB:rowsO (ordI x).length=B at S
  have hBl:B.length≤62:=by rw [← hB]; unfold rowsO; rw [List.length_replicate]; omega
  refine ⟨fun ρ H=>∃ (k:Nat) (j:Nat) (f:Nat→Nat),k≤x.types.length∧ρ 1=.sl (cuts.map encCut)∧ρ 2=.sl (ds.map encDecision)∧ρ 28=.sl (x.types.map encVType)∧ρ 29=int (x.types.length:Nat)∧ρ 30=int k∧ρ 7=.os j∧RowsS H0 H j f (B ++ rowsT (x.types.take k)),fun ρ _=>x.types.length - natOf (ρ 30),⟨0,j,f,Nat.zero_le _,by simp only [go_sem,e1,e2],by simp only [go_sem,e1,e2],by simp only [go_sem,e1,e2],by simp only [go_sem,List.length_map,e1,e2],(by simp only [go_sem,e1,e2]; rfl),by simp only [go_sem,e7],by simpa [rowsT] using S⟩,?_⟩
  rintro ρ H ⟨k,j,f,hk,e1,e2,e28,e29,e30,e7,S⟩
  simp only [go_sem,e1,e2,e28,e29,e30,e7]
  refine acond_i (fun hlt=>?_) (fun hge=>?_)
  · have hlt:=ltB (by simpa using hlt)
    obtain ⟨t,ht⟩:=getIn hlt
    have b1:=inB hlt
    have hlen:(B ++ rowsT (x.types.take k)).length≤62 + k:=by unfold rowsT; simp only [List.length_append,List.length_map,List.length_take]; omega
    simp only [go_sem,e1,e2,e28,e29,e30,e7,getD_map ht,b1]
    refine anew_i fun i9 h9=>?_
    simp only [go_sem,e1,e2,e28,e29,e30,e7]
    refine wputE_n (updH_same _ _ _) (by simp [encVType_len]) ?_
    have S1:=S.new h9
    generalize hG:updH (updH H i9 _) i9 _=HG
    replace S1:RowsS H0 HG j f (B ++ rowsT (x.types.take k)):=by rw [← hG]; exact S1 _ _
    have R9:HG i9=some (⟨86,14,[encVType t]⟩:Row):=by rw [← hG,updH_same]; rfl
    clear hG h9
    simp only [go_sem,e1,e2,e28,e29,e30,e7,R9]
    refine anew_i fun c hc=>?_
    have R:=(S1.lin.new hc (some (iRow []))).row
    refine wappE_i R ⟨rfl,rfl⟩ ⟨rfl,trivial⟩ (by simp only [List.length_mapIdx,List.length_cons,List.length_nil]; omega) (fun j' hj'=>?_)
    have S2:=S1.app hc hj' 1 t.count
    have e:B ++ rowsT (x.types.take (k + 1))=B ++ rowsT (x.types.take k) ++ [⟨[],1,t.count⟩]:=by unfold rowsT; rw [take_succ ht,List.map_append,List.append_assoc]; rfl
    rw [← e] at S2
    simp only [go_sem,e1,e2,e28,e29,e30,e7,wrapS (show k≤4611686018427387904 by omega)]
    exact ⟨⟨k + 1,j',_,hlt,rfl,rfl,S2⟩,by simp only [natOf_int]; omega⟩
  have hge:=geB hk (by simpa using hge)
  subst hge
  rw [List.take_length] at S
  simp only [go_sem,e1,e2,e28,e29,e30,e7,List.length_map]
  generalize hB2:B ++ rowsT x.types=B2 at S
  have hBl2:B2.length≤62 + 1048576:=by rw [← hB2]; unfold rowsT; rw [List.length_append,List.length_map]; omega
  refine ⟨fun ρ H=>∃ (k:Nat) (j:Nat) (f:Nat→Nat),k≤cuts.length∧ρ 2=.sl (ds.map encDecision)∧ρ 41=.sl (cuts.map encCut)∧ρ 42=int (cuts.length:Nat)∧ρ 43=int k∧ρ 7=.os j∧RowsS H0 H j f (B2 ++ rowsC (cuts.take k)),fun ρ _=>cuts.length - natOf (ρ 43),⟨0,j,f,Nat.zero_le _,by simp only [go_sem,e2],by simp only [go_sem,e2],by simp only [go_sem,List.length_map,e2],(by simp only [go_sem,e2]; rfl),by simp only [go_sem,e7],by simpa [rowsC] using S⟩,?_⟩
  rintro ρ H ⟨k,j,f,hk,e2,e41,e42,e43,e7,S⟩
  simp only [go_sem,e2,e41,e42,e43,e7]
  refine acond_i (fun hlt=>?_) (fun hge=>?_)
  · have hlt:=ltB (by simpa using hlt)
    obtain ⟨q,hq⟩:=getIn hlt
    have b1:=inB hlt
    have hlen:(B2 ++ rowsC (cuts.take k)).length≤62 + 1048576 + k:=by unfold rowsC; simp only [List.length_append,List.length_map,List.length_take]; omega
    simp only [go_sem,e2,e41,e42,e43,e7,getD_map hq,b1]
    refine anew_i fun i9 h9=>?_
    simp only [go_sem,e2,e41,e42,e43,e7]
    refine wputE_n (updH_same _ _ _) (by simp [encCut_len]) ?_
    have S1:=S.new h9
    generalize hG:updH (updH H i9 _) i9 _=HG
    replace S1:RowsS H0 HG j f (B2 ++ rowsC (cuts.take k)):=by rw [← hG]; exact S1 _ _
    have R9:HG i9=some (⟨126,3,[encCut q]⟩:Row):=by rw [← hG,updH_same]; rfl
    clear hG h9
    simp only [go_sem,e2,e41,e42,e43,e7,R9]
    refine PC.use (row_c q) ?_
    simp only [go_sem,e2,e41,e42,e43,e7]
    refine anew_i fun c hc=>?_
    have R:=(S1.lin.new hc (some (iRow []))).row
    refine wappE_i R ⟨rfl,rfl⟩ ⟨rfl,trivial⟩ (by simp only [List.length_mapIdx,List.length_cons,List.length_nil]; omega) (fun j' hj'=>?_)
    have S2:=S1.app hc hj' (rowC q).1 (rowC q).2
    have e:B2 ++ rowsC (cuts.take (k + 1))=B2 ++ rowsC (cuts.take k) ++ [⟨[],(rowC q).1,(rowC q).2⟩]:=by unfold rowsC; rw [take_succ hq,List.map_append,List.append_assoc]; rfl
    rw [← e] at S2
    simp only [go_sem,e2,e41,e42,e43,e7,wrapS (show k≤4611686018427387904 by omega)]
    exact ⟨⟨k + 1,j',_,hlt,rfl,rfl,S2⟩,by simp only [natOf_int]; omega⟩
  have hge:=geB hk (by simpa using hge)
  subst hge
  rw [List.take_length] at S
  simp only [go_sem,e2,e41,e42,e43,e7,List.length_map]
  generalize hB3:B2 ++ rowsC cuts=B3 at S
  have hBl3:B3.length≤62 + 1048576 + 1048576:=by rw [← hB3]; unfold rowsC; rw [List.length_append,List.length_map]; omega
  refine ⟨fun ρ H=>∃ (k:Nat) (j:Nat) (f:Nat→Nat),k≤ds.length∧ρ 59=.sl (ds.map encDecision)∧ρ 60=int (ds.length:Nat)∧ρ 61=int k∧ρ 7=.os j∧RowsS H0 H j f (B3 ++ rowsD (ds.take k)),fun ρ _=>ds.length - natOf (ρ 61),⟨0,j,f,Nat.zero_le _,by simp only [go_sem],by simp only [go_sem,List.length_map],(by simp only [go_sem]; rfl),by simp only [go_sem,e7],by simpa [rowsD] using S⟩,?_⟩
  rintro ρ H ⟨k,j,f,hk,e59,e60,e61,e7,S⟩
  simp only [go_sem,e59,e60,e61,e7]
  refine acond_i (fun hlt=>?_) (fun hge=>?_)
  · have hlt:=ltB (by simpa using hlt)
    obtain ⟨d,hd⟩:=getIn hlt
    have b1:=inB hlt
    have hs:=filterMap_take hd
    have hlen:(B3 ++ rowsD (ds.take k)).length≤62 + 1048576 + 1048576 + k:=by
      have:=cntD_len ds k
      rw [List.length_append,rowsD_len]; omega
    simp only [go_sem,e59,e60,e61,e7,getD_map hd,b1]
    refine anew_i fun i9 h9=>?_
    simp only [go_sem,e59,e60,e61,e7]
    refine wputE_n (updH_same _ _ _) (by simp [encDecision_len]) ?_
    have S1:=S.new h9
    generalize hG:updH (updH H i9 _) i9 _=HG
    replace S1:RowsS H0 HG j f (B3 ++ rowsD (ds.take k)):=by rw [← hG]; exact S1 _ _
    have R9:HG i9=some (⟨110,4,[encDecision d]⟩:Row):=by rw [← hG,updH_same]; rfl
    clear hG h9
    simp only [go_sem,e59,e60,e61,e7,R9]
    refine acond_i (fun hb=>?_) (fun hb=>?_)
    · have h3:d.kind=3:=by simpa using hb
      rw [show rowD d=some ⟨[],1,d.n⟩ from if_pos h3] at hs
      simp only [go_sem,e59,e60,e61,e7,R9]
      refine anew_i fun c hc=>?_
      have R:=(S1.lin.new hc (some (iRow []))).row
      refine wappE_i R ⟨rfl,rfl⟩ ⟨rfl,trivial⟩ (by simp only [List.length_mapIdx,List.length_cons,List.length_nil]; omega) (fun j' hj'=>?_)
      have S2:=S1.app hc hj' 1 d.n
      have e:B3 ++ rowsD (ds.take (k + 1))=B3 ++ rowsD (ds.take k) ++ [⟨[],1,d.n⟩]:=by rw [hs,List.append_assoc]; rfl
      rw [← e] at S2
      simp only [go_sem,e59,e60,e61,e7,wrapS (show k≤4611686018427387904 by omega)]
      exact ⟨⟨k + 1,j',_,hlt,rfl,rfl,S2⟩,by simp only [natOf_int]; omega⟩
    have h3:d.kind≠3:=by simpa using hb
    simp only [go_sem,e59,e60,e61,e7,R9]
    refine acond_i (fun hb=>?_) (fun hb=>?_)
    · have h4:d.kind=4:=by simpa using hb
      rw [show rowD d=some ⟨[],3,d.n⟩ from (if_neg h3).trans (if_pos h4)] at hs
      simp only [go_sem,e59,e60,e61,e7,R9]
      refine anew_i fun c hc=>?_
      have R:=(S1.lin.new hc (some (iRow []))).row
      refine wappE_i R ⟨rfl,rfl⟩ ⟨rfl,trivial⟩ (by simp only [List.length_mapIdx,List.length_cons,List.length_nil]; omega) (fun j' hj'=>?_)
      have S2:=S1.app hc hj' 3 d.n
      have e:B3 ++ rowsD (ds.take (k + 1))=B3 ++ rowsD (ds.take k) ++ [⟨[],3,d.n⟩]:=by rw [hs,List.append_assoc]; rfl
      rw [← e] at S2
      simp only [go_sem,e59,e60,e61,e7,wrapS (show k≤4611686018427387904 by omega)]
      exact ⟨⟨k + 1,j',_,hlt,rfl,rfl,S2⟩,by simp only [natOf_int]; omega⟩
    have h4:d.kind≠4:=by simpa using hb
    rw [show rowD d=none from (if_neg h3).trans (if_neg h4)] at hs
    simp only [go_sem,e59,e60,e61,e7,wrapS (show k≤4611686018427387904 by omega)]
    refine ⟨⟨k + 1,j,f,hlt,rfl,rfl,?_⟩,by simp only [natOf_int]; omega⟩
    rw [hs]
    simpa using S1
  have hge:=geB hk (by simpa using hge)
  subst hge
  rw [List.take_length] at S
  simp only [go_sem,e59,e60,e61,e7]
  refine hK j f _ ?_
  unfold rowsM
  rw [hB,hB2,hB3]
  exact S
end Go.Proofs.YtpddaldlebngaaaGreatDoor.Nu
end
