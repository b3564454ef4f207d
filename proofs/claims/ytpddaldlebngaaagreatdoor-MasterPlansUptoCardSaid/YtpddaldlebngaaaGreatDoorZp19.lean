/- Texts joined by a program: NuZa, NuN, NuZb. -/
import Derived.Test.YtpddaldlebngaaaGreatDoorZp12
import Derived.Test.YtpddaldlebngaaaGreatDoorZp16
import Derived.Test.YtpddaldlebngaaaGreatDoorZp18

section
set_option linter.unusedSimpArgs false
set_option linter.unusedVariables false
namespace Go.Proofs.YtpddaldlebngaaaGreatDoor.Nu
open Go.Aw Go.Aw.D Go.Proofs Ty Go.Nu
set_option maxRecDepth 100000
theorem compare3z_c (a b:ByteArray) (ha:a.size≤1048570) (hb:b.size≤1048570):PC Tryz.prog 157 [str a,str b] (int (cmpZ a b)):=by
  refine PC.body (c:=Tryz.f157.body.getD .skip) (fun _=>false) mixed Tryz.func157 rfl (by kernel_rfl) ?_
  unfold Tryz.f157
  simp only [Option.getD_some]
  simp only [go_sem]
  refine PC.use (right3_c a (by omega)) ?_
  simp only [go_sem]
  refine ⟨_,fun _=>(right3_c b (by omega)).q rfl,?_⟩
  simp only [go_sem]
  refine acond_i (fun hc=>?_) (fun hc=>?_)
  · simp only [go_sem]
    refine cI ?_
    unfold cmpZ
    rw [if_neg]
    rintro ⟨h1,h2⟩
    rw [h1,h2] at hc
    cases hc
  have hr:rightZ a=true∧rightZ b=true:=by simpa using hc
  rw [show cmpZ a b=cmpI (valZ a) (valZ b) from if_pos hr]
  have za:=zed_valZ hr.1
  have zb:=zed_valZ hr.2
  have la:(limbs 10 (valZ a).natAbs).length≤1048570:=by
    have h1:=limbs_dec (valZ a).natAbs
    have h2:=digZ_le (zed (valZ a))
    rw [digZ_zed,za] at h2
    omega
  have lb:(limbs 10 (valZ b).natAbs).length≤1048570:=by
    have h1:=limbs_dec (valZ b).natAbs
    have h2:=digZ_le (zed (valZ b))
    rw [digZ_zed,zb] at h2
    omega
  have pa:=parts3_c (valZ a) (by rw [za]; omega)
  have pb:=parts3_c (valZ b) (by rw [zb]; omega)
  rw [za] at pa
  rw [zb] at pb
  generalize valZ a=m at *
  generalize valZ b=n at *
  simp only [go_sem]
  refine PC.use pa ?_
  simp only [go_sem]
  refine PC.use pb ?_
  simp only [go_sem]
  refine acond_i (fun h2=>?_) (fun h2=>?_)
  · have h2:m < 0∧n < 0:=by simpa using h2
    simp only [go_sem]
    refine PC.use (compare3_c n.natAbs m.natAbs (by omega) (by omega)) ?_
    simp only [go_sem]
    refine cI ?_
    unfold cmpI
    have c1:((n.natAbs:Nat):Int) < ((m.natAbs:Nat):Int)↔m < n:=by omega
    have c2:((m.natAbs:Nat):Int) < ((n.natAbs:Nat):Int)↔n < m:=by omega
    simp only [c1,c2]
  · simp only [go_sem]
    refine acond_i (fun h3=>?_) (fun h3=>?_)
    · have h3:m < 0:=of_decide_eq_true h3
      have h4:¬ n < 0:=fun h=>by simp [h3,h] at h2
      simp only [go_sem]
      exact cI (by rw [cmpI_lt (by omega)])
    · have h3:¬ m < 0:=of_decide_eq_false h3
      simp only [go_sem]
      refine acond_i (fun h4=>?_) (fun h4=>?_)
      · have h4:n < 0:=of_decide_eq_true h4
        simp only [go_sem]
        exact cI (by rw [cmpI_gt (by omega)])
      · have h4:¬ n < 0:=of_decide_eq_false h4
        simp only [go_sem]
        refine PC.use (compare3_c m.natAbs n.natAbs (by omega) (by omega)) ?_
        simp only [go_sem]
        exact cI (by rw [show ((m.natAbs:Nat):Int)=m by omega,show ((n.natAbs:Nat):Int)=n by omega])
theorem zed_len {n:Int} {k:Nat} (h:(limbs 10 n.natAbs).length≤k):(zed n).size≤k + 2:=by
  have h1:(digZ (zed n)).size=(dec n.natAbs).size:=by rw [digZ_zed]
  have h3:(dec n.natAbs).size≤k + 1:=by
    rw [size_dec]
    by_cases h0:n.natAbs=0
    · rw [h0,Lib.decDigits_one (by omega)]; simp
    · have:=congrArg List.length (txt_limbs h0)
      rw [← this]
      simp [txt]
      omega
  unfold digZ at h1
  split at h1
  · rw [← bl_size,bl_mk,List.length_drop] at h1
    rw [← bl_size]; omega
  · omega
theorem add_len (m n:Nat):(limbs 10 (m + n)).length≤max (limbs 10 m).length (limbs 10 n).length + 1:=by
  refine limbs_len_le (by decide) ?_
  have h1:=ofL_lt (b:=10) (by decide) (limbs_lim (b:=10) (by decide) m)
  have h2:=ofL_lt (b:=10) (by decide) (limbs_lim (b:=10) (by decide) n)
  rw [ofL_limbs (by decide)] at h1 h2
  have h3:10 ^ (limbs 10 m).length≤10 ^ max (limbs 10 m).length (limbs 10 n).length:=Nat.pow_le_pow_right (by decide) (by omega)
  have h4:10 ^ (limbs 10 n).length≤10 ^ max (limbs 10 m).length (limbs 10 n).length:=Nat.pow_le_pow_right (by decide) (by omega)
  rw [Nat.pow_succ]
  omega
theorem mul_len (m n:Nat):(limbs 10 (m * n)).length≤(limbs 10 m).length + (limbs 10 n).length:=by
  refine limbs_len_le (by decide) ?_
  have h1:=ofL_lt (b:=10) (by decide) (limbs_lim (b:=10) (by decide) m)
  have h2:=ofL_lt (b:=10) (by decide) (limbs_lim (b:=10) (by decide) n)
  rw [ofL_limbs (by decide)] at h1 h2
  rw [Nat.pow_add]
  exact Nat.mul_lt_mul'' h1 h2
theorem add3_c (a b:ByteArray) (ha:a.size≤1048576) (hb:b.size≤1048576):PC Tryz.prog 197 [str a,str b] (.tup [str (addZ a b).1,int (addZ a b).2]):=by
  refine PC.body (c:=Tryz.f197.body.getD .skip) (fun _=>false) mixed Tryz.func197 rfl (by kernel_rfl) ?_
  unfold Tryz.f197
  simp only [Option.getD_some]
  simp only [go_sem]
  refine PC.use (check3_c a b ha hb) ?_
  simp only [go_sem]
  refine acond_i (fun h=>?_) (fun h=>?_)
  · have h:errZ a b≠0:=by simpa using h
    simp only [go_sem]
    rw [show addZ a b=(emp,errZ a b) from if_neg h]
    exact .refl _
  have h:errZ a b=0:=by simpa using h
  rw [show addZ a b=szZ (valZ a + valZ b) from if_pos h]
  obtain ⟨m,n,rfl,rfl,hm,hn⟩:=errZ_zero h
  have lm:=limbs_max hm
  have ln:=limbs_max hn
  have hs:=add_len m.natAbs n.natAbs
  have hs2:=limbs_len_mono (b:=10) (by decide) (show (m + n).natAbs≤m.natAbs + n.natAbs by omega)
  have hz:=zed_len (n:=m + n) (Nat.le_refl _)
  rw [valZ_zed,valZ_zed]
  simp only [go_sem]
  refine PC.use (parts3_c m (by omega)) ?_
  simp only [go_sem]
  refine PC.use (parts3_c n (by omega)) ?_
  simp only [go_sem]
  refine PC.use (sum3_c _ _ m.natAbs n.natAbs (by omega) (by omega) (by omega)) ?_
  rw [sg_zed,sg_zed]
  simp only [go_sem]
  refine PC.use (result3_c (m + n) (by omega)) ?_
  simp only [go_sem]
  exact .refl _
theorem mul3_c (a b:ByteArray) (ha:a.size≤1048576) (hb:b.size≤1048576):PC Tryz.prog 196 [str a,str b] (.tup [str (mulZ a b).1,int (mulZ a b).2]):=by
  refine PC.body (c:=Tryz.f196.body.getD .skip) (fun _=>false) mixed Tryz.func196 rfl (by kernel_rfl) ?_
  unfold Tryz.f196
  simp only [Option.getD_some]
  simp only [go_sem]
  refine PC.use (check3_c a b ha hb) ?_
  simp only [go_sem]
  refine acond_i (fun h=>?_) (fun h=>?_)
  · have h:errZ a b≠0:=by simpa using h
    simp only [go_sem]
    rw [show mulZ a b=(emp,errZ a b) from if_neg h]
    exact .refl _
  have h:errZ a b=0:=by simpa using h
  rw [show mulZ a b=szZ (valZ a * valZ b) from if_pos h]
  obtain ⟨m,n,rfl,rfl,hm,hn⟩:=errZ_zero h
  have lm:=limbs_max hm
  have ln:=limbs_max hn
  have hs:=mul_len m.natAbs n.natAbs
  have hz:=zed_len (n:=m * n) (k:=8192) (by rw [Int.natAbs_mul]; omega)
  have hsg:sg (decide (m < 0) != decide (n < 0)) (m.natAbs * n.natAbs)=m * n:=by
    unfold sg
    rcases Int.lt_or_le m 0 with h1 | h1 <;> rcases Int.lt_or_le n 0 with h2 | h2
    · have e:m * n=(m.natAbs:Int) * n.natAbs:=by rw [show (m.natAbs:Int)=-m by omega,show (n.natAbs:Int)=-n by omega,Int.neg_mul_neg]
      rw [if_neg (by simp [h1,h2]),e,Int.natCast_mul]
    · have e:m * n=-((m.natAbs:Int) * n.natAbs):=by rw [show (m.natAbs:Int)=-m by omega,show (n.natAbs:Int)=n by omega,Int.neg_mul,Int.neg_neg]
      rw [if_pos (by simp [h1]; omega),e,Int.natCast_mul]
    · have e:m * n=-((m.natAbs:Int) * n.natAbs):=by rw [show (m.natAbs:Int)=m by omega,show (n.natAbs:Int)=-n by omega,Int.mul_neg,Int.neg_neg]
      rw [if_pos (by simp [h2]; omega),e,Int.natCast_mul]
    · have e:m * n=(m.natAbs:Int) * n.natAbs:=by rw [show (m.natAbs:Int)=m by omega,show (n.natAbs:Int)=n by omega]
      rw [if_neg (by simp; omega),e,Int.natCast_mul]
  rw [valZ_zed,valZ_zed]
  simp only [go_sem]
  refine PC.use (parts3_c m (by omega)) ?_
  simp only [go_sem]
  refine PC.use (parts3_c n (by omega)) ?_
  simp only [go_sem]
  refine PC.use (times3_c m.natAbs n.natAbs (by omega) (by omega)) ?_
  simp only [go_sem]
  refine PC.use (textN_c _ (m.natAbs * n.natAbs) (by omega)) ?_
  rw [show sg (!(decide (m < 0) == decide (n < 0))) (m.natAbs * n.natAbs)=m * n from hsg]
  simp only [go_sem]
  refine PC.use (result3_c (m * n) (by omega)) ?_
  simp only [go_sem]
  exact .refl _
theorem one_dg:dg 1=.sl [[int 1]]:=by
  have:limbs 10 1=[1]:=by rw [limbs_pos (by decide) (by decide),show 1 / 10=0 from rfl,limbs_zero]
  simp only [dg,this]; rfl
theorem div3_c (a b:ByteArray) (ha:a.size≤1048576) (hb:b.size≤1048576):PC Tryz.prog 156 [str a,str b] (.tup [str (divZ a b).1,str (divZ a b).2.1,int (divZ a b).2.2]):=by
  refine PC.body (c:=Tryz.f156.body.getD .skip) (fun _=>false) mixed Tryz.func156 rfl (by kernel_rfl) ?_
  unfold Tryz.f156
  simp only [Option.getD_some]
  simp only [go_sem]
  refine PC.use (check3_c a b ha hb) ?_
  simp only [go_sem]
  refine acond_i (fun h=>?_) (fun h=>?_)
  · have h:errZ a b≠0:=by simpa using h
    simp only [go_sem]
    rw [show divZ a b=(emp,emp,errZ a b) from if_neg h]
    exact .refl _
  have h:errZ a b=0:=by simpa using h
  obtain ⟨m,n,rfl,rfl,hm,hn⟩:=errZ_zero h
  have lm:=limbs_max hm
  have ln:=limbs_max hn
  have e:divZ (zed m) (zed n)=if n=0 then (emp,emp,10) else (zed (m.fdiv n),zed (m.fmod n),0):=by unfold divZ; rw [if_pos h,valZ_zed,valZ_zed]
  rw [e]
  simp only [go_sem]
  refine PC.use (parts3_c m (by omega)) ?_
  simp only [go_sem]
  refine PC.use (parts3_c n (by omega)) ?_
  simp only [go_sem,List.length_map]
  refine acond_i (fun hb0=>?_) (fun hb0=>?_)
  · have h0 : n = 0 := by
      have:(limbs 10 n.natAbs).length=0:=by rw [beq_iff_eq] at hb0; omega
      have:=(limbs_nil (b:=10) (by decide)).1 (List.length_eq_zero_iff.1 this)
      omega
    simp only [go_sem]
    rw [if_pos h0]
    exact .refl _
  have h0:n≠0:=fun e=>by rw [e,show (0:Int).natAbs=0 from rfl,limbs_zero] at hb0; cases hb0
  have hn0:0 < n.natAbs:=by omega
  rw [if_neg h0]
  simp only [go_sem]
  refine PC.use (divide3_c m.natAbs n.natAbs (by omega) hn0 (by omega)) ?_
  simp only [go_sem,List.length_map]
  have hrlt:=Nat.mod_lt m.natAbs hn0
  have lq:=limbs_len_mono (b:=10) (by decide) (Nat.div_le_self m.natAbs n.natAbs)
  have lr:=limbs_len_mono (b:=10) (by decide) (Nat.le_of_lt hrlt)
  have hz:decide (((limbs 10 (m.natAbs % n.natAbs)).length:Int) > 0)=!decide (m.natAbs % n.natAbs=0):=by
    rw [← decide_not,decide_eq_decide]
    have:=limbs_nil (b:=10) (n:=m.natAbs % n.natAbs) (by decide)
    have h2:=List.length_eq_zero_iff (l:=limbs 10 (m.natAbs % n.natAbs))
    constructor
    · intro h3 h4
      rw [h4,limbs_zero] at h3
      simp at h3
    · intro h3
      have:(limbs 10 (m.natAbs % n.natAbs)).length≠0:=fun e=>h3 (this.1 (h2.1 e))
      omega
  rw [hz]
  refine acond_join (fun ρ' H'=>∃ q r:Nat,ρ' 8=boo (decide (m < 0))∧ρ' 10=boo (decide (n < 0))∧ρ' 12=dg q∧ρ' 13=dg r∧(limbs 10 q).length≤5000∧(limbs 10 r).length≤5000∧sg (!(decide (m < 0) == decide (n < 0))) q=m.fdiv n∧sg (decide (n < 0)) r=m.fmod n) ?_ fun K hK=>acond_i (fun hb=>?_) (fun hb=>?_)
  rotate_left
  · have hb : decide (m < 0) ≠ decide (n < 0) ∧ m.natAbs % n.natAbs ≠ 0 := by
      simp only [Bool.and_eq_true,Bool.not_eq_true',beq_eq_false_iff_ne,ne_eq,decide_eq_false_iff_not] at hb
      exact hb
    obtain ⟨f1,f2⟩:=fdiv_differ h0 hb.1 hb.2
    have la:=add_len (m.natAbs / n.natAbs) 1
    have l1:(limbs 10 1).length=1:=by rw [limbs_pos (by decide) (by decide),show 1 / 10=0 from rfl,limbs_zero]; rfl
    have l2:=limbs_len_mono (b:=10) (by decide) (show n.natAbs - m.natAbs % n.natAbs≤n.natAbs by omega)
    have hp:=plus3_c (m.natAbs / n.natAbs) 1 (by omega) (by omega)
    rw [one_dg] at hp
    simp only [go_sem]
    refine PC.use hp ?_
    simp only [go_sem]
    refine PC.use (minus3_c n.natAbs (m.natAbs % n.natAbs) (by omega) (by omega)) ?_
    simp only [go_sem]
    refine hK _ _ ⟨m.natAbs / n.natAbs + 1,n.natAbs - m.natAbs % n.natAbs,by simp only [go_sem],by simp only [go_sem],by simp only [go_sem],by simp only [go_sem],by omega,by omega,?_,f2.symm⟩
    rw [f1]
    unfold sg
    rw [if_pos (by simpa using hb.1)]
  · have hb : decide (m < 0) = decide (n < 0) ∨ m.natAbs % n.natAbs = 0 := by
      by_cases h1:decide (m < 0)=decide (n < 0)
      · exact .inl h1
      · refine .inr ?_
        have h2:(!(decide (m < 0) == decide (n < 0)))=true:=by simpa using h1
        rw [h2,Bool.true_and,Bool.not_eq_false'] at hb
        exact of_decide_eq_true hb
    obtain ⟨f1,f2⟩:=fdiv_same h0 hb
    simp only [go_sem]
    exact hK _ _ ⟨_,_,by simp only [go_sem],by simp only [go_sem],by simp only [go_sem],by simp only [go_sem],by omega,by omega,f1.symm,f2.symm⟩
  rintro ρ H ⟨q,r,h8,h10,h12,h13,hq,hr,f1,f2⟩
  simp only [go_sem,h8,h10,h12,h13]
  refine PC.use (textN_c _ q (by omega)) ?_
  simp only [go_sem,h8,h10,h12,h13]
  refine PC.use (textN_c _ r (by omega)) ?_
  simp only [go_sem,f1,f2]
  exact .refl _
theorem tmod_abs (z:Int):z.tmod 10=if z < 0 then -((z.natAbs % 10:Nat):Int) else ((z.natAbs % 10:Nat):Int):=by
  rcases Int.lt_or_le z 0 with h | h
  · rw [if_pos h]
    obtain ⟨N,rfl⟩:∃ N:Nat,z=-(N:Int):=⟨z.natAbs,by omega⟩
    rw [Int.neg_tmod,Int.natAbs_neg,Int.natAbs_natCast]
    rfl
  · rw [if_neg (by omega)]
    conv=>lhs; rw [show z=((z.natAbs:Nat):Int) by omega]
    rfl
theorem tdiv_abs (z:Int):z.tdiv 10=if z < 0 then -((z.natAbs / 10:Nat):Int) else ((z.natAbs / 10:Nat):Int):=by
  rcases Int.lt_or_le z 0 with h | h
  · rw [if_pos h]
    obtain ⟨N,rfl⟩:∃ N:Nat,z=-(N:Int):=⟨z.natAbs,by omega⟩
    rw [Int.neg_tdiv,Int.natAbs_neg,Int.natAbs_natCast]
    rfl
  · rw [if_neg (by omega)]
    conv=>lhs; rw [show z=((z.natAbs:Nat):Int) by omega]
    rfl
def absI:AV→Nat
  | .v (.int _ z)=>z.natAbs
  | _=>0
theorem absI_int (k:IntKind) (z:Int):absI (.v (.int k z))=z.natAbs:=(rfl)
theorem of3_c (n:Int) (h0:-9223372036854775808≤n) (h1:n≤9223372036854775807):PC Tryz.prog 113 [int n] (str (zed n)):=by
  refine PC.body (c:=Tryz.f113.body.getD .skip) (fun t=>t == 3) mixed Tryz.func113 rfl (by kernel_rfl) ?_
  unfold Tryz.f113
  simp only [Option.getD_some]
  simp only [go_sem]
  refine anew_i fun j hj=>?_
  simp only [go_sem]
  refine ⟨fun ρ H=>∃ (z:Int) (j:Nat) (o:List Nat),ρ 0=int z∧ρ 3=.os j∧ρ 4=boo (decide (n < 0))∧H j=some (numRow o)∧Lim 10 o∧o.length + (limbs 10 z.natAbs).length=(limbs 10 n.natAbs).length∧(z < 0→n < 0)∧(0 < z→0 < n)∧-9223372036854775808≤z∧z≤9223372036854775807∧ofL 10 o + 10 ^ o.length * z.natAbs=n.natAbs,fun ρ _=>absI (ρ 0),
    ⟨n,j,[],by simp only [go_sem],by simp only [go_sem],by simp only [go_sem],row_nil,by simp [Lim],by simp,id,id,h0,h1,by simp [ofL]⟩,?_⟩
  have hln:(limbs 10 n.natAbs).length≤20:=limbs_len_le (by decide) (by omega)
  clear hj j
  rintro ρ H ⟨z,j,o,e0,e3,e4,Rj,ho,hol,hz1,hz2,b0,b1,hv⟩
  simp only [go_sem,e0,e3,e4]
  refine acond_i (fun hb=>?_) (fun hb=>?_)
  · have hz:z≠0:=by simpa using hb
    have hzn:z.natAbs≠0:=by omega
    have em:(z.tmod 10).natAbs=z.natAbs % 10:=by rw [tmod_abs]; split <;> omega
    have ed:(z.tdiv 10).natAbs=z.natAbs / 10:=by rw [tdiv_abs]; split <;> omega
    have ed1:z.tdiv 10 < 0→z < 0:=fun h=>by rw [tdiv_abs] at h; split at h <;> omega
    have ed2:0 < z.tdiv 10→0 < z:=fun h=>by rw [tdiv_abs] at h; split at h <;> omega
    have hst:ofL 10 (o ++ [z.natAbs % 10]) + 10 ^ (o ++ [z.natAbs % 10]).length * (z.natAbs / 10)=n.natAbs:=by
      rw [← hv,ofL_snoc,List.length_append,List.length_cons,List.length_nil,Nat.pow_succ]
      have e:=Nat.mod_add_div z.natAbs 10
      have e2:10 ^ o.length * (z.natAbs % 10 + 10 * (z.natAbs / 10))=10 ^ o.length * z.natAbs:=by rw [e]
      grind
    have hlim:z.natAbs % 10 < 10:=Nat.mod_lt _ (by decide)
    have hll:(o ++ [z.natAbs % 10]).length + (limbs 10 (z.natAbs / 10)).length=(limbs 10 n.natAbs).length:=by
      rw [← hol,limbs_pos (n:=z.natAbs) (by decide) hzn]
      simp; omega
    have ew:IntKind.i64.wrap (z.tdiv 10)=z.tdiv 10:=wrap_in (by omega)
    simp only [go_sem,e0,e3,e4]
    refine ⟨by decide,?_⟩
    refine acond_join (fun ρ' H'=>ρ' 0=int z∧ρ' 3=.os j∧ρ' 4=boo (decide (n < 0))∧ρ' 5=int (z.natAbs % 10:Nat)∧H' j=some (numRow o)) ?_ fun K hK=>acond_i (fun hb=>?_) (fun hb=>?_)
    rotate_left
    · have hb:=of_decide_eq_true hb
      have e1:IntKind.i64.wrap (0 - z.tmod 10)=((z.natAbs % 10:Nat):Int):=by rw [wrap_in (by omega)]; omega
      simp only [go_sem,e0,e3,e4,e1]
      exact hK _ _ ⟨by simp only [go_sem,e0],by simp only [go_sem,e3],by simp only [go_sem,e4],by simp only [go_sem],Rj⟩
    · have hb:=of_decide_eq_false hb
      have e1:z.tmod 10=((z.natAbs % 10:Nat):Int):=by omega
      simp only [go_sem,e0,e3,e4]
      exact hK _ _ ⟨by simp only [go_sem,e0],by simp only [go_sem,e3],by simp only [go_sem,e4],by simp only [go_sem]; rw [e1],Rj⟩
    clear e0 e3 e4 Rj
    rintro ρ H ⟨e0,e3,e4,e5,Rj⟩
    simp only [go_sem,e0,e3,e4,e5]
    refine wappE_i Rj ⟨rfl,rfl⟩ ⟨rfl,trivial⟩ (by simp only [numRow,List.length_map,List.length_cons,List.length_nil]; omega) (fun j' hj'=>?_)
    simp only [go_sem,e0,e3,e4,e5,ew]
    refine ⟨by decide,⟨z.tdiv 10,j',_,rfl,rfl,row_snoc,ho.snoc hlim,?_,fun h=>hz1 (ed1 h),fun h=>hz2 (ed2 h),by omega,by omega,?_⟩,?_⟩
    · rw [ed]; exact hll
    · rw [ed]; exact hst
    · rw [absI_int,absI_int,ed]; omega
  · have hz:z=0:=by simpa using hb
    subst hz
    simp only [go_sem,e3,e4]
    rw [show (0:Int).natAbs=0 from rfl,Nat.mul_zero,Nat.add_zero] at hv
    have ht:=text3_c (decide (n < 0)) o ho (by omega)
    rw [hv,sg_zed] at ht
    refine PC.useF [j] (.cons _ _ _ _ (.refl _) (.cons _ _ _ _ (.row _ _ _ (by simp only [List.mem_singleton,if_true]; exact Rj) (ConvE.refl _)) .nil)) ht ?_
    simp only [go_sem]
    exact .refl _
end Go.Proofs.YtpddaldlebngaaaGreatDoor.Nu
end

section
set_option linter.unusedSimpArgs false
set_option linter.unusedVariables false
namespace Go.Proofs.YtpddaldlebngaaaGreatDoor.Nu
open Go.Aw Go.Aw.D Go.Proofs Ty Go.Nu
open Go.RowKit (Below)
set_option maxRecDepth 100000
theorem idx_slash:∀ l:List UInt8,Lib.indexByte l 47=if l.any (· == slash)=true then ((l.takeWhile (· != slash)).length:Int) else -1
  | []=>rfl
  | c :: l=>by
    have ih:=idx_slash l
    unfold Lib.indexByte
    by_cases h:c=slash
    · subst h; rfl
    · have h1:(c == (47:UInt8))=false:=by simpa [slash] using h
      have h2:(c == slash)=false:=by simpa using h
      have h3:(c != slash)=true:=by simpa using h
      rw [h1,ih,List.any_cons,h2,List.takeWhile_cons,h3]
      simp only [Bool.false_eq_true,if_false,Bool.false_or,if_true]
      split
      · rw [if_neg (by simp)]
        simp
      · rfl
theorem take_tw {α:Type} (p:α→Bool):∀ l:List α,l.take (l.takeWhile p).length=l.takeWhile p
  | []=>rfl
  | a :: l=>by
    rw [List.takeWhile_cons]
    split
    · rw [List.length_cons,List.take_succ_cons,take_tw p l]
    · rfl
theorem drop_tw {α:Type} (p:α→Bool):∀ l:List α,l.drop ((l.takeWhile p).length + 1)=(l.dropWhile p).drop 1
  | []=>rfl
  | a :: l=>by
    rw [List.takeWhile_cons,List.dropWhile_cons]
    split
    · rw [List.length_cons,List.drop_succ_cons,drop_tw p l]
    · rfl
theorem tw_lt {l:List UInt8} (h:l.any (· == slash)=true):(l.takeWhile (· != slash)).length < l.length:=by
  rcases Nat.lt_or_ge (l.takeWhile (· != slash)).length l.length with h1 | h1
  · exact h1
  · exfalso
    have h2:=take_tw (· != slash) l
    rw [List.take_of_length_le h1] at h2
    obtain ⟨c,hc,hcs⟩:=List.any_eq_true.1 h
    rw [h2] at hc
    have:=takeW_mem hc
    simp at this hcs
    exact this hcs
def idxS (s:ByteArray):Int:=if hasSl s=true then (((bl s).takeWhile (· != slash)).length:Int) else -1
theorem sindex_c (s:ByteArray):PC Tryz.prog 172 [str s,str ⟨#[47]⟩] (int (idxS s)):=by
  refine PC.lib (a:=[.string s,.string ⟨#[47]⟩]) (v:=.int .i64 (idxS s)) (fun S w=>rfl) fun w _=>(Tryz.stringslite_Index_one s 47 w).mono fun e w' ⟨he,hw⟩=>?_
  rw [hw]
  exact ⟨he.trans (by rw [show s.data.toList=bl s from rfl,idx_slash]; rfl),Below.refl _ _⟩
theorem scontains_c (s:ByteArray):PC Tryz.prog 85 [str s,str ⟨#[47]⟩] (boo (hasSl s)):=by
  refine PC.lib (a:=[.string s,.string ⟨#[47]⟩]) (v:=.bool (hasSl s)) (fun S w=>rfl) fun w _=>(Tryz.strings_Contains_one s 47 w).mono fun e w' ⟨he,hw⟩=>?_
  rw [hw]
  refine ⟨he.trans ?_,Below.refl _ _⟩
  rw [show s.data.toList=bl s from rfl,idx_slash]
  unfold hasSl
  cases (bl s).any (· == slash) <;> simp
def afterT (s:ByteArray):ByteArray:=⟨(((bl s).dropWhile (· != slash)).drop 1).toArray⟩
theorem cut1_c (s:ByteArray) (h:s.size≤1048576):PC Tryz.prog 170 [str s,str ⟨#[47]⟩] (.tup (if hasSl s=true then [str (numT s),str (afterT s),boo true] else [str s,str emp,boo false])):=by
  refine PC.body (c:=Tryz.f170.body.getD .skip) (fun _=>false) mixed Tryz.func170 rfl (by kernel_rfl) ?_
  unfold Tryz.f170
  simp only [Option.getD_some]
  simp only [go_sem]
  refine PC.use (sindex_c s) ?_
  simp only [go_sem]
  have hl:=bl_size s
  refine acond_i (fun hb=>?_) (fun hb=>?_)
  · have hs : hasSl s = true := by
      have hb:=of_decide_eq_true hb
      unfold idxS at hb
      split at hb
      · assumption
      · omega
    have hlt:=tw_lt hs
    rw [if_pos hs,show idxS s=(((bl s).takeWhile (· != slash)).length:Int) from if_pos hs]
    simp only [go_sem]
    refine adraw_q (by rfl) (by kernel_rfl) ?_
    simp only [go_sem]
    have e1:s.extract 0 ((bl s).takeWhile (· != slash)).length=numT s:=bl_ext (by rw [bl_extract,List.drop_zero,take_tw]; exact (bl_mk _).symm)
    have e2:s.extract (((bl s).takeWhile (· != slash)).length + 1) s.size=afterT s:=bl_ext (by rw [bl_extract,← hl,List.take_length,drop_tw]; exact (bl_mk _).symm)
    refine ⟨⟨by omega,by omega⟩,?_⟩
    have e3:IntKind.i64.wrap ((((bl s).takeWhile (· != slash)).length:Int) + ((#[47]:Array UInt8).size:Nat))=((((bl s).takeWhile (· != slash)).length + 1:Nat):Int):=wrapS (by omega)
    simp only [e3,Int.toNat_natCast,e1,e2]
    refine ⟨⟨by omega,by omega⟩,?_⟩
    exact .refl _
  · have hs : ¬ hasSl s = true := fun hs => by
      have hb:=of_decide_eq_false hb
      unfold idxS at hb
      rw [if_pos hs] at hb
      omega
    rw [if_neg hs]
    simp only [go_sem]
    exact .refl _
theorem numT_all {s:ByteArray} (h:hasSl s=false):numT s=s:=by
  refine bl_ext ?_
  unfold numT
  rw [bl_mk]
  refine takeW_self fun c hc=>?_
  unfold hasSl at h
  rw [List.any_eq_false] at h
  have:=h c hc
  simpa using this
theorem cut_c (s:ByteArray) (h:s.size≤1048576):PC Tryz.prog 134 [str s,str ⟨#[47]⟩] (.tup (if hasSl s=true then [str (numT s),str (afterT s),boo true] else [str s,str emp,boo false])):=by
  by_cases hs:hasSl s=true
  · have:=cut1_c s h
    rw [if_pos hs] at this ⊢
    refine PC.body (c:=Tryz.f134.body.getD .skip) (fun _=>false) mixed Tryz.func134 rfl (by kernel_rfl) ?_
    unfold Tryz.f134
    simp only [Option.getD_some]
    simp only [go_sem]
    refine PC.use this ?_
    simp only [go_sem]
    exact .refl _
  · have:=cut1_c s h
    rw [if_neg hs] at this ⊢
    refine PC.body (c:=Tryz.f134.body.getD .skip) (fun _=>false) mixed Tryz.func134 rfl (by kernel_rfl) ?_
    unfold Tryz.f134
    simp only [Option.getD_some]
    simp only [go_sem]
    refine PC.use this ?_
    simp only [go_sem]
    exact .refl _
theorem split_c (s:ByteArray) (h:s.size≤1048576):PC Tryz.prog 82 [str s] (.tup [str (numT s),str (denT s)]):=by
  have hc:=cut_c s h
  by_cases hs:hasSl s=true
  · rw [if_pos hs] at hc
    refine PC.body (c:=Tryz.f82.body.getD .skip) (fun _=>false) mixed Tryz.func82 rfl (by kernel_rfl) ?_
    unfold Tryz.f82
    simp only [Option.getD_some]
    simp only [go_sem]
    refine PC.use hc ?_
    simp only [go_sem]
    refine acond_i (fun hb=>by cases hb) (fun _=>?_)
    simp only [go_sem]
    rw [show denT s=afterT s from if_pos hs]
    exact .refl _
  · rw [if_neg hs] at hc
    refine PC.body (c:=Tryz.f82.body.getD .skip) (fun _=>false) mixed Tryz.func82 rfl (by kernel_rfl) ?_
    unfold Tryz.f82
    simp only [Option.getD_some]
    simp only [go_sem]
    refine PC.use hc ?_
    simp only [go_sem]
    refine acond_i (fun _=>?_) (fun hb=>by cases hb)
    simp only [go_sem]
    rw [show denT s=dec 1 from if_neg hs,numT_all (by simpa using hs),← one_lit]
    exact .refl _
theorem digits_c (s:ByteArray):PC Tryz.prog 84 [str s] (int (digZ s).size):=by
  refine PC.body (c:=Tryz.f84.body.getD .skip) (fun _=>false) mixed Tryz.func84 rfl (by kernel_rfl) ?_
  unfold Tryz.f84
  simp only [Option.getD_some]
  simp only [go_sem]
  refine PC.use (trimMinus_c s) ?_
  simp only [go_sem]
  exact .refl _
theorem numT_size (s:ByteArray):(numT s).size≤s.size:=by
  rw [← bl_size,← bl_size,show bl (numT s)=(bl s).takeWhile (· != slash) from bl_mk _,← take_tw]
  simp
  omega
theorem denT_size (s:ByteArray):(denT s).size≤max s.size 1:=by
  unfold denT
  split
  · rw [← bl_size,← bl_size,bl_mk,List.length_drop]
    have:((bl s).dropWhile (· != slash)).length≤(bl s).length:=(List.dropWhile_suffix _).length_le
    omega
  · rw [← one_lit]; exact Nat.le_max_right _ _
theorem ones_right:rightN (dec 1)=true:=rightN_dec 1
theorem digZ_right {s:ByteArray} (h:rightN s=true):digZ s=s:=by rw [← dec_valN h,digZ_dec]
theorem denT_none {s:ByteArray} (h:hasSl s=false):denT s=dec 1:=if_neg (by rw [h]; simp)
theorem rightR_no1 {s:ByteArray} (hb:(!rightZ (numT s) || decide (((digZ (numT s)).size:Int) > 4096) || decide (((digZ (denT s)).size:Int) > 4096))=true):rightR s=false:=by
  unfold rightR
  rw [Bool.eq_false_iff]
  simp only [ne_eq,Bool.and_eq_true,decide_eq_true_eq]
  rintro ⟨⟨⟨⟨h1,h2⟩,h3⟩,h4⟩,_⟩
  rw [h1,digZ_right h2] at hb
  simp only [Bool.not_true,Bool.false_or,Bool.or_eq_true,decide_eq_true_eq] at hb
  omega
theorem rightR_half {s : ByteArray} (hb : (!rightZ (numT s) || decide (((digZ (numT s)).size : Int) > 4096) || decide (((digZ (denT s)).size : Int) > 4096)) = false) (hr : rightN (denT s) = true) :
    (rightZ (numT s) && rightN (denT s) && decide ((digZ (numT s)).size≤4096) && decide ((denT s).size≤4096))=true∧rightZ (numT s)=true∧(digZ (numT s)).size≤4096∧(denT s).size≤4096:=by
  simp only [Bool.or_eq_false_iff,Bool.not_eq_false',decide_eq_false_iff_not] at hb
  rw [digZ_right hr] at hb
  obtain ⟨⟨h1,h2⟩,h3⟩:=hb
  have h2:(digZ (numT s)).size≤4096:=by omega
  have h3:(denT s).size≤4096:=by omega
  refine ⟨?_,h1,h2,h3⟩
  rw [h1,hr]
  simp [h2,h3]
theorem right1_c (s:ByteArray) (h:s.size≤1048576):PC Tryz.prog 41 [str s] (boo (rightR s)):=by
  have hn:=numT_size s
  have hd:=denT_size s
  have h1:(1:Nat)≤1048576:=by omega
  have hdn:=digZ_le (numT s)
  have hdd:=digZ_le (denT s)
  refine PC.body (c:=Tryz.f41.body.getD .skip) (fun _=>false) mixed Tryz.func41 rfl (by kernel_rfl) ?_
  unfold Tryz.f41
  simp only [Option.getD_some]
  simp only [go_sem]
  refine PC.use (split_c s h) ?_
  simp only [go_sem]
  refine PC.use (wright_c (numT s) (by omega)) ?_
  simp only [go_sem]
  refine ⟨_,fun _=>(digits_c (numT s)).q rfl,?_⟩
  simp only [go_sem]
  refine ⟨_,fun _=>(digits_c (denT s)).q rfl,?_⟩
  simp only [go_sem]
  refine acond_i (fun hb=>?_) (fun hb=>?_)
  · simp only [go_sem]
    exact cB (rightR_no1 hb).symm
  simp only [go_sem]
  refine PC.use (scontains_c s) ?_
  simp only [go_sem]
  refine acond_i (fun hs=>?_) (fun hs=>?_)
  · simp only [go_sem]
    refine cB ?_
    have h0:hasSl s=false:=by simpa using hs
    have h2:rightN (denT s)=true:=by rw [denT_none h0]; exact ones_right
    unfold rightR
    rw [(rightR_half hb h2).1,h0]
    rfl
  have h0:hasSl s=true:=by simpa using hs
  simp only [go_sem]
  refine PC.use (nright_c (denT s) (by omega)) ?_
  simp only [go_sem,eq_zero,eq_one]
  refine acond_i (fun hc=>?_) (fun hc=>?_)
  · simp only [go_sem]
    refine cB ?_
    unfold rightR
    rw [h0]
    simp only [Bool.or_eq_true,Bool.not_eq_true'] at hc
    rcases hc with ((hc | hc) | hc) | hc <;> simp [hc]
  simp only [Bool.or_eq_false_iff,Bool.not_eq_false'] at hc
  obtain ⟨⟨⟨h2,h3⟩,h4⟩,h5⟩:=hc
  obtain ⟨f1,f2,f3,f4⟩:=rightR_half hb h2
  simp only [go_sem]
  refine PC.use (trimMinus_c (numT s)) ?_
  simp only [go_sem]
  refine PC.use (nGcd_c (digZ (numT s)) (denT s) (by omega) (by omega)) ?_
  simp only [go_sem,eq_one]
  refine cB ?_
  have fd:=right_dig f2
  have v0:valN (denT s)≠0:=fun e=>eqB_no.1 h3 (by rw [← dec_valN h2,e])
  have v1:valN (denT s) < maxN:=(right_size h2).1 f4
  have e:gcdN (digZ (numT s)) (denT s)=(dec (Nat.gcd (valN (digZ (numT s))) (valN (denT s))),0):=by
    unfold gcdN
    rw [if_pos (errN_ok fd h2 f3 f4),szN_ok (Nat.lt_of_le_of_lt (Nat.gcd_le_right _ (by omega)) v1)]
  have ev:(valZ (numT s)).natAbs=valN (digZ (numT s)):=by unfold valZ; split <;> omega
  rw [e]
  unfold rightR
  rw [f1,h0,h3,h4,h5,ev]
  simp only [beq_self_eq_true,Bool.true_and,Bool.not_true,Bool.not_false,Bool.false_or]
  rw [Bool.eq_iff_iff,eqB_iff,dec_eq,beq_iff_eq]
theorem rof_c (n:Int) (h0:-9223372036854775808≤n) (h1:n≤9223372036854775807):PC Tryz.prog 40 [int n] (str (zed n)):=by
  refine PC.body (c:=Tryz.f40.body.getD .skip) (fun _=>false) mixed Tryz.func40 rfl (by kernel_rfl) ?_
  unfold Tryz.f40
  simp only [Option.getD_some]
  simp only [go_sem]
  refine PC.use (wof_c n h0 h1) ?_
  simp only [go_sem]
  exact .refl _
theorem rsign_c (s:ByteArray) (h:s.size≤1048576):PC Tryz.prog 42 [str s] (int (signR s)):=by
  have hn:=numT_size s
  refine PC.body (c:=Tryz.f42.body.getD .skip) (fun _=>false) mixed Tryz.func42 rfl (by kernel_rfl) ?_
  unfold Tryz.f42
  simp only [Option.getD_some]
  simp only [go_sem]
  refine PC.use (right1_c s h) ?_
  simp only [go_sem]
  refine acond_i (fun hb=>?_) (fun hb=>?_)
  · simp only [go_sem]
    exact cI (by unfold signR; rw [if_neg (by simpa using hb)])
  · have hr:rightR s=true:=by simpa using hb
    simp only [go_sem]
    refine PC.use (split_c s h) ?_
    simp only [go_sem]
    refine PC.use (wsign_c (numT s) (by omega)) ?_
    simp only [go_sem]
    refine cI ?_
    obtain ⟨x,rfl,hs,e1,_⟩:=right_parts hr
    unfold signR signZ
    rw [if_pos hr,e1,if_pos (rightZ_zed _),valZ_zed,valR_ratS]
def twoL (a b:ByteArray):List AV:=if (rightR a && rightR b)=true then [str (numT a),str (denT a),str (numT b),str (denT b),int 0] else [str emp,str emp,str emp,str emp,int 3]
theorem two_rc (a b:ByteArray) (ha:a.size≤1048576) (hb:b.size≤1048576):PC Tryz.prog 127 [str a,str b] (.tup (twoL a b)):=by
  refine PC.body (c:=Tryz.f127.body.getD .skip) (fun _=>false) mixed Tryz.func127 rfl (by kernel_rfl) ?_
  unfold Tryz.f127
  simp only [Option.getD_some]
  simp only [go_sem]
  refine PC.use (right1_c a ha) ?_
  simp only [go_sem]
  refine ⟨_,fun _=>(right1_c b hb).q rfl,?_⟩
  simp only [go_sem]
  refine acond_i (fun hc=>?_) (fun hc=>?_)
  · simp only [go_sem]
    rw [show twoL a b=[str emp,str emp,str emp,str emp,int 3] from if_neg (by rw [Bool.not_eq_true,← Bool.not_eq_true',Bool.not_and]; exact hc)]
    exact .refl _
  · simp only [go_sem]
    refine PC.use (split_c a ha) ?_
    simp only [go_sem]
    refine PC.use (split_c b hb) ?_
    simp only [go_sem]
    rw [show twoL a b=_ from if_pos (by rw [← Bool.not_eq_false',Bool.not_and]; exact hc)]
    exact .refl _
theorem rlow_c (n:Int) (d:Nat) (hd:d≠0) (hn:n.natAbs < maxN) (hdm:d < maxN):PC Tryz.prog 129 [str (zed n),str (dec d)] (.tup [str (ratS (mkRat n d)),int 0]):=by
  have hg:=gcd_small (n:=n) hd hdm
  have hg0:=gcd_pos (n:=n) hd
  have zs:∀ {m:Int},m.natAbs < maxN→(zed m).size≤1048576:=fun {m} hm=>by
    have:=(digZ_size m).2 hm
    unfold digZ at this
    split at this
    · rw [← bl_size,bl_mk,List.length_drop] at this
      rw [← bl_size]; omega
    · omega
  have hsm:=small_mk hd hn hdm
  have eg:divZ (zed n) (dec (Nat.gcd n.natAbs d))=(zed (mkRat n d).num,zed (n.fmod (Nat.gcd n.natAbs d:Nat)),0):=by
    unfold divZ
    rw [← zed_nat,if_pos (errZ_zed hn (by rw [Int.natAbs_natCast]; exact hg)),valZ_zed,valZ_zed,if_neg (by omega),low_num hd]
  have ed:divZ (dec d) (dec (Nat.gcd n.natAbs d))=(dec (mkRat n d).den,zed ((d:Int).fmod (Nat.gcd n.natAbs d:Nat)),0):=by
    unfold divZ
    rw [← zed_nat,← zed_nat,if_pos (errZ_zed (by rw [Int.natAbs_natCast]; exact hdm) (by rw [Int.natAbs_natCast]; exact hg)),valZ_zed,valZ_zed,if_neg (by omega),low_den hd,zed_nat]
  refine PC.body (c:=Tryz.f129.body.getD .skip) (fun _=>false) mixed Tryz.func129 rfl (by kernel_rfl) ?_
  unfold Tryz.f129
  simp only [Option.getD_some]
  simp only [go_sem]
  refine PC.use (trimMinus_c (zed n)) ?_
  rw [digZ_zed]
  simp only [go_sem]
  refine PC.use (nGcd_c (dec n.natAbs) (dec d) (dec_size hn) (dec_size hdm)) ?_
  rw [show gcdN (dec n.natAbs) (dec d)=(dec (Nat.gcd n.natAbs d),0) by unfold gcdN; rw [if_pos (errN_dec hn hdm),valN_dec,valN_dec,szN_ok hg]]
  simp only [go_sem]
  refine acond_i (fun hb=>by cases hb) (fun _=>?_)
  simp only [go_sem]
  refine PC.use (wDiv_c (zed n) (dec (Nat.gcd n.natAbs d)) (zs hn) (dec_size hg)) ?_
  rw [eg]
  simp only [go_sem]
  refine acond_i (fun hb=>by cases hb) (fun _=>?_)
  simp only [go_sem]
  refine PC.use (wDiv_c (dec d) (dec (Nat.gcd n.natAbs d)) (dec_size hdm) (dec_size hg)) ?_
  rw [ed]
  simp only [go_sem]
  refine acond_i (fun hb=>by cases hb) (fun _=>?_)
  simp only [go_sem,eq_one]
  generalize mkRat n d=x at *
  refine acond_i (fun hb=>?_) (fun hb=>?_)
  · have h1:x.den=1:=dec_eq.1 (eqB_iff.1 hb)
    simp only [go_sem]
    rw [show ratS x=zed x.num from if_pos h1]
    exact .refl _
  · have h1:x.den≠1:=fun e=>eqB_no.1 hb (by rw [e])
    simp only [go_sem]
    have z1:=zs hsm.1
    have z2:=dec_size hsm.2
    have z3:(zed x.num ++ slB).size=(zed x.num).size + 1:=by rw [ByteArray.size_append]; rfl
    refine ⟨by show ((zed x.num).size + (1:Nat):Int)≤9223372036854775807; omega,?_⟩
    refine ⟨by show (((zed x.num).size + 1 + (dec x.den).size:Nat):Int)≤9223372036854775807; omega,?_⟩
    rw [show ratS x=zed x.num ++ slB ++ dec x.den from if_neg h1]
    exact .refl _
end Go.Proofs.YtpddaldlebngaaaGreatDoor.Nu
end

section
set_option linter.unusedSimpArgs false
set_option linter.unusedVariables false
namespace Go.Proofs.YtpddaldlebngaaaGreatDoor.Nu
open Go.Aw Go.Aw.D Go.Proofs Ty Go.Nu
set_option maxRecDepth 100000
theorem digits4_c (s:ByteArray) (h:s.size≤1048576):PC Tryz.prog 107 [str s] (int (digZ s).size):=by
  have hs:=bl_size s
  refine PC.body (c:=Tryz.f107.body.getD .skip) (fun _=>false) mixed Tryz.func107 rfl (by kernel_rfl) ?_
  unfold Tryz.f107
  simp only [Option.getD_some]
  simp only [go_sem]
  refine ⟨fun h=>⟨by omega,by have:=of_decide_eq_true h; omega⟩,?_⟩
  rw [dash_int]
  have hd:(digZ s).size=s.size - stN s:=by rw [← bl_size,bl_digZ,List.length_drop,hs]
  have hst:=stN_le s
  refine acond_i (fun hb=>?_) (fun hb=>?_)
  · have:stN s=1:=if_pos hb
    simp only [go_sem]
    refine cI ?_
    rw [wrap_in (by omega)]; omega
  · have:stN s=0:=if_neg (by rw [hb]; simp)
    simp only [go_sem]
    exact cI (by omega)
theorem tw_at {l:List UInt8} {k:Nat} {c:UInt8} (hz:∀ x∈l.take k,(x != slash)=true) (hc:l[k]?=some c) (h:c=slash):l.any (· == slash)=true∧l.takeWhile (· != slash)=l.take k∧(l.dropWhile (· != slash)).drop 1=l.drop (k + 1):=by
  obtain ⟨hk,e⟩:=List.getElem?_eq_some_iff.1 hc
  have e1:l=l.take k ++ slash :: l.drop (k + 1):=by
    conv=>lhs; rw [← List.take_append_drop k l]
    rw [List.drop_eq_getElem_cons hk,e,h]
  refine ⟨List.any_eq_true.2 ⟨c,List.mem_of_getElem? hc,by simp [h]⟩,?_,?_⟩
  · conv=>lhs; rw [e1]
    exact takeW_all hz
  · conv=>lhs; rw [e1]
    rw [dropW_all hz]
    rfl
theorem halves_c (s:ByteArray) (h:s.size≤1048576):PC Tryz.prog 104 [str s] (.tup [str (numT s),str (denT s),boo (hasSl s)]):=by
  have hs:=bl_size s
  refine PC.body (c:=Tryz.f104.body.getD .skip) (fun _=>false) mixed Tryz.func104 rfl (by kernel_rfl) ?_
  unfold Tryz.f104
  simp only [Option.getD_some]
  simp only [go_sem]
  refine ⟨fun ρ _=>∃ k:Nat,k≤(bl s).length∧ρ 0=str s∧ρ 5=int k∧∀ c∈(bl s).take k,(c != slash)=true,fun ρ _=>(bl s).length - natOf (ρ 5),⟨0,Nat.zero_le _,rfl,rfl,by simp⟩,?_⟩
  rintro ρ H ⟨k,hk,h0,h5,hz⟩
  simp only [go_sem,h0,h5]
  refine acond_i (fun hlt=>?_) (fun hge=>?_)
  · have hlt:k < (bl s).length:=by have:=ltB hlt; omega
    obtain ⟨c,hc⟩:=getIn hlt
    simp only [go_sem,h0,h5,getD_at hc]
    refine ⟨⟨by omega,by omega⟩,?_⟩
    rw [show (((c.toNat:Nat):Int) == 47)=(c == slash) from int_u8 c slash]
    refine acond_i (fun hb=>?_) (fun hb=>?_)
    · have hb:c=slash:=by simpa using hb
      obtain ⟨t1,t2,t3⟩:=tw_at hz hc hb
      have e1:s.extract 0 k=numT s:=bl_ext (by rw [bl_extract,List.drop_zero,← t2]; exact (bl_mk _).symm)
      have hsl:hasSl s=true:=t1
      have e2:s.extract (k + 1) s.size=denT s:=bl_ext (by
        rw [bl_extract,← hs,List.take_length,← t3]
        unfold denT
        rw [if_pos hsl]
        exact (bl_mk _).symm)
      simp only [go_sem]
      refine adraw_q (by rfl) (by kernel_rfl) ?_
      simp only [go_sem,h0,h5,wrapS (show k≤4611686018427387904 by omega),Int.toNat_natCast,e1,e2]
      rw [hsl]
      exact ⟨⟨by omega,by omega⟩,⟨by omega,by omega⟩,.refl _⟩
    · have hb:c≠slash:=by simpa using hb
      simp only [go_sem,h0,h5,wrapS (show k≤4611686018427387904 by omega)]
      exact ⟨⟨k + 1,hlt,rfl,take_all' hc (by simpa using hb) hz⟩,by simp only [natOf_int]; omega⟩
  · have hge:k=(bl s).length:=by rw [← hs] at hge; exact geB hk hge
    subst hge
    rw [List.take_length] at hz
    have hsl:hasSl s=false:=any_no hz
    simp only [go_sem,h0]
    rw [hsl,denT_none hsl,numT_all hsl,← one_lit]
    exact .refl _
theorem of4_c (n:Int) (h0:-9223372036854775808≤n) (h1:n≤9223372036854775807):PC Tryz.prog 60 [int n] (str (zed n)):=by
  refine PC.body (c:=Tryz.f60.body.getD .skip) (fun _=>false) mixed Tryz.func60 rfl (by kernel_rfl) ?_
  unfold Tryz.f60
  simp only [Option.getD_some]
  simp only [go_sem]
  refine PC.use (of3_c n h0 h1) ?_
  simp only [go_sem]
  exact .refl _
theorem right4_c (s:ByteArray) (h:s.size≤1048576):PC Tryz.prog 56 [str s] (boo (rightR s)):=by
  have hn:=numT_size s
  have hd:=denT_size s
  have h1:(1:Nat)≤1048576:=by omega
  refine PC.body (c:=Tryz.f56.body.getD .skip) (fun _=>false) mixed Tryz.func56 rfl (by kernel_rfl) ?_
  unfold Tryz.f56
  simp only [Option.getD_some]
  simp only [go_sem]
  refine PC.use (halves_c s h) ?_
  simp only [go_sem]
  refine PC.use (right3_c (numT s) (by omega)) ?_
  simp only [go_sem]
  refine ⟨_,fun _=>(right2_c (denT s) (by omega)).q rfl,?_⟩
  simp only [go_sem]
  refine ⟨_,fun _=>(digits4_c (numT s) (by omega)).q rfl,?_⟩
  simp only [go_sem]
  refine ⟨_,fun _=>(digits4_c (denT s) (by omega)).q rfl,?_⟩
  simp only [go_sem]
  refine acond_i (fun hb=>?_) (fun hb=>?_)
  · simp only [go_sem]
    refine cB ?_
    by_cases hr:rightN (denT s)=true
    · refine (rightR_no1 ?_).symm
      rw [hr] at hb
      simpa using hb
    · unfold rightR
      rw [show rightN (denT s)=false by simpa using hr]
      simp
  have hr:rightN (denT s)=true:=by
    simp only [Bool.or_eq_false_iff,Bool.not_eq_false'] at hb
    exact hb.1.1.2
  have hb2:(!rightZ (numT s) || decide (((digZ (numT s)).size:Int) > 4096) || decide (((digZ (denT s)).size:Int) > 4096))=false:=by
    rw [hr] at hb
    simpa using hb
  obtain ⟨f1,f2,f3,f4⟩:=rightR_half hb2 hr
  simp only [go_sem]
  refine acond_i (fun hs=>?_) (fun hs=>?_)
  · simp only [go_sem]
    refine cB ?_
    have h0:hasSl s=false:=by simpa using hs
    unfold rightR
    rw [f1,h0]
    rfl
  have h0:hasSl s=true:=by simpa using hs
  simp only [go_sem,eq_zero,eq_one]
  refine acond_i (fun hc=>?_) (fun hc=>?_)
  · simp only [go_sem]
    refine cB ?_
    unfold rightR
    rw [h0]
    simp only [Bool.or_eq_true] at hc
    rcases hc with (hc | hc) | hc <;> simp [hc]
  simp only [Bool.or_eq_false_iff] at hc
  obtain ⟨⟨h5,h3⟩,h4⟩:=hc
  have v0:valN (denT s)≠0:=fun e=>eqB_no.1 h3 (by rw [← dec_valN hr,e])
  have v1:valN (denT s) < maxN:=(right_size hr).1 f4
  have hE:errZ (numT s) (numT s)=0:=by
    unfold errZ
    rw [f2]
    simp
    omega
  have ha:=abs3_c (numT s) (by omega)
  rw [if_pos hE] at ha
  have hm:(valZ (numT s)).natAbs < maxN:=by
    have:=digZ_size (valZ (numT s))
    rw [zed_valZ f2] at this
    exact this.1 f3
  have hdd:=dec_valN hr
  have hg:=gcd2_c (dec (valZ (numT s)).natAbs) (denT s) (dec_size hm) (by omega)
  have e:gcdN (dec (valZ (numT s)).natAbs) (denT s)=(dec (Nat.gcd (valZ (numT s)).natAbs (valN (denT s))),0):=by
    unfold gcdN
    rw [if_pos (errN_ok (rightN_dec _) hr ((size_max _).2 hm) f4),valN_dec,szN_ok (Nat.lt_of_le_of_lt (Nat.gcd_le_right _ (by omega)) v1)]
  rw [e] at hg
  simp only [go_sem]
  refine PC.use ha ?_
  simp only [go_sem]
  refine PC.use hg ?_
  simp only [go_sem,eq_one]
  refine cB ?_
  unfold rightR
  rw [f1,h0,h3,h4,h5]
  simp only [beq_self_eq_true,Bool.true_and,Bool.not_true,Bool.not_false,Bool.false_or]
  rw [Bool.eq_iff_iff,eqB_iff,dec_eq,beq_iff_eq]
theorem parts4_c (s:ByteArray) (h:s.size≤1048576):PC Tryz.prog 155 [str s] (.tup (if rightR s=true then [str (numT s),str (denT s),int 0] else [str emp,str emp,int 3])):=by
  by_cases hr:rightR s=true
  · rw [if_pos hr]
    refine PC.body (c:=Tryz.f155.body.getD .skip) (fun _=>false) mixed Tryz.func155 rfl (by kernel_rfl) ?_
    unfold Tryz.f155
    simp only [Option.getD_some]
    simp only [go_sem]
    refine PC.use (right4_c s h) ?_
    simp only [go_sem,hr]
    refine acond_i (fun hb=>by cases hb) (fun _=>?_)
    simp only [go_sem]
    refine PC.use (halves_c s h) ?_
    simp only [go_sem]
    exact .refl _
  · rw [if_neg hr]
    have hr:rightR s=false:=by simpa using hr
    refine PC.body (c:=Tryz.f155.body.getD .skip) (fun _=>false) mixed Tryz.func155 rfl (by kernel_rfl) ?_
    unfold Tryz.f155
    simp only [Option.getD_some]
    simp only [go_sem]
    refine PC.use (right4_c s h) ?_
    simp only [go_sem,hr]
    refine acond_i (fun _=>?_) (fun hb=>by cases hb)
    simp only [go_sem]
    exact .refl _
end Go.Proofs.YtpddaldlebngaaaGreatDoor.Nu
end
