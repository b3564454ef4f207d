/- Texts joined by a program: NuX, NuY, NuZ. -/
import Derived.Test.YtpddaldlebngaaaGreatDoorZp17

section
set_option linter.unusedSimpArgs false
set_option linter.unusedVariables false
namespace Go.Proofs.YtpddaldlebngaaaGreatDoor.Nu
open Go.Aw Go.Aw.D Go.Proofs Ty Go.Nu
set_option maxRecDepth 100000
theorem take_lt {l:List Nat} (h:Lim 10 l) (k:Nat):ofL 10 (l.take k) < 10 ^ k:=by
  have h1:=ofL_lt (b:=10) (by decide) (h.take k)
  have h2:10 ^ (l.take k).length≤10 ^ k:=Nat.pow_le_pow_right (by decide) (by rw [List.length_take]; omega)
  omega
theorem cmp_step {x y:List Nat} (hx:Lim 10 x) (hy:Lim 10 y) (k:Nat):cmpI (ofL 10 (x.take (k + 1))) (ofL 10 (y.take (k + 1)))=if x.getD k 0 < y.getD k 0 then -1 else if y.getD k 0 < x.getD k 0 then 1 else cmpI (ofL 10 (x.take k)) (ofL 10 (y.take k)):=by
  have h1:=take_lt hx k
  have h2:=take_lt hy k
  rw [take_getD,take_getD]
  generalize ofL 10 (x.take k)=p at *
  generalize ofL 10 (y.take k)=q at *
  generalize x.getD k 0=a at *
  generalize y.getD k 0=b at *
  generalize 10 ^ k=T at *
  split
  · rename_i h
    have:T * (a + 1)≤T * b:=Nat.mul_le_mul_left _ h
    rw [Nat.mul_add] at this
    rw [cmpI_lt (by omega)]
  · split
    · rename_i h
      have:T * (b + 1)≤T * a:=Nat.mul_le_mul_left _ h
      rw [Nat.mul_add] at this
      rw [cmpI_gt (by omega)]
    · have:a=b:=by omega
      subst this
      unfold cmpI
      have c1:(((p + T * a:Nat):Int) < ((q + T * a:Nat):Int))↔((p:Int) < (q:Int)):=by omega
      have c2:(((q + T * a:Nat):Int) < ((p + T * a:Nat):Int))↔((q:Int) < (p:Int)):=by omega
      simp only [c1,c2]
theorem compare3_c (m n:Nat) (hm:(limbs 10 m).length≤1048576) (hn:(limbs 10 n).length≤1048576):PC Tryz.prog 202 [dg m,dg n] (int (cmpI m n)):=by
  have om:=ofL_limbs (b:=10) (by decide) m
  have on:=ofL_limbs (b:=10) (by decide) n
  have lm:=limbs_lim (b:=10) (by decide) m
  have ln:=limbs_lim (b:=10) (by decide) n
  simp only [dg]
  generalize limbs 10 m=x at *
  generalize limbs 10 n=y at *
  have hmax:imax (x.length:Int) (y.length:Int)=((max x.length y.length:Nat):Int):=by unfold imax; split <;> omega
  refine PC.body (c:=Tryz.f202.body.getD .skip) (fun _=>false) mixed Tryz.func202 rfl (by kernel_rfl) ?_
  unfold Tryz.f202
  simp only [Option.getD_some]
  simp only [go_sem]
  simp only [hmax]
  refine ⟨fun ρ _=>∃ k:Nat,k≤max x.length y.length∧ρ 0=.sl (x.map encN)∧ρ 1=.sl (y.map encN)∧ρ 5=int ((k:Int) - 1)∧cmpI m n=cmpI (ofL 10 (x.take k)) (ofL 10 (y.take k)),fun ρ _=>upN (ρ 5),
    ⟨max x.length y.length,Nat.le_refl _,by simp only [go_sem],by simp only [go_sem],by simp only [go_sem]; rw [wrap_in (by omega)],by rw [List.take_of_length_le (by omega),List.take_of_length_le (by omega),om,on]⟩,?_⟩
  rintro ρ H ⟨k,hk,h0,h1,h5,hv⟩
  simp only [go_sem,h0,h1,h5]
  refine acond_i (fun hge=>?_) (fun hlt=>?_)
  · obtain ⟨i,rfl⟩:∃ i,k=i + 1:=⟨k - 1,by have:=of_decide_eq_true hge; omega⟩
    have ei:((i + 1:Nat):Int) - 1=(i:Int):=by omega
    rw [ei] at h5
    rw [cmp_step lm ln i] at hv
    simp only [go_sem,h0,h1,h5,ei]
    refine PC.use (digit3_c x i (by omega) (by omega)) ?_
    simp only [go_sem,h0,h1,h5]
    refine PC.use (digit3_c y i (by omega) (by omega)) ?_
    simp only [go_sem,h0,h1,h5]
    refine acond_i (fun hb=>?_) (fun hb=>?_)
    · have hb:=ltB hb
      simp only [go_sem]
      exact cI (by rw [hv,if_pos hb])
    have hb:¬ x.getD i 0 < y.getD i 0:=by simpa using hb
    simp only [go_sem,h0,h1,h5]
    refine PC.use (digit3_c x i (by omega) (by omega)) ?_
    simp only [go_sem,h0,h1,h5]
    refine PC.use (digit3_c y i (by omega) (by omega)) ?_
    simp only [go_sem,h0,h1,h5]
    refine acond_i (fun hb2=>?_) (fun hb2=>?_)
    · have hb2:y.getD i 0 < x.getD i 0:=by simpa using hb2
      simp only [go_sem]
      exact cI (by rw [hv,if_neg hb,if_pos hb2])
    have hb2:¬ y.getD i 0 < x.getD i 0:=by simpa using hb2
    simp only [go_sem,h0,h1,h5,show IntKind.i64.wrap ((i:Int) - 1)=(i:Int) - 1 from wrap_in (by omega)]
    exact ⟨⟨i,by omega,rfl,by rw [hv,if_neg hb,if_neg hb2]⟩,by simp only [upN_int]; omega⟩
  · have hge:k=0:=by have:=of_decide_eq_false hlt; omega
    subst hge
    simp only [go_sem]
    exact cI (by rw [hv]; rfl)
theorem plus3_c (m n:Nat) (hm:(limbs 10 m).length≤1048576) (hn:(limbs 10 n).length≤1048576):PC Tryz.prog 200 [dg m,dg n] (dg (m + n)):=by
  have om:=ofL_limbs (b:=10) (by decide) m
  have on:=ofL_limbs (b:=10) (by decide) n
  have lm:=limbs_lim (b:=10) (by decide) m
  have ln:=limbs_lim (b:=10) (by decide) n
  have htr:∀ l:List Nat,Lim 10 l→l.length≤4611686018427387904→ofL 10 l=m + n→PC Tryz.prog 190 [.sl (l.map encN)] (dg (m + n)):=fun l h1 h2 h3=>trimD h1 h2 h3
  simp only [dg] at htr ⊢
  generalize limbs 10 m=x at *
  generalize limbs 10 n=y at *
  generalize limbs 10 (m + n)=z at *
  refine PC.body (c:=Tryz.f200.body.getD .skip) (fun t=>t == 5) mixed Tryz.func200 rfl (by kernel_rfl) ?_
  unfold Tryz.f200
  simp only [Option.getD_some]
  simp only [go_sem]
  refine anew_i fun j hj=>?_
  simp only [go_sem]
  refine ⟨fun ρ H=>∃ (i c j:Nat) (o:List Nat),i≤max x.length y.length + 1∧ρ 0=.sl (x.map encN)∧ρ 1=.sl (y.map encN)∧ρ 5=.os j∧ρ 6=int c∧ρ 7=int i∧H j=some (numRow o)∧Lim 10 o∧o.length=i∧c≤1∧(i=max x.length y.length + 1→c=0)∧ofL 10 o + 10 ^ i * c=ofL 10 (x.take i) + ofL 10 (y.take i),fun ρ _=>max x.length y.length + 1 - natOf (ρ 7),
    ⟨0,0,j,[],by omega,by simp only [go_sem],by simp only [go_sem],by simp only [go_sem],by simp only [go_sem]; rfl,by simp only [go_sem]; rfl,row_nil,by simp [Lim],rfl,by omega,by omega,by simp [ofL]⟩,?_⟩
  clear hj j
  rintro ρ H ⟨i,c,j,o,hi,h0,h1,h5,h6,h7,Rj,ho,hol,hc,hcz,hv⟩
  simp only [go_sem,h0,h1,h5,h6,h7]
  refine acond_i (fun hb=>?_) (fun hb=>?_)
  · have hb:i < x.length∨i < y.length∨0 < c:=by simpa [or_assoc] using hb
    have hlt:i < max x.length y.length + 1:=by
      rcases Nat.lt_or_ge i (max x.length y.length + 1) with h | h
      · exact h
      · have:=hcz (by omega)
        omega
    have hst:=add_step (b:=10) (by decide) (x:=x) (y:=y) hol hv
    have hxd:x.getD i 0 < 10:=lm.getD (by decide) i
    have hyd:y.getD i 0 < 10:=ln.getD (by decide) i
    have hcz2:i + 1=max x.length y.length + 1→(x.getD i 0 + y.getD i 0 + c) / 10=0:=fun e=>by
      have e1:x.getD i 0=0:=by simp only [List.getD,List.getElem?_eq_none (show x.length≤i by omega),Option.getD_none]
      have e2:y.getD i 0=0:=by simp only [List.getD,List.getElem?_eq_none (show y.length≤i by omega),Option.getD_none]
      rw [e1,e2]; omega
    simp only [go_sem,h0,h1,h5,h6,h7]
    refine PC.use (digit3_c x i (by omega) (by omega)) ?_
    simp only [go_sem,h0,h1,h5,h6,h7]
    refine PC.use (digit3_c y i (by omega) (by omega)) ?_
    generalize x.getD i 0=a at *
    generalize y.getD i 0=b at *
    have e1:IntKind.i64.wrap (IntKind.i64.wrap ((a:Int) + (b:Int)) + (c:Int))=((a + b + c:Nat):Int):=by
      rw [show IntKind.i64.wrap ((a:Int) + (b:Int))=(a:Int) + b from wrap_in (by omega),wrap_in (by omega)]; omega
    simp only [go_sem,h0,h1,h5,h6,h7,e1]
    have e2:(((a + b + c:Nat):Int)).tmod 10=(((a + b + c) % 10:Nat):Int):=rfl
    have e3:(((a + b + c:Nat):Int)).tdiv 10=(((a + b + c) / 10:Nat):Int):=rfl
    rw [e2]
    refine ⟨by decide,wappE_i Rj ⟨rfl,rfl⟩ ⟨rfl,trivial⟩ (by simp only [numRow,List.length_map,List.length_cons,List.length_nil]; omega) (fun j' hj'=>?_)⟩
    simp only [go_sem,h0,h1,h5,h6,h7,e3,wrapS (show i≤4611686018427387904 by omega)]
    rw [show IntKind.i64.wrap (((a + b + c) / 10:Nat):Int)=(((a + b + c) / 10:Nat):Int) from wrap_in (by omega)]
    exact ⟨by decide,⟨i + 1,_,j',_,hlt,rfl,rfl,rfl,row_snoc,ho.snoc (Nat.mod_lt _ (by decide)),by simp [hol],by omega,hcz2,hst⟩,by simp only [natOf_int]; omega⟩
  · have hb : x.length ≤ i ∧ y.length ≤ i ∧ c = 0 := by
      simp at hb
      omega
    simp only [go_sem,h5]
    rw [hb.2.2,Nat.mul_zero,Nat.add_zero,List.take_of_length_le hb.1,List.take_of_length_le hb.2.1,om,on] at hv
    refine PC.useF [j] (.cons _ _ _ _ (.row _ _ _ (by simp only [List.mem_singleton,if_true]; exact Rj) (ConvE.refl _)) .nil) (htr o ho (by omega) hv) ?_
    simp only [go_sem]
    exact .refl _
theorem minus3_c (m n:Nat) (hm:(limbs 10 m).length≤1048576) (hnm:n≤m):PC Tryz.prog 201 [dg m,dg n] (dg (m - n)):=by
  have om:=ofL_limbs (b:=10) (by decide) m
  have on:=ofL_limbs (b:=10) (by decide) n
  have lm:=limbs_lim (b:=10) (by decide) m
  have ln:=limbs_lim (b:=10) (by decide) n
  have hyl:=limbs_len_mono (b:=10) (by decide) hnm
  have htr:∀ l:List Nat,Lim 10 l→l.length≤4611686018427387904→ofL 10 l=m - n→PC Tryz.prog 190 [.sl (l.map encN)] (dg (m - n)):=fun l h1 h2 h3=>trimD h1 h2 h3
  simp only [dg] at htr ⊢
  generalize limbs 10 m=x at *
  generalize limbs 10 n=y at *
  generalize limbs 10 (m - n)=z at *
  refine PC.body (c:=Tryz.f201.body.getD .skip) (fun t=>t == 5) mixed Tryz.func201 rfl (by kernel_rfl) ?_
  unfold Tryz.f201
  simp only [Option.getD_some]
  simp only [go_sem]
  refine anew_i fun j hj=>?_
  simp only [go_sem]
  refine ⟨fun ρ H=>∃ (i j c:Nat) (o:List Nat),i≤x.length∧ρ 0=.sl (x.map encN)∧ρ 1=.sl (y.map encN)∧ρ 5=.os j∧ρ 6=int c∧ρ 7=int i∧H j=some (numRow o)∧Lim 10 o∧o.length=i∧c≤1∧ofL 10 o + ofL 10 (y.take i)=ofL 10 (x.take i) + 10 ^ i * c,fun ρ _=>x.length - natOf (ρ 7),
    ⟨0,j,0,[],Nat.zero_le _,by simp only [go_sem],by simp only [go_sem],by simp only [go_sem],by simp only [go_sem]; rfl,by simp only [go_sem]; rfl,row_nil,by simp [Lim],rfl,by omega,by simp [ofL]⟩,?_⟩
  clear hj j
  rintro ρ H ⟨i,j,c,o,hi,h0,h1,h5,h6,h7,Rj,ho,hol,hc,hv⟩
  simp only [go_sem,h0,h1,h5,h6,h7,List.length_map]
  refine acond_i (fun hlt=>?_) (fun hge=>?_)
  · have hlt:=ltB hlt
    obtain ⟨a,ha⟩:=getIn hlt
    have hag:x.getD i 0=a:=by simp [List.getD,ha]
    have b1:=inB hlt
    have hab:a < 10:=lm a (List.mem_of_getElem? ha)
    have hyb:y.getD i 0 < 10:=ln.getD (by decide) i
    simp only [go_sem,h0,h1,h5,h6,h7]
    refine adraw_q (by rfl) (by kernel_rfl) ?_
    simp only [go_sem,h0,h1,h5,h6,h7,getD_map ha,b1,List.length_map]
    refine ⟨_,(digit3_c y i (by omega) (by omega)).q rfl,?_⟩
    have hd2:=minus_digit2 (b:=10) hab hyb hc
    have hst:=minus_step (b:=10) (x:=x) (y:=y) (c':=if a < y.getD i 0 + c then 1 else 0) (d:=if a < y.getD i 0 + c then a + 10 - (y.getD i 0 + c) else a - (y.getD i 0 + c)) hol hv (by rw [hag]; exact hd2.1)
    generalize y.getD i 0=yi at *
    have e1:IntKind.i64.wrap (IntKind.i64.wrap ((a:Int) - (yi:Int)) - (c:Int))=(a:Int) - yi - c:=by
      rw [show IntKind.i64.wrap ((a:Int) - (yi:Int))=(a:Int) - yi from wrap_in (by omega),wrap_in (by omega)]
    simp only [go_sem,h0,h1,h5,h6,h7,e1]
    refine acond_join (fun ρ' H'=>ρ' 0=.sl (x.map encN)∧ρ' 1=.sl (y.map encN)∧ρ' 5=.os j∧ρ' 7=int i∧H' j=some (numRow o)∧ρ' 8=int (if a < yi + c then a + 10 - (yi + c) else a - (yi + c):Nat)∧ρ' 6=int (if a < yi + c then 1 else 0:Nat)) ?_ fun K hK=>acond_i (fun hb=>?_) (fun hb=>?_)
    rotate_left
    · have hb:a < yi + c:=by simp at hb; omega
      have e2:IntKind.i64.wrap ((a:Int) - yi - c + 10)=((a + 10 - (yi + c):Nat):Int):=by rw [wrap_in (by omega)]; omega
      simp only [go_sem,h0,h1,h5,h6,h7,e2]
      exact hK _ _ ⟨by simp only [go_sem,h0],by simp only [go_sem,h1],by simp only [go_sem,h5],by simp only [go_sem,h7],Rj,by simp only [go_sem,if_pos hb],by simp only [go_sem,if_pos hb]; rfl⟩
    · have hb:¬ a < yi + c:=by simp at hb; omega
      simp only [go_sem,h0,h1,h5,h6,h7]
      refine hK _ _ ⟨by simp only [go_sem,h0],by simp only [go_sem,h1],by simp only [go_sem,h5],by simp only [go_sem,h7],Rj,?_,by simp only [go_sem,if_neg hb]; rfl⟩
      simp only [go_sem,if_neg hb]
      congr 2
      omega
    clear h0 h1 h5 h6 h7 Rj
    rintro ρ H ⟨h0,h1,h5,h7,Rj,h8,h6⟩
    simp only [go_sem,h0,h1,h5,h6,h7,h8]
    refine wappE_i Rj ⟨rfl,rfl⟩ ⟨rfl,trivial⟩ (by simp only [numRow,List.length_map,List.length_cons,List.length_nil]; omega) (fun j' hj'=>?_)
    simp only [go_sem,h0,h1,h5,h6,h7,wrapS (show i≤4611686018427387904 by omega)]
    exact ⟨⟨i + 1,j',_,_,hlt,rfl,rfl,rfl,row_snoc,ho.snoc hd2.2,by simp [hol],by split <;> omega,hst⟩,by simp only [natOf_int]; omega⟩
  · have hge:=geB hi hge
    subst hge
    simp only [go_sem,h5]
    obtain ⟨_,hV⟩:=minus_end (b:=10) (by decide) ho lm hol hyl (by omega) hc hv
    refine PC.useF [j] (.cons _ _ _ _ (.row _ _ _ (by simp only [List.mem_singleton,if_true]; exact Rj) (ConvE.refl _)) .nil) (htr o ho (by omega) (hV.trans (by rw [om,on]))) ?_
    simp only [go_sem]
    exact .refl _
end Go.Proofs.YtpddaldlebngaaaGreatDoor.Nu
end

section
set_option linter.unusedSimpArgs false
set_option linter.unusedVariables false
namespace Go.Proofs.YtpddaldlebngaaaGreatDoor.Nu
open Go.Aw Go.Aw.D Go.Proofs Ty Go.Nu
set_option maxRecDepth 100000
theorem times3_c (m n:Nat) (hm:(limbs 10 m).length≤1048576) (hn:(limbs 10 n).length≤1048576):PC Tryz.prog 226 [dg m,dg n] (dg (m * n)):=by
  have om:=ofL_limbs (b:=10) (by decide) m
  have on:=ofL_limbs (b:=10) (by decide) n
  have lm:=limbs_lim (b:=10) (by decide) m
  have ln:=limbs_lim (b:=10) (by decide) n
  have htr:∀ l:List Nat,Lim 10 l→l.length≤4611686018427387904→ofL 10 l=m * n→PC Tryz.prog 190 [.sl (l.map encN)] (dg (m * n)):=fun l h1 h2 h3=>trimD h1 h2 h3
  simp only [dg] at htr ⊢
  generalize limbs 10 m=x at *
  generalize limbs 10 n=y at *
  generalize limbs 10 (m * n)=z at *
  have ew:IntKind.i64.wrap ((x.length:Int) + (y.length:Int))=((x.length + y.length:Nat):Int):=by rw [wrap_in (by omega)]; omega
  refine PC.body (c:=Tryz.f226.body.getD .skip) (fun t=>t == 15) mixed Tryz.func226 rfl (by kernel_rfl) ?_
  unfold Tryz.f226
  simp only [Option.getD_some]
  simp only [go_sem]
  simp only [ew]
  refine ⟨by omega,anew_i fun j hj=>?_⟩
  simp only [go_sem]
  refine ⟨fun ρ H=>∃ (i:Nat) (out:List Nat),i≤x.length∧ρ 0=.sl (x.map encN)∧ρ 1=.sl (y.map encN)∧ρ 5=.os j∧ρ 6=int i∧H j=some (numRow out)∧Lim 10 out∧out.length=x.length + y.length∧ofL 10 out=ofL 10 (x.take i) * ofL 10 y,fun ρ _=>x.length - natOf (ρ 6),
    ⟨0,List.replicate (x.length + y.length) 0,Nat.zero_le _,by simp only [go_sem],by simp only [go_sem],by simp only [go_sem],by simp only [go_sem]; rfl,?_,Lim.zeros (by decide) _,by simp,by simp [ofL,ofL_zeros]⟩,?_⟩
  · rw [updH_same]
    simp only [numRow,List.map_replicate,nat_toNat]
    rfl
  clear hj
  rintro ρ H ⟨i,out,hi,h0,h1,h5,h6,Rj,ho,hol,hv⟩
  simp only [go_sem,h0,h1,h5,h6,List.length_map]
  refine acond_i (fun hlt=>?_) (fun hge=>?_)
  · have hlt:=ltB hlt
    obtain ⟨xi,hxi⟩:=getIn hlt
    have b1:=inB hlt
    have hxb:xi < 10:=lm xi (List.mem_of_getElem? hxi)
    have hz0:out[i + y.length]?=some 0:=by
      refine zero_hi (b:=10) (by decide) (q:=i + y.length) ?_ (Nat.le_refl _) (by omega)
      rw [hv,Nat.pow_add]
      have h1:=ofL_lt (b:=10) (by decide) (lm.take i)
      rw [List.length_take,Nat.min_eq_left hi] at h1
      exact Nat.mul_lt_mul'' h1 (ofL_lt (b:=10) (by decide) ln)
    simp only [go_sem,h0,h1,h5,h6]
    refine ⟨fun ρ H=>∃ (k c:Nat) (o:List Nat),k≤y.length + 1∧ρ 0=.sl (x.map encN)∧ρ 1=.sl (y.map encN)∧ρ 5=.os j∧ρ 6=int i∧ρ 7=int c∧ρ 8=int k∧H j=some (numRow o)∧Lim 10 o∧o.length=x.length + y.length∧c < 10∧(k≤y.length→ofL 10 o + 10 ^ (i + k) * c=ofL 10 out + 10 ^ i * (xi * ofL 10 (y.take k))∧o[i + y.length]?=some 0)∧(k=y.length + 1→c=0∧ofL 10 o=ofL 10 out + 10 ^ i * (xi * ofL 10 y)),fun ρ _=>y.length + 1 - natOf (ρ 8),
      ⟨0,0,out,Nat.zero_le _,by simp only [go_sem,h0],by simp only [go_sem,h1],by simp only [go_sem,h5],by simp only [go_sem,h6],by simp only [go_sem]; rfl,by simp only [go_sem]; rfl,Rj,ho,hol,by omega,fun _=>⟨by simp [ofL],hz0⟩,by omega⟩,?_⟩
    clear h0 h1 h5 h6 Rj
    rintro ρ H ⟨k,c,o,hk,h0,h1,h5,h6,h7,h8,Rj,hO,hoL,hc,hV,hZ⟩
    simp only [go_sem,h0,h1,h5,h6,h7,h8,List.length_map]
    refine acond_i (fun hb=>?_) (fun hb=>?_)
    · have hb:k < y.length∨0 < c:=by simpa using hb
      have hky:k≤y.length:=by
        rcases Nat.lt_or_ge y.length k with h | h
        · have:=(hZ (by omega)).1
          omega
        · exact h
      obtain ⟨hV,hz⟩:=hV hky
      obtain ⟨v,hov⟩:=getIn (show i + k < o.length by omega)
      have hvb:v < 10:=hO v (List.mem_of_getElem? hov)
      have b3:0≤((i + k:Nat):Int)∧((i + k:Nat):Int) < ((numRow o).es.length:Nat):=by
        simp only [numRow,List.length_map]; omega
      have ei:IntKind.i64.wrap ((i:Int) + (k:Int))=((i + k:Nat):Int):=by rw [wrap_in (by omega)]; omega
      have hog:(numRow o).es.getD (i + k) []=encN v:=getD_map hov
      have hyb:y.getD k 0 < 10:=ln.getD (by decide) k
      have hmul:xi * y.getD k 0≤9 * 9:=Nat.mul_le_mul (by omega) (by omega)
      have e1:IntKind.i64.wrap (IntKind.i64.wrap ((v:Int) + IntKind.i64.wrap ((xi:Int) * ((y.getD k 0:Nat):Int))) + (c:Int))=((v + xi * y.getD k 0 + c:Nat):Int):=by
        rw [show (xi:Int) * ((y.getD k 0:Nat):Int)=((xi * y.getD k 0:Nat):Int) from (Int.natCast_mul xi _).symm]
        generalize xi * y.getD k 0=p at *
        rw [show IntKind.i64.wrap (p:Int)=(p:Int) from wrap_in (by omega),show IntKind.i64.wrap ((v:Int) + (p:Int))=(v:Int) + p from wrap_in (by omega),wrap_in (by omega)]
        omega
      have hq:(v + xi * y.getD k 0 + c) / 10 < 10:=by omega
      have e2:IntKind.i64.wrap ((((v + xi * y.getD k 0 + c:Nat):Int)).tdiv 10)=(((v + xi * y.getD k 0 + c) / 10:Nat):Int):=by
        generalize v + xi * y.getD k 0 + c=p at *
        rw [Int.tdiv_eq_ediv_of_nonneg (by omega),wrap_in (by omega)]
        omega
      have e3:(((v + xi * y.getD k 0 + c:Nat):Int)).tmod 10=(((v + xi * y.getD k 0 + c) % 10:Nat):Int):=rfl
      simp only [go_sem,h0,h1,h5,h6,h7,h8]
      refine adraw_q (by rfl) (by kernel_rfl) ?_
      simp only [go_sem,h0,h1,h5,h6,h7,h8,ei,Rj,b3,hog,getD_map hxi,b1,List.length_map]
      have hlen:i + k < (numRow o).es.length:=by simp only [numRow,List.length_map]; omega
      refine ⟨rfl,⟨hlen,Nat.zero_lt_one⟩,_,(digit3_c y k (by omega) (by omega)).q rfl,?_⟩
      simp only [go_sem,h0,h1,h5,h6,h7,h8,e1,ei,Rj,b3,hog,e3]
      refine ⟨by decide,rfl,wputE_1 so3 Rj ⟨hlen,rfl,Nat.le_refl 1⟩ ?_⟩
      generalize hP:updH H j _=HP
      have Rj':HP j=some (numRow (o.set (i + k) ((v + xi * y.getD k 0 + c) % 10))):=by
        rw [← hP,updH_same]
        exact congrArg some (set_row (q:=(v + xi * y.getD k 0 + c) % 10) hov)
      clear hP Rj
      simp only [go_sem,h0,h1,h5,h6,h7,h8,e2,wrapS (show k≤4611686018427387904 by omega)]
      refine ⟨by decide,⟨k + 1,_,_,by omega,rfl,rfl,Rj',hO.set (Nat.mod_lt _ (by decide)),by simp [hoL],hq,fun hk1=>?_,fun hk1=>?_⟩,by simp only [natOf_int]; omega⟩
      · obtain ⟨yk,hyk⟩:=getIn (show k < y.length by omega)
        have hyg:y.getD k 0=yk:=by simp [List.getD,hyk]
        rw [hyg]
        exact ⟨mul_step (b:=10) (by decide) hov hyk hV,by rw [List.getElem?_set_ne (by omega)]; exact hz⟩
      · have hk2:k=y.length:=by omega
        subst hk2
        have hv0:v=0:=by rw [hov] at hz; exact Option.some.inj hz
        have hy0:y.getD y.length 0=0:=by simp [List.getD]
        rw [hv0,hy0,Nat.mul_zero,Nat.zero_add,Nat.mod_eq_of_lt hc]
        exact ⟨by omega,mul_row (b:=10) hz hV⟩
    · have hb : y.length ≤ k ∧ c = 0 := by
        simp at hb
        omega
      have hfin:ofL 10 o=ofL 10 out + 10 ^ i * (xi * ofL 10 y):=by
        rcases Nat.lt_or_ge y.length k with h | h
        · exact (hZ (by omega)).2
        · have h1:=(hV h).1
          rw [hb.2,Nat.mul_zero,Nat.add_zero,List.take_of_length_le hb.1] at h1
          exact h1
      simp only [go_sem,h0,h1,h5,h6,h7,h8,wrapS (show i≤4611686018427387904 by omega)]
      refine ⟨⟨i + 1,o,hlt,rfl,Rj,hO,hoL,?_⟩,by simp only [natOf_int]; omega⟩
      rw [hfin,hv,ofL_take_succ 10 hxi,Nat.add_mul,Nat.mul_assoc]
  · have hge:=geB hi hge
    subst hge
    rw [List.take_length] at hv
    simp only [go_sem,h5]
    refine PC.useF [j] (.cons _ _ _ _ (.row _ _ _ (by simp only [List.mem_singleton,if_true]; exact Rj) (ConvE.refl _)) .nil) (htr out ho (by omega) (by rw [hv,om,on])) ?_
    simp only [go_sem]
    exact .refl _
def lenS:AV→Nat
  | .sl es=>ofL 10 (es.map fun e=>match e with | [.v (.int _ z)]=>z.toNat | _=>0)
  | _=>0
theorem lenS_dg (n:Nat):lenS (dg n)=n:=by
  unfold lenS dg
  simp only [List.map_map]
  have:(limbs 10 n).map ((fun e=>match e with | [.v (.int _ z)]=>z.toNat | _=>0) ∘ encN)=limbs 10 n:=by
    conv=>rhs; rw [← List.map_id (limbs 10 n)]
    exact List.map_congr_left fun x _=>rfl
  rw [this,ofL_limbs (by decide)]
theorem divide3_c (m n:Nat) (hm:(limbs 10 m).length≤1048570) (hn:0 < n) (hnl:(limbs 10 n).length≤1048570):PC Tryz.prog 199 [dg m,dg n] (.tup [dg (m / n),dg (m % n)]):=by
  have om:=ofL_limbs (b:=10) (by decide) m
  have lm:=limbs_lim (b:=10) (by decide) m
  rw [show dg m=.sl ((limbs 10 m).map encN) from rfl]
  generalize limbs 10 m=x at *
  refine PC.body (c:=Tryz.f199.body.getD .skip) (fun t=>t == 12 || t == 24) mixed Tryz.func199 rfl (by kernel_rfl) ?_
  unfold Tryz.f199
  simp only [Option.getD_some]
  simp only [go_sem]
  refine ⟨by omega,anew_i fun j hj=>?_⟩
  simp only [go_sem,List.length_map]
  refine ⟨fun ρ H=>∃ (k r:Nat) (qs:List Nat),k≤x.length∧ρ 0=.sl (x.map encN)∧ρ 1=dg n∧ρ 6=.os j∧ρ 7=dg r∧ρ 8=int ((k:Int) - 1)∧H j=some (numRow qs)∧Lim 10 qs∧qs.length=x.length∧r < n∧(∀ i,i < k→qs[i]?=some 0)∧ofL 10 (x.drop k)=ofL 10 (qs.drop k) * n + r,fun ρ _=>upN (ρ 8),
    ⟨x.length,0,List.replicate x.length 0,Nat.le_refl _,by simp only [go_sem],by simp only [go_sem],by simp only [go_sem],by simp only [go_sem,dg,limbs_zero,List.map_nil],by simp only [go_sem]; rw [wrap_in (by omega)],?_,Lim.zeros (by decide) _,by simp,hn,?_,?_⟩,?_⟩
  · rw [updH_same]
    simp only [numRow,List.map_replicate,nat_toNat]
    rfl
  · intro i hi
    simp [List.getElem?_replicate,hi]
  · rw [List.drop_length,List.drop_of_length_le (by simp)]; simp [ofL]
  clear hj
  rintro ρ H ⟨k,r,qs,hk,h0,h1,h6,h7,h8,Rj,hqs,hql,hr,hz,hv⟩
  simp only [go_sem,h0,h1,h6,h7,h8]
  refine acond_i (fun hge=>?_) (fun hlt=>?_)
  · obtain ⟨i,rfl⟩:∃ i,k=i + 1:=⟨k - 1,by have:=of_decide_eq_true hge; omega⟩
    have ei:((i + 1:Nat):Int) - 1=(i:Int):=by omega
    rw [ei] at h8
    obtain ⟨a,ha⟩:=getIn (show i < x.length by omega)
    have hab:a < 10:=lm a (List.mem_of_getElem? ha)
    have b1:=inB (show i < x.length by omega)
    have hrl:(limbs 10 r).length≤(limbs 10 n).length:=limbs_len_mono (by decide) (by omega)
    have hrv:=ofL_limbs (b:=10) (by decide) r
    have hrlim:=limbs_lim (b:=10) (by decide) r
    simp only [go_sem,h0,h1,h6,h7,h8,ei,getD_map ha,b1,List.length_map]
    obtain ⟨hV,hQ,hRn⟩:=div_step (b:=10) (a:=n) (by decide) ha hab hr (show i < qs.length by omega) hv
    have hTL:ofL 10 (a :: limbs 10 r)=a + 10 * r:=by rw [ofL,hrv]
    have hTT:Lim 10 (a :: limbs 10 r):=fun y hy=>by
      rcases List.mem_cons.1 hy with rfl | hy
      · exact hab
      · exact hrlim y hy
    have hRl:(limbs 10 (a + 10 * r)).length≤1048575:=by
      refine Nat.le_trans (limbs_len_le (b:=10) (k:=(limbs 10 r).length + 1) (by decide) ?_) (by omega)
      have h1:=ofL_lt (b:=10) (by decide) hTT
      rw [hTL] at h1
      simpa using h1
    generalize hR':a + 10 * r=R at *
    refine anew_i fun j2 hj2=>?_
    simp only [go_sem,h0,h1,h6,h7,h8]
    have Rj1:=keep_new (r':=⟨3,1,[[int (a:Int)]]⟩) Rj hj2
    refine wappE_i (updH_same _ _ _) ⟨rfl,rfl⟩ (allN _) (by simp only [List.length_map,List.length_cons,List.length_nil]; omega) (fun i2 hi2=>?_)
    have Rj2:=keep_app Rj1 (ne_new Rj hj2).symm hi2 (r':=⟨3,1,[[int (a:Int)]] ++ (limbs 10 r).map encN⟩)
    have nj2:j≠i2:=ne_new Rj1 hi2
    simp only [go_sem,h0,h1,h6,h7,h8]
    refine PC.useF [i2] (.cons _ _ _ _ (.row _ _ _ (by simp only [List.mem_singleton,if_true]; exact updH_same _ _ _) (ConvE.refl _)) .nil) (trimD hTT (by simp; omega) hTL) ?_
    generalize hHN:(fun k=>if k∈[i2] then none else _)=HN
    have Rj3:HN j=some (numRow qs):=by rw [← hHN]; simp only [List.mem_singleton,if_neg nj2]; exact Rj2
    clear hHN Rj2 Rj1 Rj
    simp only [go_sem,h0,h1,h6,h7,h8]
    refine ⟨fun ρ H=>∃ (d r':Nat),ρ 0=.sl (x.map encN)∧ρ 1=dg n∧ρ 6=.os j∧ρ 7=dg r'∧ρ 8=int i∧H j=some (numRow (qs.set i d))∧d * n + r'=R,fun ρ _=>lenS (ρ 7),
      ⟨0,R,by simp only [go_sem,h0],by simp only [go_sem,h1],by simp only [go_sem,h6],by simp only [go_sem],by simp only [go_sem,h8],?_,by omega⟩,?_⟩
    · rw [Rj3]
      have h2:=hz i (by omega)
      obtain ⟨h3,h4⟩:=List.getElem?_eq_some_iff.1 h2
      congr 2
      rw [← h4]; exact (List.set_getElem_self h3).symm
    clear h0 h1 h6 h7 h8 Rj3
    rintro ρ H ⟨d,r',h0,h1,h6,h7,h8,Rj,hd⟩
    have hr'l:=limbs_len_mono (b:=10) (by decide) (show r'≤R by omega)
    simp only [go_sem,h0,h1,h6,h7,h8]
    refine PC.use (compare3_c r' n (by omega) (by omega)) ?_
    simp only [go_sem,h0,h1,h6,h7,h8,cmpI_ge]
    have hd10:d < 10:=by
      rcases Nat.lt_or_ge d 10 with h | h
      · exact h
      · have:=Nat.mul_le_mul_right n h
        omega
    refine acond_i (fun hge2=>?_) (fun hlt2=>?_)
    · have hge2:n≤r':=by have:=of_decide_eq_true hge2; omega
      have hg:(qs.set i d)[i]?=some d:=List.getElem?_set_self (by omega)
      have hgl:(numRow (qs.set i d)).es.getD i []=encN d:=getD_map hg
      have b3:0≤(i:Int)∧(i:Int) < ((numRow (qs.set i d)).es.length:Nat):=by
        simp only [numRow,List.length_map,List.length_set]; omega
      have hlen:i < (numRow (qs.set i d)).es.length:=by simp only [numRow,List.length_map,List.length_set]; omega
      simp only [go_sem,h0,h1,h6,h7,h8]
      refine PC.use (minus3_c r' n (by omega) hge2) ?_
      simp only [go_sem,h0,h1,h6,h7,h8,Rj,b3,hgl,wrapS (show d≤4611686018427387904 by omega)]
      refine ⟨rfl,⟨hlen,Nat.zero_lt_one⟩,rfl,wputE_1 so3 Rj ⟨hlen,rfl,Nat.le_refl 1⟩ ?_⟩
      generalize hP:updH H j _=HP
      have Rj':HP j=some (numRow (qs.set i (d + 1))):=by
        rw [← hP,updH_same]
        refine (congrArg some (set_row (q:=d + 1) hg)).trans ?_
        rw [List.set_set]
      clear hP Rj
      simp only [go_sem,h0,h1,h6,h7,h8]
      refine ⟨⟨d + 1,r' - n,rfl,Rj',by rw [Nat.add_mul]; omega⟩,?_⟩
      show lenS (dg (r' - n)) < lenS (dg r')
      rw [lenS_dg,lenS_dg]
      omega
    · have hlt2:r' < n:=by have:=of_decide_eq_false hlt2; omega
      have hdR:R / n=d:=by rw [← hd,Nat.add_comm,Nat.add_mul_div_right _ _ hn,Nat.div_eq_of_lt hlt2,Nat.zero_add]
      have hrR:R % n=r':=by rw [← hd,Nat.add_comm,Nat.add_mul_mod_self_right,Nat.mod_eq_of_lt hlt2]
      rw [hdR,hrR] at hV
      simp only [go_sem,h0,h1,h6,h7,h8,show IntKind.i64.wrap ((i:Int) - 1)=(i:Int) - 1 from wrap_in (by omega)]
      refine ⟨⟨i,r',qs.set i d,by omega,rfl,rfl,Rj,hqs.set hd10,by simp [hql],hlt2,fun q hq=>?_,hV⟩,by simp only [upN_int]; omega⟩
      rw [List.getElem?_set_ne (by omega)]
      exact hz q (by omega)
  · have hk0:k=0:=by have:=of_decide_eq_false hlt; omega
    subst hk0
    rw [List.drop_zero,List.drop_zero,om] at hv
    have hq2:m / n=ofL 10 qs:=by
      rw [hv,Nat.add_comm,Nat.add_mul_div_right _ _ hn,Nat.div_eq_of_lt hr,Nat.zero_add]
    have hr2:m % n=r:=by
      rw [hv,Nat.add_comm,Nat.add_mul_mod_self_right,Nat.mod_eq_of_lt hr]
    simp only [go_sem,h6,h7]
    refine PC.useF [j] (.cons _ _ _ _ (.row _ _ _ (by simp only [List.mem_singleton,if_true]; exact Rj) (ConvE.refl _)) .nil) (trimD hqs (by omega) hq2.symm) ?_
    simp only [go_sem,h7,hr2]
    exact .refl _
end Go.Proofs.YtpddaldlebngaaaGreatDoor.Nu
end

section
set_option linter.unusedSimpArgs false
set_option linter.unusedVariables false
namespace Go.Proofs.YtpddaldlebngaaaGreatDoor.Nu
open Go.Aw Go.Aw.D Go.Proofs Ty Go.Nu
set_option maxRecDepth 100000
theorem limbs_dec (m:Nat):(limbs 10 m).length≤(dec m).size:=by
  by_cases h:m=0
  · rw [h,limbs_zero]; simp
  · have:=congrArg List.length (txt_limbs h)
    rw [size_dec,← this]
    simp [txt]
theorem limbs_max {m:Nat} (h:m < maxN):(limbs 10 m).length≤4096:=by
  have h1:=limbs_dec m
  have h2:=(size_max m).2 h
  omega
theorem textN_c (m:Bool) (n:Nat) (h:(limbs 10 n).length≤1048576):PC Tryz.prog 150 [boo m,dg n] (str (zed (sg m n))):=by
  have:=text3_c m (limbs 10 n) (limbs_lim (by decide) n) h
  rwa [ofL_limbs (by decide)] at this
theorem sign3_c (s:ByteArray) (h:s.size≤1048576):PC Tryz.prog 228 [str s] (int (signZ s)):=by
  have hs:=bl_size s
  refine PC.body (c:=Tryz.f228.body.getD .skip) (fun _=>false) mixed Tryz.func228 rfl (by kernel_rfl) ?_
  unfold Tryz.f228
  simp only [Option.getD_some]
  simp only [go_sem]
  refine PC.use (right3_c s h) ?_
  simp only [go_sem,eq_zero]
  refine acond_i (fun hb=>?_) (fun hb=>?_)
  · simp only [go_sem]
    refine cI ?_
    unfold signZ
    split
    · rename_i hr
      rw [hr] at hb
      have:s=dec 0:=eqB_iff.1 (by simpa using hb)
      rw [this,← show zed ((0:Nat):Int)=dec 0 from zed_nat 0,valZ_zed]
      rfl
    · rfl
  have hr:rightZ s=true∧eqB s (dec 0)=false:=by
    simp only [Bool.or_eq_false_iff,Bool.not_eq_false'] at hb
    exact hb
  obtain ⟨hr,h0⟩:=hr
  have hp:0 < s.size:=by
    rcases Nat.eq_zero_or_pos s.size with h | h
    · exfalso
      rw [← hs,List.length_eq_zero_iff] at h
      have h2:=bl_digZ s
      rw [h,List.drop_nil] at h2
      unfold rightZ rightN rightL at hr
      rw [h2] at hr
      cases hr
    · exact h
  simp only [go_sem]
  have hd:=dash_int s
  rw [show decide ((s.size:Int) > 0)=true by simp; omega,Bool.true_and] at hd
  rw [hd]
  have hz:zed (valZ s)=s:=zed_valZ hr
  have hm:minusZ s=decide (valZ s < 0):=by rw [← hz,minusZ_zed,valZ_zed]
  have hv:valZ s≠0:=fun e=>eqB_no.1 h0 (by rw [← hz,e]; exact zed_nat 0)
  refine ⟨⟨by omega,by omega⟩,?_⟩
  rw [hm]
  refine acond_i (fun hb=>?_) (fun hb=>?_)
  · have:=of_decide_eq_true hb
    simp only [go_sem]
    exact cI (by unfold signZ; rw [if_pos hr,Int.sign_eq_neg_one_of_neg this])
  · have:=of_decide_eq_false hb
    simp only [go_sem]
    exact cI (by unfold signZ; rw [if_pos hr,Int.sign_eq_one_of_pos (by omega)])
theorem errZ_self {s:ByteArray}:errZ s s=0→∃ n:Int,s=zed n∧n.natAbs < maxN:=fun h=>by
  obtain ⟨m,n,e,_,hm,_⟩:=errZ_zero h
  exact ⟨m,e,hm⟩
theorem abs3_c (s:ByteArray) (h:s.size≤1048576):PC Tryz.prog 108 [str s] (.tup (if errZ s s=0 then [str (dec (valZ s).natAbs),int 0] else [str emp,int (errZ s s)])):=by
  have hck:=check3_c s s h h
  by_cases he:errZ s s=0
  · rw [if_pos he]
    rw [he] at hck
    obtain ⟨n,rfl,hn⟩:=errZ_self he
    have hl:=limbs_max hn
    refine PC.body (c:=Tryz.f108.body.getD .skip) (fun _=>false) mixed Tryz.func108 rfl (by kernel_rfl) ?_
    unfold Tryz.f108
    simp only [Option.getD_some]
    simp only [go_sem]
    refine PC.use hck ?_
    simp only [go_sem]
    refine acond_i (fun hb=>by cases hb) (fun _=>?_)
    simp only [go_sem]
    refine PC.use (parts3_c n h) ?_
    simp only [go_sem]
    refine PC.use (textN_c false n.natAbs (by omega)) ?_
    simp only [go_sem]
    rw [valZ_zed,show sg false n.natAbs=((n.natAbs:Nat):Int) from rfl,zed_nat]
    exact .refl _
  · rw [if_neg he]
    refine PC.body (c:=Tryz.f108.body.getD .skip) (fun _=>false) mixed Tryz.func108 rfl (by kernel_rfl) ?_
    unfold Tryz.f108
    simp only [Option.getD_some]
    simp only [go_sem]
    refine PC.use hck ?_
    simp only [go_sem]
    refine acond_i (fun _=>?_) (fun hb=>absurd (by simpa using hb) he)
    simp only [go_sem]
    exact .refl _
theorem sum3_c (a b:Bool) (m n:Nat) (hm:(limbs 10 m).length≤1048570) (hn:(limbs 10 n).length≤1048570) (hs:(limbs 10 (m + n)).length≤1048576):PC Tryz.prog 227 [boo a,dg m,boo b,dg n] (str (zed (sg a m + sg b n))):=by
  refine PC.body (c:=Tryz.f227.body.getD .skip) (fun _=>false) mixed Tryz.func227 rfl (by kernel_rfl) ?_
  unfold Tryz.f227
  simp only [Option.getD_some]
  simp only [go_sem]
  refine acond_i (fun h=>?_) (fun h=>?_)
  · have hab:a=b:=by simpa using h
    subst hab
    simp only [go_sem]
    refine PC.use (plus3_c m n (by omega) (by omega)) ?_
    simp only [go_sem]
    refine PC.use (textN_c a (m + n) hs) ?_
    simp only [go_sem]
    rw [show sg a (m + n)=sg a m + sg a n by unfold sg; split <;> omega]
    exact .refl _
  have hab:b=!a:=by cases a <;> cases b <;> simp_all
  subst hab
  simp only [go_sem]
  refine PC.use (compare3_c m n (by omega) (by omega)) ?_
  simp only [go_sem,cmpI_ge]
  refine acond_i (fun h2=>?_) (fun h2=>?_)
  · have h2:n≤m:=by have:=of_decide_eq_true h2; omega
    simp only [go_sem]
    refine PC.use (minus3_c m n (by omega) h2) ?_
    simp only [go_sem]
    have:=limbs_len_mono (b:=10) (by decide) (show m - n≤m by omega)
    refine PC.use (textN_c a (m - n) (by omega)) ?_
    simp only [go_sem]
    rw [show sg a (m - n)=sg a m + sg (!a) n by unfold sg; cases a <;> simp <;> omega]
    exact .refl _
  · have h2:m < n:=by have:=of_decide_eq_false h2; omega
    simp only [go_sem]
    refine PC.use (minus3_c n m (by omega) (by omega)) ?_
    simp only [go_sem]
    have:=limbs_len_mono (b:=10) (by decide) (show n - m≤n by omega)
    refine PC.use (textN_c (!a) (n - m) (by omega)) ?_
    simp only [go_sem]
    rw [show sg (!a) (n - m)=sg a m + sg (!a) n by unfold sg; cases a <;> simp <;> omega]
    exact .refl _
end Go.Proofs.YtpddaldlebngaaaGreatDoor.Nu
end
