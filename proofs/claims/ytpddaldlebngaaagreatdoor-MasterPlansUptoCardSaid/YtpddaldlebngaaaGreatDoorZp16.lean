/- Texts joined by a program: NuM, NuR, NuT. -/
import Derived.Test.YtpddaldlebngaaaGreatDoorZp12
import Derived.Test.YtpddaldlebngaaaGreatDoorZp15

section
set_option linter.unusedSimpArgs false
set_option linter.unusedVariables false
namespace Go.Proofs.YtpddaldlebngaaaGreatDoor.Nu
open Go.Aw Go.Aw.D Go.Proofs Ty Go.Nu
set_option maxRecDepth 100000
theorem cmp_bytes:∀ {l r:List UInt8},l.all isD=true→r.all isD=true→l.length=r.length→Lib.compareBytes l r=cmpI (valL l) (valL r)
  | [],[],_,_,_=>by rw [cmpI_eq rfl]; rfl
  | [],_ :: _,_,_,h=>by simp at h
  | _ :: _,[],_,_,h=>by simp at h
  | a :: l,b :: r,hl,hr,h=>by
    simp only [List.all_cons,Bool.and_eq_true] at hl hr
    simp only [List.length_cons,Nat.add_right_cancel_iff] at h
    have ih:=cmp_bytes hl.2 hr.2 h
    have ea:valL (a :: l)=(a.toNat - 48) * 10 ^ l.length + valL l:=by
      have:=valL_append [a] l
      simpa [valL] using this
    have eb:valL (b :: r)=(b.toNat - 48) * 10 ^ r.length + valL r:=by
      have:=valL_append [b] r
      simpa [valL] using this
    have h1:=valL_lt hl.2
    have h2:=valL_lt hr.2
    have da:=isD_iff.1 hl.1
    have db:=isD_iff.1 hr.1
    rw [Lib.compareBytes,ea,eb,← h] at *
    have lt1:a < b↔a.toNat < b.toNat:=UInt8.lt_iff_toNat_lt
    have lt2:b < a↔b.toNat < a.toNat:=UInt8.lt_iff_toNat_lt
    split
    · rename_i hab
      rw [lt1] at hab
      have:(a.toNat - 48 + 1) * 10 ^ l.length≤(b.toNat - 48) * 10 ^ l.length:=Nat.mul_le_mul_right _ (by omega)
      rw [Nat.add_mul] at this
      rw [cmpI_lt (by omega)]
    · split
      · rename_i hab
        rw [lt2] at hab
        have:(b.toNat - 48 + 1) * 10 ^ l.length≤(a.toNat - 48) * 10 ^ l.length:=Nat.mul_le_mul_right _ (by omega)
        rw [Nat.add_mul] at this
        rw [cmpI_gt (by omega)]
      · rename_i n1 n2
        rw [lt1] at n1
        rw [lt2] at n2
        have:a.toNat=b.toNat:=by omega
        rw [ih,this]
        generalize (b.toNat - 48) * 10 ^ l.length=p
        unfold cmpI
        have c1:(((p + valL l:Nat):Int) < ((p + valL r:Nat):Int))↔((valL l:Nat):Int) < ((valL r:Nat):Int):=by omega
        have c2:(((p + valL r:Nat):Int) < ((p + valL l:Nat):Int))↔((valL r:Nat):Int) < ((valL l:Nat):Int):=by omega
        simp only [c1,c2]
theorem wcompare_c (m n:Nat):PC Tryz.prog 167 [str (dec m),str (dec n)] (int (cmpI m n)):=by
  have hm:=size_dec m
  have hn:=size_dec n
  have hmono:∀ {p q:Nat},(Lib.decDigits p).length < (Lib.decDigits q).length→p < q:=fun {p q} h=>by
    have h1:=(dec_len_le (n:=p) (k:=(Lib.decDigits p).length) (dec_len_pos p)).1 (Nat.le_refl _)
    rcases Nat.lt_or_ge p q with h2 | h2
    · exact h2
    · have:=(dec_len_le (n:=q) (k:=(Lib.decDigits p).length) (dec_len_pos p)).2 (by omega)
      omega
  refine PC.body (c:=Tryz.f167.body.getD .skip) (fun _=>false) mixed Tryz.func167 rfl (by kernel_rfl) ?_
  unfold Tryz.f167
  simp only [Option.getD_some]
  simp only [go_sem]
  refine acond_i (fun h=>?_) (fun h=>?_)
  · have h:(dec m).size≠(dec n).size:=neN h
    simp only [go_sem]
    refine acond_i (fun h2=>?_) (fun h2=>?_)
    · have h2:=ltB h2
      simp only [go_sem]
      have:=hmono (p:=m) (q:=n) (by omega)
      exact cI (by rw [cmpI_lt (by omega)])
    · have h2:¬ (dec m).size < (dec n).size:=by have:=of_decide_eq_false h2; omega
      simp only [go_sem]
      have:=hmono (p:=n) (q:=m) (by omega)
      exact cI (by rw [cmpI_gt (by omega)])
  · have h:(dec m).size=(dec n).size:=eqN h
    simp only [go_sem]
    refine PC.use (scmp_c (dec m) (dec n)) ?_
    simp only [go_sem]
    refine cI ?_
    rw [bl_dec,bl_dec,cmp_bytes (dec_all m) (dec_all n) (by omega),valL_dec,valL_dec]
theorem cmp_dec (a b:ByteArray) (ha:rightN a=true) (hb:rightN b=true):PC Tryz.prog 167 [str a,str b] (int (cmpI (valN a) (valN b))):=by
  have:=wcompare_c (valN a) (valN b)
  rwa [dec_valN ha,dec_valN hb] at this
theorem right_dig {s:ByteArray} (h:rightZ s=true):rightN (digZ s)=true:=by
  unfold rightZ at h
  simp only [Bool.and_eq_true] at h
  exact h.1
theorem wCompare_c (a b:ByteArray) (ha:a.size≤1048576) (hb:b.size≤1048576):PC Tryz.prog 142 [str a,str b] (int (cmpZ a b)):=by
  refine PC.body (c:=Tryz.f142.body.getD .skip) (fun _=>false) mixed Tryz.func142 rfl (by kernel_rfl) ?_
  unfold Tryz.f142
  simp only [Option.getD_some]
  simp only [go_sem]
  refine PC.use (parts_c a ha) ?_
  simp only [go_sem]
  refine PC.use (parts_c b hb) ?_
  simp only [go_sem]
  refine acond_i (fun h=>?_) (fun h=>?_)
  · simp only [go_sem]
    refine cI ?_
    unfold cmpZ
    rw [if_neg]
    rintro ⟨h1,h2⟩
    rw [h1,h2] at h
    cases h
  have hr:rightZ a=true∧rightZ b=true:=by simpa using h
  have ra:=right_dig hr.1
  have rb:=right_dig hr.2
  have hpos:∀ {s:ByteArray},rightZ s=true→minusZ s=true→0 < valN (digZ s):=fun {s} h1 h2=>by
    have h3:=h1
    unfold rightZ at h3
    simp only [h2,Bool.true_and,Bool.and_eq_true,Bool.not_eq_true',eqB_no] at h3
    rcases Nat.eq_zero_or_pos (valN (digZ s)) with h0 | h0
    · have:=dec_valN h3.1
      rw [h0] at this
      exact absurd this.symm h3.2
    · exact h0
  have hv:cmpZ a b=cmpI (valZ a) (valZ b):=if_pos hr
  rw [hv]
  unfold valZ
  simp only [go_sem]
  refine acond_i (fun h2=>?_) (fun h2=>?_)
  · have h2:minusZ a=true∧minusZ b=true:=by simpa using h2
    simp only [go_sem]
    refine PC.use (cmp_dec _ _ rb ra) ?_
    simp only [go_sem]
    refine cI ?_
    rw [if_pos h2.1,if_pos h2.2]
    unfold cmpI
    have c1:(((valN (digZ b):Nat):Int) < ((valN (digZ a):Nat):Int))↔(-((valN (digZ a):Nat):Int) < -((valN (digZ b):Nat):Int)):=by omega
    have c2:(((valN (digZ a):Nat):Int) < ((valN (digZ b):Nat):Int))↔(-((valN (digZ b):Nat):Int) < -((valN (digZ a):Nat):Int)):=by omega
    simp only [c1,c2]
  · simp only [go_sem]
    refine acond_i (fun h3=>?_) (fun h3=>?_)
    · have h4:minusZ b=false:=by rw [h3] at h2; simpa using h2
      have:=hpos hr.1 h3
      simp only [go_sem]
      refine cI ?_
      rw [if_pos h3,if_neg (by rw [h4]; simp),cmpI_lt (by omega)]
    · simp only [go_sem]
      refine acond_i (fun h4=>?_) (fun h4=>?_)
      · have:=hpos hr.2 h4
        simp only [go_sem]
        refine cI ?_
        rw [if_neg (by rw [h3]; simp),if_pos h4,cmpI_gt (by omega)]
      · simp only [go_sem]
        refine PC.use (cmp_dec _ _ ra rb) ?_
        simp only [go_sem]
        refine cI ?_
        rw [if_neg (by rw [h3]; simp),if_neg (by rw [h4]; simp)]
def numT2 (m:Bool) (n:Nat):List AV:=[boo m,str (dec n)]
theorem numT2_len (m:Bool) (n:Nat):(numT2 m n).length=2:=(rfl)
theorem numT2_0 (m:Bool) (n:Nat):(numT2 m n).getD 0 .any=boo m:=(rfl)
theorem numT2_1 (m:Bool) (n:Nat):(numT2 m n).getD 1 .any=str (dec n):=(rfl)
theorem numT2_all (m:Bool) (n:Nat):(numT2 m n).take 2=numT2 m n:=(rfl)
attribute [go_sem] numT2_len numT2_0 numT2_1 numT2_all
theorem addN_dec {m n:Nat} (hm:m < maxN) (hn:n < maxN):addN (dec m) (dec n)=szN (m + n):=by unfold addN; rw [if_pos (errN_dec hm hn),valN_dec,valN_dec]
theorem subN_dec {m n:Nat} (hm:m < maxN) (hn:n < maxN) (h:n≤m):subN (dec m) (dec n)=szN (m - n):=by unfold subN; rw [if_pos (errN_dec hm hn),valN_dec,valN_dec,if_neg (by omega)]
theorem dec_size {m:Nat} (hm:m < maxN):(dec m).size≤1048576:=by have:=(size_max m).2 hm; omega
theorem sum_c (a b:Bool) (m n:Nat) (hm:m < maxN) (hn:n < maxN):PC Tryz.prog 132 [.agg (numT2 a m),.agg (numT2 b n)] (.tup [str (szZ (sg a m + sg b n)).1,int (szZ (sg a m + sg b n)).2]):=by
  refine PC.body (c:=Tryz.f132.body.getD .skip) (fun t=>t == 2 || t == 3) mixed Tryz.func132 rfl (by kernel_rfl) ?_
  unfold Tryz.f132
  simp only [Option.getD_some]
  simp only [go_sem]
  refine anew_i fun i hi=>?_
  simp only [go_sem]
  refine anew_i fun j hj=>?_
  have R2:=updH_same noRows i (some ⟨183,2,[numT2 a m]⟩)
  have nij:i≠j:=ne_new R2 hj
  have R3:=updH_same (updH noRows i (some ⟨183,2,[numT2 a m]⟩)) j (some ⟨183,2,[numT2 b n]⟩)
  have R2':(updH (updH noRows i (some ⟨183,2,[numT2 a m]⟩)) j (some ⟨183,2,[numT2 b n]⟩)) i=some ⟨183,2,[numT2 a m]⟩:=by rw [updH_ne _ _ _ _ nij]; exact R2
  generalize updH (updH noRows i _) j _=H1 at *
  clear R2
  simp only [go_sem,R2',R3]
  refine acond_i (fun h=>?_) (fun h=>?_)
  · have hab:a=b:=by simpa using h
    subst hab
    simp only [go_sem,R2',R3]
    refine PC.use (nAdd_c (dec m) (dec n) (dec_size hm) (dec_size hn)) ?_
    rw [addN_dec hm hn]
    simp only [go_sem,R2',R3]
    refine PC.use (signed_c a (m + n)) ?_
    simp only [go_sem]
    have e:sg a (m + n)=sg a m + sg a n:=by unfold sg; split <;> omega
    rw [e]
    exact .refl _
  have hab:b=!a:=by cases a <;> cases b <;> simp_all
  subst hab
  simp only [go_sem,R2',R3]
  refine PC.use (wcompare_c m n) ?_
  simp only [go_sem,R2',R3]
  refine acond_join (fun ρ' H'=>∃ (a' b':Bool) (p q:Nat),p < maxN∧q < maxN∧q≤p∧sg a' (p - q)=sg a m + sg (!a) n∧ρ' 2=.op i 0 0∧ρ' 3=.op j 0 0∧H' i=some (⟨183,2,[numT2 a' p]⟩:Row)∧H' j=some (⟨183,2,[numT2 b' q]⟩:Row)) ?_ fun K hK=>acond_i (fun hb=>?_) (fun hb=>?_)
  rotate_left
  · have hlt : m < n := by
      rcases Nat.lt_or_ge m n with h | h
      · exact h
      · exfalso
        have hb:=of_decide_eq_true hb
        unfold cmpI at hb
        rw [if_neg (by omega)] at hb
        split at hb <;> omega
    simp only [go_sem,R2',R3]
    refine wputE_n R2' (by simp [numT2_len]) ?_
    generalize hP:updH H1 i _=HP
    have R2:HP i=some (⟨183,2,[numT2 (!a) n]⟩:Row):=by rw [← hP,updH_same]; rfl
    have R3':HP j=some (⟨183,2,[numT2 (!a) n]⟩:Row):=by rw [← hP,updH_ne _ _ _ _ (Ne.symm nij)]; exact R3
    clear hP
    simp only [go_sem,R2,R3']
    refine wputE_n R3' (by simp [numT2_len]) ?_
    generalize hP:updH HP j _=HQ
    have S3:HQ j=some (⟨183,2,[numT2 a m]⟩:Row):=by rw [← hP,updH_same]; rfl
    have S2:HQ i=some (⟨183,2,[numT2 (!a) n]⟩:Row):=by rw [← hP,updH_ne _ _ _ _ nij]; exact R2
    clear hP
    simp only [go_sem]
    refine hK _ _ ⟨!a,a,n,m,hn,hm,by omega,?_,by simp only [go_sem],by simp only [go_sem],S2,S3⟩
    unfold sg
    cases a <;> simp <;> omega
  · have hge : n ≤ m := by
      rcases Nat.lt_or_ge m n with h | h
      · exact absurd (by rw [cmpI_lt (by omega)]; decide) (of_decide_eq_false hb)
      · exact h
    simp only [go_sem]
    refine hK _ _ ⟨a,!a,m,n,hm,hn,hge,?_,by simp only [go_sem],by simp only [go_sem],R2',R3⟩
    unfold sg
    cases a <;> simp <;> omega
  clear R2' R3
  rintro ρ H ⟨a',b',p,q,hp,hq,hqp,hv,h2,h3,R2,R3⟩
  simp only [go_sem,h2,h3,R2,R3]
  refine PC.use (nSub_c (dec p) (dec q) (dec_size hp) (dec_size hq)) ?_
  rw [subN_dec hp hq hqp]
  simp only [go_sem,h2,h3,R2,R3]
  refine PC.use (signed_c a' (p - q)) ?_
  simp only [go_sem]
  rw [hv]
  exact .refl _
theorem errL_two (a b:ByteArray):errL [a,b]=errZ a b:=by
  unfold errL errZ badS
  simp only [List.any_cons,List.any_nil,Bool.or_false]
theorem encZ_zed (n:Int):encZ (zed n)=numT2 (decide (n < 0)) n.natAbs:=by
  unfold encZ numT2
  rw [minusZ_zed,digZ_zed]
theorem sg_zed (n:Int):sg (decide (n < 0)) n.natAbs=n:=by
  unfold sg
  by_cases h:n < 0
  · simp [h]; omega
  · simp [h]; omega
theorem zL_two {m n:Int} (h:errZ (zed m) (zed n)=0):zL [zed m,zed n]=[numT2 (decide (m < 0)) m.natAbs,numT2 (decide (n < 0)) n.natAbs]:=by
  unfold zL
  rw [errL_two,if_pos h]
  simp only [List.map_cons,List.map_nil,encZ_zed]
theorem wread2_c (a b:ByteArray) (ha:a.size≤1048576) (hb:b.size≤1048576):PC Tryz.prog 131 [.sl [[str a],[str b]]] (.tup [.sl (zL [a,b]),int (errZ a b)]):=by
  have:=wread_c [a,b] (by simp) (by simp [ha,hb])
  rwa [errL_two] at this
theorem wAdd_c (a b:ByteArray) (ha:a.size≤1048576) (hb:b.size≤1048576):PC Tryz.prog 130 [str a,str b] (.tup [str (addZ a b).1,int (addZ a b).2]):=by
  refine PC.body (c:=Tryz.f130.body.getD .skip) (fun _=>false) mixed Tryz.func130 rfl (by kernel_rfl) ?_
  unfold Tryz.f130
  simp only [Option.getD_some]
  simp only [go_sem]
  refine PC.use (wread2_c a b ha hb) ?_
  simp only [go_sem]
  refine acond_i (fun h=>?_) (fun h=>?_)
  · have h:errZ a b≠0:=by simpa using h
    simp only [go_sem]
    rw [show addZ a b=(emp,errZ a b) from if_neg h]
    exact .refl _
  have h:errZ a b=0:=by simpa using h
  have e:addZ a b=szZ (valZ a + valZ b):=if_pos h
  rw [e]
  obtain ⟨m,n,rfl,rfl,hm,hn⟩:=errZ_zero h
  rw [valZ_zed,valZ_zed,zL_two h]
  simp only [go_sem]
  refine adraw_q (by rfl) (by kernel_rfl) ?_
  simp only [go_sem,List.length_cons,List.length_nil]
  repeat (refine ⟨by first | decide | omega,?_⟩)
  refine ⟨_,(sum_c _ _ _ _ hm hn).q rfl,?_⟩
  simp only [go_sem]
  rw [sg_zed,sg_zed]
  exact .refl _
theorem wSub_c (a b:ByteArray) (ha:a.size≤1048576) (hb:b.size≤1048576):PC Tryz.prog 80 [str a,str b] (.tup [str (subZ a b).1,int (subZ a b).2]):=by
  refine PC.body (c:=Tryz.f80.body.getD .skip) (fun _=>false) mixed Tryz.func80 rfl (by kernel_rfl) ?_
  unfold Tryz.f80
  simp only [Option.getD_some]
  simp only [go_sem]
  refine PC.use (wread2_c a b ha hb) ?_
  simp only [go_sem]
  refine acond_i (fun h=>?_) (fun h=>?_)
  · have h:errZ a b≠0:=by simpa using h
    simp only [go_sem]
    rw [show subZ a b=(emp,errZ a b) from if_neg h]
    exact .refl _
  have h:errZ a b=0:=by simpa using h
  have e:subZ a b=szZ (valZ a - valZ b):=if_pos h
  rw [e]
  obtain ⟨m,n,rfl,rfl,hm,hn⟩:=errZ_zero h
  rw [valZ_zed,valZ_zed,zL_two h]
  simp only [go_sem]
  refine adraw_q (by rfl) (by kernel_rfl) ?_
  simp only [go_sem,List.length_cons,List.length_nil]
  repeat (refine ⟨by first | decide | omega,?_⟩)
  have hneg:sg (!decide (n < 0)) n.natAbs=-n:=by
    unfold sg
    by_cases h:n < 0
    · simp [h]; omega
    · simp [h]; omega
  refine ⟨_,(sum_c _ (!decide (n < 0)) _ _ hm hn).q rfl,?_⟩
  simp only [go_sem]
  rw [sg_zed,hneg,Int.sub_eq_add_neg]
  exact .refl _
theorem mulN_dec {m n:Nat} (hm:m < maxN) (hn:n < maxN):mulN (dec m) (dec n)=szN (m * n):=by unfold mulN; rw [if_pos (errN_dec hm hn),valN_dec,valN_dec]
theorem wMul_c (a b:ByteArray) (ha:a.size≤1048576) (hb:b.size≤1048576):PC Tryz.prog 164 [str a,str b] (.tup [str (mulZ a b).1,int (mulZ a b).2]):=by
  refine PC.body (c:=Tryz.f164.body.getD .skip) (fun _=>false) mixed Tryz.func164 rfl (by kernel_rfl) ?_
  unfold Tryz.f164
  simp only [Option.getD_some]
  simp only [go_sem]
  refine PC.use (wread2_c a b ha hb) ?_
  simp only [go_sem]
  refine acond_i (fun h=>?_) (fun h=>?_)
  · have h:errZ a b≠0:=by simpa using h
    simp only [go_sem]
    rw [show mulZ a b=(emp,errZ a b) from if_neg h]
    exact .refl _
  have h:errZ a b=0:=by simpa using h
  have e:mulZ a b=szZ (valZ a * valZ b):=if_pos h
  rw [e]
  obtain ⟨m,n,rfl,rfl,hm,hn⟩:=errZ_zero h
  rw [valZ_zed,valZ_zed,zL_two h]
  simp only [go_sem]
  refine adraw_q (by rfl) (by kernel_rfl) ?_
  simp only [go_sem,List.length_cons,List.length_nil]
  repeat (refine ⟨by first | decide | omega,?_⟩)
  refine ⟨_,(nMul_c (dec m.natAbs) (dec n.natAbs) (dec_size hm) (dec_size hn)).q rfl,?_⟩
  rw [mulN_dec hm hn]
  simp only [go_sem]
  refine adraw_q (by rfl) (by kernel_rfl) ?_
  simp only [go_sem,List.length_cons,List.length_nil]
  repeat (refine ⟨by first | decide | omega,?_⟩)
  refine ⟨_,(signed_c _ (m.natAbs * n.natAbs)).q rfl,?_⟩
  simp only [go_sem]
  have hs:sg (!(decide (m < 0) == decide (n < 0))) (m.natAbs * n.natAbs)=m * n:=by
    unfold sg
    rw [Int.natCast_mul]
    by_cases h1:m < 0 <;> by_cases h2:n < 0
    · simp only [h1,h2,decide_true,beq_self_eq_true,Bool.not_true,Bool.false_eq_true,if_false]
      rw [Int.ofNat_natAbs_of_nonpos (by omega),Int.ofNat_natAbs_of_nonpos (by omega),Int.neg_mul_neg]
    · simp only [h1,h2,decide_true,decide_false]
      rw [if_pos (show (!(true == false))=true from rfl),Int.ofNat_natAbs_of_nonpos (by omega),Int.natAbs_of_nonneg (by omega),Int.neg_mul,Int.neg_neg]
    · simp only [h1,h2,decide_true,decide_false]
      rw [if_pos (show (!(false == true))=true from rfl),Int.ofNat_natAbs_of_nonpos (a:=n) (by omega),Int.natAbs_of_nonneg (by omega),Int.mul_neg,Int.neg_neg]
    · simp only [h1,h2,decide_false,beq_self_eq_true,Bool.not_true,Bool.false_eq_true,if_false]
      rw [Int.natAbs_of_nonneg (by omega),Int.natAbs_of_nonneg (by omega)]
  rw [hs]
  exact .refl _
theorem adraw_join {P : Program} {C : CallP} {PC : FuncId → List AV → Heap → AV → Prop} {mt : Nat → Bool} {ops : Array Oper} {K : Env → Heap → Prop} {m : Nat} {ρ : Env} {H : Heap} (J : Env → Heap → Prop) (h1 : ∀ ρ H, J ρ H → K ρ H)
    (h2:∀ K':Env→Heap→Prop,(∀ ρ H,J ρ H→K' ρ H)→adraw P C PC mt ops K' m ρ H):adraw P C PC mt ops K m ρ H:=h2 K h1
abbrev nRow (A:List AV):Row:=⟨183,2,[A]⟩
abbrev zN:Row:=nRow [.v (.bool false),.v (.string ByteArray.empty)]
theorem nRow_set {A:List AV} (h:A.length=2):(⟨183,2,[List.take 2 A ++ List.drop (List.take 2 A).length [AV.v (.bool false),AV.v (.string ByteArray.empty)]]⟩:Row)=nRow A:=by
  rw [List.take_of_length_le (by omega),h]
  simp
theorem fdiv_differ {m n : Int} (hn : n ≠ 0) (hs : decide (m < 0) ≠ decide (n < 0)) (hr : m.natAbs % n.natAbs ≠ 0) :
    m.fdiv n=-((m.natAbs / n.natAbs + 1:Nat):Int)∧m.fmod n=sg (decide (n < 0)) (n.natAbs - m.natAbs % n.natAbs):=by
  have e:=Nat.mod_add_div m.natAbs n.natAbs
  have hlt:=Nat.mod_lt m.natAbs (show 0 < n.natAbs by omega)
  generalize m.natAbs / n.natAbs=q at *
  generalize m.natAbs % n.natAbs=r at *
  have e':(r:Int) + (n.natAbs:Int) * (q:Int)=(m.natAbs:Int):=by rw [← Int.natCast_mul,← Int.natCast_add,e]
  unfold sg
  rcases Int.lt_or_gt_of_ne hn with h | h
  · have hm:¬ m < 0:=fun h2=>hs (by simp [h,h2])
    rw [Int.ofNat_natAbs_of_nonpos (a:=n) (by omega),Int.natAbs_of_nonneg (a:=m) (by omega)] at e'
    refine (Int.fdiv_fmod_unique' h).2 ⟨?_,?_,?_⟩
    · rw [if_pos (by simpa using h)]
      have:(n * -((q + 1:Nat):Int))=-n * q - n:=by grind
      rw [this]; omega
    · rw [if_pos (by simpa using h)]; omega
    · rw [if_pos (by simpa using h)]; omega
  · have hm : m < 0 := by
      rcases Int.lt_or_le m 0 with h2 | h2
      · exact h2
      · exact absurd (by simp; omega) hs
    rw [Int.natAbs_of_nonneg (a:=n) (by omega),Int.ofNat_natAbs_of_nonpos (a:=m) (by omega)] at e'
    refine (Int.fdiv_fmod_unique h).2 ⟨?_,?_,?_⟩
    · rw [if_neg (by simp; omega)]
      have:(n * -((q + 1:Nat):Int))=-(n * q) - n:=by grind
      rw [this]; omega
    · rw [if_neg (by simp; omega)]; omega
    · rw [if_neg (by simp; omega)]; omega
theorem fdiv_same {m n : Int} (hn : n ≠ 0) (h0 : decide (m < 0) = decide (n < 0) ∨ m.natAbs % n.natAbs = 0) :
    m.fdiv n=sg (!(decide (m < 0) == decide (n < 0))) (m.natAbs / n.natAbs)∧m.fmod n=sg (decide (n < 0)) (m.natAbs % n.natAbs):=by
  have e:=Nat.mod_add_div m.natAbs n.natAbs
  have hlt:=Nat.mod_lt m.natAbs (show 0 < n.natAbs by omega)
  generalize m.natAbs / n.natAbs=q at *
  generalize m.natAbs % n.natAbs=r at *
  have e':(r:Int) + (n.natAbs:Int) * (q:Int)=(m.natAbs:Int):=by rw [← Int.natCast_mul,← Int.natCast_add,e]
  unfold sg
  rcases Int.lt_or_gt_of_ne hn with h | h
  · rw [Int.ofNat_natAbs_of_nonpos (a:=n) (by omega)] at e'
    refine (Int.fdiv_fmod_unique' h).2 ?_
    by_cases hm:m < 0
    · rw [Int.ofNat_natAbs_of_nonpos (a:=m) (by omega)] at e'
      simp only [h,hm,decide_true,beq_self_eq_true,Bool.not_true,Bool.false_eq_true,if_false,if_true]
      have:n * (q:Int)=-(-n * q):=by grind
      exact ⟨by rw [this]; omega,by omega,by omega⟩
    · rw [Int.natAbs_of_nonneg (a:=m) (by omega)] at e'
      have hr:r=0:=by
        rcases h0 with h0 | h0
        · simp [h,hm] at h0
        · exact h0
      simp only [h,hm,decide_true,decide_false,show (!(false == true))=true from rfl,if_true]
      have:n * -(q:Int)=-n * q:=by grind
      exact ⟨by rw [this]; omega,by omega,by omega⟩
  · rw [Int.natAbs_of_nonneg (a:=n) (by omega)] at e'
    refine (Int.fdiv_fmod_unique h).2 ?_
    have hn0:¬ n < 0:=by omega
    by_cases hm:m < 0
    · rw [Int.ofNat_natAbs_of_nonpos (a:=m) (by omega)] at e'
      have hr:r=0:=by
        rcases h0 with h0 | h0
        · simp [hn0,hm] at h0
        · exact h0
      simp only [hn0,hm,decide_true,decide_false,show (!(true == false))=true from rfl,if_true,Bool.false_eq_true,if_false]
      have:n * -(q:Int)=-(n * q):=by grind
      exact ⟨by rw [this]; omega,by omega,by omega⟩
    · rw [Int.natAbs_of_nonneg (a:=m) (by omega)] at e'
      simp only [hn0,hm,decide_false,beq_self_eq_true,Bool.not_true,Bool.false_eq_true,if_false]
      exact ⟨by omega,by omega,by omega⟩
theorem divN_dec {m n:Nat} (hm:m < maxN) (hn:n < maxN) (h:n≠0):divN (dec m) (dec n)=(dec (m / n),dec (m % n),0):=by unfold divN; rw [if_pos (errN_dec hm hn),valN_dec,valN_dec,if_neg h]
theorem wDiv_c (a b:ByteArray) (ha:a.size≤1048576) (hb:b.size≤1048576):PC Tryz.prog 141 [str a,str b] (.tup [str (divZ a b).1,str (divZ a b).2.1,int (divZ a b).2.2]):=by
  refine PC.body (c:=Tryz.f141.body.getD .skip) (fun _=>false) mixed Tryz.func141 rfl (by kernel_rfl) ?_
  unfold Tryz.f141
  simp only [Option.getD_some]
  simp only [go_sem]
  refine PC.use (wread2_c a b ha hb) ?_
  simp only [go_sem]
  refine acond_i (fun h=>?_) (fun h=>?_)
  · have h:errZ a b≠0:=by simpa using h
    simp only [go_sem]
    rw [show divZ a b=(emp,emp,errZ a b) from if_neg h]
    exact .refl _
  have h:errZ a b=0:=by simpa using h
  obtain ⟨m,n,rfl,rfl,hm,hn⟩:=errZ_zero h
  have e:divZ (zed m) (zed n)=if n=0 then (emp,emp,10) else (zed (m.fdiv n),zed (m.fmod n),0):=by unfold divZ; rw [if_pos h,valZ_zed,valZ_zed]
  rw [e,zL_two h]
  simp only [go_sem]
  obtain ⟨A,hA⟩:∃ A,numT2 (decide (m < 0)) m.natAbs=A:=⟨_,rfl⟩
  obtain ⟨B,hB⟩:∃ B,numT2 (decide (n < 0)) n.natAbs=B:=⟨_,rfl⟩
  have hAl:A.length=2:=by rw [← hA]; rfl
  have hBl:B.length=2:=by rw [← hB]; rfl
  refine adraw_join (fun ρ' H'=>∃ i j,ρ' 9=.op i 0 0∧ρ' 10=.op j 0 0∧H' i=some (nRow A)∧H' j=some (nRow B)) ?_ fun K hK=>?_
  rotate_left
  · refine adraw_t [] (.q 0 (.q 1 (.q 2 (.q 3 (.q 4 (.q 5 (.a2 6 (.a1 7 (.a1 8 (.a1 9 .nil))) 7 (.a1 6 (.a1 8 (.a1 9 .nil)))))))))) (by simp) (by kernel_rfl) fun Hp Hr _ hq _ _=>?_
    simp only [go_sem,List.length_cons,List.length_nil,hA,hB]
    repeat (refine ⟨by first | decide | omega,?_⟩)
    refine amixt_2i ?_ ?_
    · simp only [go_sem]
      refine anew_i fun i hi=>?_
      simp only [go_sem]
      refine anew_i fun j hj=>?_
      have R:=updH_same Hr i (some (zN))
      have nij:=ne_new R hj
      have Ri:=keep_new (r':=zN) R hj
      have Rj:=updH_same (updH Hr i (some (zN))) j (some (zN))
      simp only [go_sem]
      refine wputE_n (r:=zN) Ri (by simp [hAl]) ?_
      simp only [go_sem]
      refine wputE_n (r:=zN) (by rw [updH_ne _ _ _ _ nij.symm]; exact Rj) (by simp [hBl]) ?_
      simp only [go_sem]
      refine pinEnd_i fun _ Hm _ hm=>hK _ _ ⟨i,j,by simp only [go_sem],by simp only [go_sem],?_,?_⟩
      · rw [hm i (by simp),updH_ne _ _ _ _ nij,updH_same]; exact congrArg some (nRow_set hAl)
      · rw [hm j (by simp),updH_same]; exact congrArg some (nRow_set hBl)
    · simp only [go_sem]
      refine anew_i fun j hj=>?_
      simp only [go_sem]
      refine anew_i fun i hi=>?_
      have R:=updH_same Hr j (some (zN))
      have nij:=(ne_new R hi).symm
      have Rj:=keep_new (r':=zN) R hi
      have Ri:=updH_same (updH Hr j (some (zN))) i (some (zN))
      simp only [go_sem]
      refine wputE_n (r:=zN) Ri (by simp [hAl]) ?_
      simp only [go_sem]
      refine wputE_n (r:=zN) (by rw [updH_ne _ _ _ _ nij.symm]; exact Rj) (by simp [hBl]) ?_
      simp only [go_sem]
      refine pinEnd_i fun _ Hm _ hm=>hK _ _ ⟨i,j,by simp only [go_sem],by simp only [go_sem],?_,?_⟩
      · rw [hm i (by simp),updH_ne _ _ _ _ nij,updH_same]; exact congrArg some (nRow_set hAl)
      · rw [hm j (by simp),updH_same]; exact congrArg some (nRow_set hBl)
  rintro ρ H ⟨i,j,h9,h10,Ri,Rj⟩
  subst hA hB
  simp only [go_sem,h9,h10,Ri,Rj,eq_zero]
  refine acond_i (fun hb0=>?_) (fun hb0=>?_)
  · have h0 : n = 0 := by
      have:=dec_eq.1 (eqB_iff.1 hb0)
      omega
    simp only [go_sem]
    rw [if_pos h0]
    exact .refl _
  have h0:n≠0:=fun e=>by
    subst e
    exact eqB_no.1 hb0 rfl
  have hn0:n.natAbs≠0:=by omega
  rw [if_neg h0]
  simp only [go_sem,h9,h10,Ri,Rj]
  refine PC.use (nDiv_c (dec m.natAbs) (dec n.natAbs) (dec_size hm) (dec_size hn)) ?_
  rw [divN_dec hm hn hn0]
  simp only [go_sem,h9,h10,Ri,Rj]
  refine acond_i (fun hb=>by cases hb) (fun _=>?_)
  simp only [go_sem,h9,h10,Ri,Rj,eq_zero]
  have hqr:=Nat.mod_add_div m.natAbs n.natAbs
  have hrlt:=Nat.mod_lt m.natAbs (show 0 < n.natAbs by omega)
  refine acond_join (fun ρ' H'=>∃ q r:Nat,ρ' 9=.op i 0 0∧ρ' 10=.op j 0 0∧H' i=some (nRow (numT2 (decide (m < 0)) m.natAbs))∧H' j=some (nRow (numT2 (decide (n < 0)) n.natAbs))∧ρ' 11=str (dec q)∧ρ' 12=str (dec r)∧q < maxN∧r < maxN∧sg (!(decide (m < 0) == decide (n < 0))) q=m.fdiv n∧sg (decide (n < 0)) r=m.fmod n) ?_ fun K hK=>acond_i (fun hb=>?_) (fun hb=>?_)
  rotate_left
  · have hb : decide (m < 0) ≠ decide (n < 0) ∧ m.natAbs % n.natAbs ≠ 0 := by
      simp only [Bool.and_eq_true,Bool.not_eq_true',beq_eq_false_iff_ne,ne_eq,eqB_no] at hb
      exact ⟨hb.1,fun e=>hb.2 (by rw [e])⟩
    obtain ⟨f1,f2⟩:=fdiv_differ h0 hb.1 hb.2
    have hq1:m.natAbs / n.natAbs + 1 < maxN:=by
      have h2:2≤n.natAbs:=by omega
      have h3:2 * (m.natAbs / n.natAbs)≤n.natAbs * (m.natAbs / n.natAbs):=Nat.mul_le_mul_right _ h2
      omega
    have hq2:m.natAbs / n.natAbs < maxN:=by omega
    have h1m:(1:Nat) < maxN:=Nat.lt_of_le_of_lt (Nat.le_add_left 1 _) hq1
    have hrm:m.natAbs % n.natAbs < maxN:=by omega
    generalize hQ:m.natAbs / n.natAbs=q at *
    generalize hR:m.natAbs % n.natAbs=r at *
    simp only [go_sem,h9,h10]
    rw [one_lit]
    refine PC.use (nAdd_c (dec q) (dec 1) (dec_size hq2) (dec_size h1m)) ?_
    rw [addN_dec hq2 h1m,szN_ok hq1]
    simp only [go_sem,h9,h10,Ri,Rj]
    refine acond_i (fun hb=>by cases hb) (fun _=>?_)
    simp only [go_sem,h9,h10,Ri,Rj]
    refine PC.use (nSub_c (dec n.natAbs) (dec r) (dec_size hn) (dec_size hrm)) ?_
    rw [subN_dec hn hrm (by omega),szN_ok (show n.natAbs - r < maxN by omega)]
    simp only [go_sem,h9,h10,Ri,Rj]
    refine acond_i (fun hb=>by cases hb) (fun _=>?_)
    simp only [go_sem,h9,h10]
    refine hK _ _ ⟨q + 1,n.natAbs - r,by simp only [go_sem,h9],by simp only [go_sem,h10],Ri,Rj,by simp only [go_sem],by simp only [go_sem],hq1,by omega,?_,f2.symm⟩
    rw [f1]
    unfold sg
    rw [if_pos (by simpa using hb.1)]
  · have hb : decide (m < 0) = decide (n < 0) ∨ m.natAbs % n.natAbs = 0 := by
      by_cases h1:decide (m < 0)=decide (n < 0)
      · exact .inl h1
      · refine .inr ?_
        have h2:(!(decide (m < 0) == decide (n < 0)))=true:=by simpa using h1
        rw [h2,Bool.true_and,Bool.not_eq_false'] at hb
        exact dec_eq.1 (eqB_iff.1 hb)
    obtain ⟨f1,f2⟩:=fdiv_same h0 hb
    have hq2:m.natAbs / n.natAbs < maxN:=Nat.lt_of_le_of_lt (Nat.div_le_self _ _) hm
    simp only [go_sem,h9,h10]
    exact hK _ _ ⟨_,_,by simp only [go_sem,h9],by simp only [go_sem,h10],Ri,Rj,by simp only [go_sem],by simp only [go_sem],hq2,by omega,f1.symm,f2.symm⟩
  clear h9 h10 Ri Rj
  rintro ρ H ⟨q,r,h9,h10,Ri,Rj,h11,h12,hq,hr,f1,f2⟩
  simp only [go_sem]
  refine adraw_q (by rfl) (by kernel_rfl) ?_
  simp only [go_sem,h9,h10,h11,h12,Ri,Rj]
  refine ⟨_,(text_c _ q (dec_size hq)).q rfl,?_⟩
  simp only [go_sem,h9,h10,h11,h12,Ri,Rj]
  refine ⟨_,(text_c _ r (dec_size hr)).q rfl,?_⟩
  simp only [go_sem,f1,f2]
  exact .refl _
end Go.Proofs.YtpddaldlebngaaaGreatDoor.Nu
end

section
set_option linter.unusedSimpArgs false
set_option linter.unusedVariables false
namespace Go.Proofs.YtpddaldlebngaaaGreatDoor.Nu
open Go.Aw Go.Aw.D Go.Proofs Ty Go.Nu
set_option maxRecDepth 100000
theorem abin_slss {P:Program} {G:_} {t:TypeId} {a b:ByteArray} {k:AV→Prop}:abin P G .lss t (.v (.string a)) (.v (.string b)) k=k (.v (.bool (Op.bytesLess a.toList b.toList))):=(rfl)
attribute [go_sem ↓] abin_slss
attribute [go_sem] abin_slss
theorem tl_bl2 (s:ByteArray):s.toList=bl s:=ByteArray.toList_eq s
theorem less_cmp:∀ {l r:List UInt8},l.length=r.length→Op.bytesLess l r=decide (Lib.compareBytes l r=-1)
  | [],[],_=>rfl
  | [],_ :: _,h=>by simp at h
  | _ :: _,[],h=>by simp at h
  | a :: l,b :: r,h=>by
    simp only [List.length_cons,Nat.add_right_cancel_iff] at h
    have ih:=less_cmp h
    rw [Op.bytesLess,Lib.compareBytes,ih]
    by_cases h1:a < b
    · simp [h1]
    · by_cases h2:b < a
      · have : (a == b) = false := by
          rw [beq_eq_false_iff_ne]
          rintro rfl
          exact absurd h2 h1
        simp [h1,h2,this]
      · have : a = b := by
          rw [UInt8.lt_iff_toNat_lt] at h1 h2
          exact UInt8.toNat_inj.1 (by omega)
        subst this
        simp
theorem less_dec {m n:Nat} (h:(dec m).size=(dec n).size):Op.bytesLess (bl (dec m)) (bl (dec n))=decide (m < n):=by
  have hm:=size_dec m
  have hn:=size_dec n
  rw [bl_dec,bl_dec,less_cmp (by omega),cmp_bytes (dec_all m) (dec_all n) (by omega),valL_dec,valL_dec,decide_eq_decide]
  unfold cmpI
  split
  · simp; omega
  · split <;> simp <;> omega
theorem right2_c (s:ByteArray) (h:s.size≤4611686018427387904):PC Tryz.prog 106 [str s] (boo (rightN s)):=by
  have hs:=bl_size s
  refine PC.body (c:=Tryz.f106.body.getD .skip) (fun _=>false) mixed Tryz.func106 rfl (by kernel_rfl) ?_
  unfold Tryz.f106
  simp only [Option.getD_some]
  simp only [go_sem]
  refine ⟨fun h=>⟨by omega,by have:=of_decide_eq_true h.2; omega⟩,?_⟩
  have hc:((s.size:Int) == 0 || decide ((s.size:Int) > 1) && ((bl s).getD 0 0).toNat == (48:Int))=!(bl s != [] && ((bl s).length == 1 || (bl s).getD 0 0 != 48)):=by
    rw [← hs]
    cases bl s with
    | nil=>rfl
    | cons c r=>
      have e1:(((c.toNat:Nat):Int) == 48)=(c == 48):=by
        rw [Bool.eq_iff_iff,beq_iff_eq,beq_iff_eq,← UInt8.toNat_inj]
        exact Int.ofNat_inj (n:=48)
      simp only [List.getD_cons_zero,e1]
      cases r with
      | nil=>simp
      | cons c2 r=>
        have h0:(((c :: c2 :: r).length:Int) == 0)=false:=by simp; omega
        have h1:decide (((c :: c2 :: r).length:Int) > 1)=true:=by simp; omega
        rw [h0,h1,show ((c :: c2 :: r) != [])=true from rfl,show ((c :: c2 :: r).length == 1)=false from rfl]
        cases h:(c == 48) <;> simp [bne,h]
  rw [hc]
  refine acond_i (fun hb=>?_) (fun hb=>?_)
  · simp only [go_sem]
    refine cB ?_
    unfold rightN rightL
    rw [Bool.not_eq_true'] at hb
    rw [hb]; rfl
  rw [Bool.not_eq_false'] at hb
  simp only [go_sem]
  refine ⟨fun ρ _=>∃ k:Nat,k≤(bl s).length∧ρ 0=str s∧ρ 3=int k∧∀ c∈(bl s).take k,isD c=true,fun ρ _=>(bl s).length - natOf (ρ 3),⟨0,Nat.zero_le _,rfl,rfl,by simp⟩,?_⟩
  rintro ρ H ⟨k,hk,h0,h3,hz⟩
  simp only [go_sem,h0,h3]
  refine acond_i (fun hlt=>?_) (fun hge=>?_)
  · have hlt:k < (bl s).length:=by have:=ltB hlt; omega
    obtain ⟨c,hc⟩:=getIn hlt
    have hi:=getD_at hc
    simp only [go_sem,h0,h3,hi,isD_int]
    refine ⟨⟨by omega,by omega⟩,fun _=>⟨by omega,by omega⟩,acond_i (fun hb2=>?_) (fun hb2=>?_)⟩
    · simp only [go_sem]
      refine cB ?_
      unfold rightN rightL
      rw [all_no hc (by simpa using hb2),Bool.and_false]
    · simp only [go_sem,h0,h3,wrapS (show k≤4611686018427387904 by omega)]
      exact ⟨⟨k + 1,hlt,rfl,take_all' hc (by simpa using hb2) hz⟩,by simp only [natOf_int]; omega⟩
  · have hge:k=(bl s).length:=by rw [← hs] at hge; exact geB hk hge
    subst hge
    rw [List.take_length] at hz
    simp only [go_sem]
    refine cB ?_
    unfold rightN rightL
    rw [hb,all_yes hz]; rfl
def cmpN (a b:ByteArray):Int:=if (rightN a && rightN b)=true then cmpI (valN a) (valN b) else 0
theorem compare2_c (a b:ByteArray) (ha:a.size≤1048576) (hb:b.size≤1048576):PC Tryz.prog 192 [str a,str b] (int (cmpN a b)):=by
  refine PC.body (c:=Tryz.f192.body.getD .skip) (fun _=>false) mixed Tryz.func192 rfl (by kernel_rfl) ?_
  unfold Tryz.f192
  simp only [Option.getD_some]
  simp only [go_sem]
  refine PC.use (right2_c a (by omega)) ?_
  simp only [go_sem]
  refine ⟨_,fun _=>(right2_c b (by omega)).q rfl,?_⟩
  simp only [go_sem]
  refine acond_i (fun hc=>?_) (fun hc=>?_)
  · simp only [go_sem]
    refine cI ?_
    unfold cmpN
    split
    · rename_i hr
      simp only [Bool.and_eq_true] at hr
      rw [hr.1,hr.2] at hc
      have:a=b:=eqB_iff.1 (by simpa [eqB] using hc)
      rw [this,cmpI_eq rfl]
    · rfl
  have hc:rightN a=true∧rightN b=true∧eqB a b=false:=by
    simp only [Bool.or_eq_false_iff,Bool.not_eq_false'] at hc
    exact ⟨hc.1.1,hc.1.2,hc.2⟩
  obtain ⟨h1,h2,h3⟩:=hc
  rw [show cmpN a b=cmpI (valN a) (valN b) from if_pos (by rw [h1,h2]; rfl)]
  rw [← dec_valN h1,← dec_valN h2,eqB_no] at *
  generalize valN a=m at *
  generalize valN b=n at *
  have hmn:m≠n:=fun e=>h3 (by rw [e])
  have hm:=size_dec m
  have hn:=size_dec n
  have hmono:∀ {p q:Nat},(Lib.decDigits p).length < (Lib.decDigits q).length→p < q:=fun {p q} h=>by
    have h1:=(dec_len_le (n:=p) (k:=(Lib.decDigits p).length) (dec_len_pos p)).1 (Nat.le_refl _)
    rcases Nat.lt_or_ge p q with h2 | h2
    · exact h2
    · have:=(dec_len_le (n:=q) (k:=(Lib.decDigits p).length) (dec_len_pos p)).2 (by omega)
      omega
  simp only [go_sem,tl_bl2]
  have hk:(decide (((dec m).size:Int) < (dec n).size) || ((dec m).size:Int) == (dec n).size && Op.bytesLess (bl (dec m)) (bl (dec n)))=decide (m < n):=by
    by_cases h1:(dec m).size=(dec n).size
    · rw [less_dec h1,h1]
      simp
    · rcases Nat.lt_or_ge (dec m).size (dec n).size with h2 | h2
      · have:=hmono (p:=m) (q:=n) (by omega)
        simp [this]
        omega
      · have:=hmono (p:=n) (q:=m) (by omega)
        have h3:¬ m < n:=by omega
        have h4:(((dec m).size:Int) == (dec n).size)=false:=by simp; omega
        rw [h4]
        simp [h3]
        omega
  rw [hk]
  refine acond_i (fun hb=>?_) (fun hb=>?_)
  · have:=of_decide_eq_true hb
    simp only [go_sem]
    exact cI (by rw [valN_dec,valN_dec,cmpI_lt (by omega)])
  · have:=of_decide_eq_false hb
    simp only [go_sem]
    exact cI (by rw [valN_dec,valN_dec,cmpI_gt (by omega)])
theorem wrong2_c (a b:ByteArray) (ha:a.size≤1048576) (hb:b.size≤1048576):PC Tryz.prog 151 [str a,str b] (int (errN a b)):=by
  refine PC.body (c:=Tryz.f151.body.getD .skip) (fun _=>false) mixed Tryz.func151 rfl (by kernel_rfl) ?_
  unfold Tryz.f151
  simp only [Option.getD_some]
  simp only [go_sem]
  refine PC.use (right2_c a (by omega)) ?_
  simp only [go_sem]
  refine ⟨_,fun _=>(right2_c b (by omega)).q rfl,?_⟩
  simp only [go_sem]
  unfold errN
  refine acond_i (fun hc=>?_) (fun hc=>?_)
  · simp only [go_sem]
    exact cI (by rw [if_pos hc])
  · simp only [go_sem]
    have e1:decide ((a.size:Int) > 4096)=decide (a.size > 4096):=by rw [decide_eq_decide]; omega
    have e2:decide ((b.size:Int) > 4096)=decide (b.size > 4096):=by rw [decide_eq_decide]; omega
    rw [if_neg (by rw [hc]; simp),e1,e2]
    refine acond_i (fun hd=>?_) (fun hd=>?_)
    · simp only [go_sem]
      exact cI (by rw [if_pos hd])
    · simp only [go_sem]
      exact cI (by rw [if_neg (by rw [hd]; simp)])
theorem letter_c (d:Nat) (hd:d < 10):PC Tryz.prog 194 [int d] (str (dec d)):=by
  refine PC.body (c:=Tryz.f194.body.getD .skip) (fun _=>false) mixed Tryz.func194 rfl (by kernel_rfl) ?_
  unfold Tryz.f194
  simp only [Option.getD_some]
  simp only [go_sem]
  have e1:IntKind.i64.wrap ((d:Int) + 1)=((d + 1:Nat):Int):=wrapS (by omega)
  rw [e1]
  refine ⟨⟨by omega,by omega,by show ((d + 1:Nat):Int)≤10; omega⟩,?_⟩
  refine cS (bl_ext ?_)
  rw [bl_extract,bl_dec,Lib.decDigits_one hd]
  have key:∀ e:Fin 10,(List.take (e.val + 1) (bl ⟨#[48,49,50,51,52,53,54,55,56,57]⟩)).drop e.val=[UInt8.ofNat (48 + e.val)]:=by decide
  exact key ⟨d,hd⟩
theorem dl_at {l:List UInt8} {i:Nat} (h:i < l.length):(dl l).getD i 0=(l.getD (l.length - 1 - i) 0).toNat - 48:=by
  have h2:l.length - 1 - i < l.length:=by omega
  simp only [dl,List.getD,List.getElem?_reverse (show i < (l.map fun c=>c.toNat - 48).length by simpa using h),List.length_map,List.getElem?_map,List.getElem?_eq_getElem h2,Option.map_some,Option.getD_some]
theorem digit2_c (s:ByteArray) (hs:(bl s).all isD=true) (i:Nat) (h:s.size≤1048576) (hi:i≤1048576):PC Tryz.prog 224 [str s,int i] (int ((dl (bl s)).getD i 0:Nat)):=by
  have hsz:=bl_size s
  refine PC.body (c:=Tryz.f224.body.getD .skip) (fun _=>false) mixed Tryz.func224 rfl (by kernel_rfl) ?_
  unfold Tryz.f224
  simp only [Option.getD_some]
  simp only [go_sem]
  refine acond_i (fun hc=>?_) (fun hc=>?_)
  · simp only [go_sem]
    refine cI ?_
    have:=of_decide_eq_true hc
    have h2:(dl (bl s)).getD i 0=0:=by
      simp only [List.getD,List.getElem?_eq_none (show (dl (bl s)).length≤i by rw [dl_len]; omega),Option.getD_none]
    rw [h2]; rfl
  have hc:i < s.size:=by have:=of_decide_eq_false hc; omega
  have e1:IntKind.i64.wrap (IntKind.i64.wrap ((s.size:Int) - 1) - (i:Int))=((s.size - 1 - i:Nat):Int):=by
    rw [show IntKind.i64.wrap ((s.size:Int) - 1)=(s.size:Int) - 1 from wrap_in (by omega),wrap_in (by omega)]; omega
  obtain ⟨c,hcc⟩:=getIn (l:=bl s) (k:=s.size - 1 - i) (by omega)
  have hcd:=isD_iff.1 (List.all_eq_true.1 hs c (List.mem_of_getElem? hcc))
  simp only [go_sem,e1,Int.toNat_natCast,getD_at hcc,u8w hcd.1 (by omega)]
  refine ⟨by omega,?_⟩
  refine cI ?_
  rw [dl_at (by omega),hsz,getD_at hcc,wrap_in (by omega)]
theorem trim2_c (s:ByteArray) (h:s.size≤1048576) (h0:bl s≠[]) (hd:(bl s).all isD=true):PC Tryz.prog 191 [str s] (str (dec (valN s))):=by
  refine PC.body (c:=Tryz.f191.body.getD .skip) (fun _=>false) mixed Tryz.func191 rfl (by kernel_rfl) ?_
  unfold Tryz.f191
  simp only [Option.getD_some]
  simp only [go_sem]
  refine ⟨fun ρ _=>∃ t:ByteArray,ρ 0=str t∧bl t≠[]∧(bl t).all isD=true∧valN t=valN s∧t.size≤1048576,fun ρ _=>match ρ 0 with | .v (.string t)=>t.size | _=>0,⟨s,rfl,h0,hd,rfl,h⟩,?_⟩
  rintro ρ H ⟨t,e0,ht0,htd,htv,hts⟩
  simp only [go_sem,e0]
  have hts2:=bl_size t
  refine ⟨fun h=>⟨by omega,by have:=of_decide_eq_true h; omega⟩,acond_i (fun hb=>?_) (fun hb=>?_)⟩
  · have hb : t.size > 1 ∧ ((bl t).getD 0 0).toNat = 48 := by
      simp only [Bool.and_eq_true,decide_eq_true_eq,beq_iff_eq] at hb
      omega
    simp only [go_sem,e0]
    have e1:bl (t.extract 1 t.size)=(bl t).drop 1:=by rw [bl_extract,← hts2,List.take_length]
    have e2:(t.extract 1 t.size).size=t.size - 1:=by rw [← bl_size,e1,List.length_drop,hts2]
    refine ⟨⟨by omega,by omega⟩,?_⟩
    refine ⟨⟨t.extract 1 t.size,rfl,?_,?_,?_,by omega⟩,by show (t.extract 1 t.size).size < t.size; omega⟩
    · intro e
      have:=congrArg List.length e
      rw [bl_size,e2] at this
      simp at this
      omega
    · rw [e1,List.all_eq_true]
      intro c hc
      exact List.all_eq_true.1 htd c (List.mem_of_mem_drop hc)
    · rw [← htv]
      unfold valN
      rw [e1]
      cases hbt:bl t with
      | nil=>exact absurd hbt ht0
      | cons c r=>
        rw [hbt] at hb
        have:=valL_append [c] r
        rw [List.drop_one,List.tail_cons,show c :: r=[c] ++ r from rfl,this]
        have h48:c.toNat=48:=by simpa using hb.2
        simp [valL,h48]
  · simp only [go_sem,e0]
    refine cS ?_
    have hR:rightN t=true:=by
      unfold rightN rightL
      rw [htd,Bool.and_true]
      have:(bl t != [])=true:=by simpa using ht0
      rw [this,Bool.true_and,Bool.or_eq_true,beq_iff_eq,bne_iff_ne]
      by_cases h1:t.size > 1
      · refine .inr fun e=>?_
        rw [e] at hb
        simp [h1] at hb
        omega
      · have:=List.length_pos_iff.2 ht0
        exact .inl (by omega)
    rw [← htv,dec_valN hR]
end Go.Proofs.YtpddaldlebngaaaGreatDoor.Nu
end

section
set_option linter.unusedSimpArgs false
set_option linter.unusedVariables false
namespace Go.Nu
open Go Go.Lib
theorem zed_size {m:Int} (hm:m.natAbs < maxN):(zed m).size≤4097:=by
  have:=(digZ_size m).2 hm
  unfold digZ at this
  split at this
  · rw [← bl_size,bl_mk,List.length_drop] at this
    rw [← bl_size]; omega
  · omega
theorem ratS_size {x:Rat} (h:SmallR x):(ratS x).size≤8194:=by
  have h1:=zed_size h.1
  have h2:=(size_max x.den).2 h.2
  unfold ratS
  split
  · omega
  · rw [ByteArray.size_append,ByteArray.size_append]
    have:slB.size=1:=rfl
    omega
theorem right_size' {s:ByteArray} (h:rightR s=true):s.size≤8194:=by
  obtain ⟨x,rfl,hs,_⟩:=right_parts h
  exact ratS_size hs
theorem addR_small {a b:ByteArray} (h:(addR a b).2=0):rightR (addR a b).1=true:=by
  unfold addR at h ⊢
  split at h
  · rename_i hr
    rw [if_pos hr]
    obtain ⟨e,hs⟩:=sumR_small h
    rw [e]; exact rightR_ratS hs
  · cases h
theorem mulR_small {a b:ByteArray} (h:(mulR a b).2=0):rightR (mulR a b).1=true:=by
  unfold mulR at h ⊢
  split at h
  · rename_i hr
    rw [if_pos hr]
    obtain ⟨e,hs⟩:=prodR_small h
    rw [e]; exact rightR_ratS hs
  · cases h
def timesF:List (Int × ByteArray)→ByteArray→ByteArray × Int
  | [],t=>(t,0)
  | p :: l, t => if (mulR (zed p.1) p.2).2 ≠ 0 then (emp, (mulR (zed p.1) p.2).2) else
      if (addR t (mulR (zed p.1) p.2).1).2≠0 then (emp,(addR t (mulR (zed p.1) p.2).1).2) else timesF l (addR t (mulR (zed p.1) p.2).1).1
def timesR (ns:List Int) (xs:List ByteArray):ByteArray × Int:=
  if ns.length≠xs.length then (emp,2) else if xs.any (fun x=>!rightR x)=true then (emp,3) else timesF (ns.zip xs) (dec 0)
theorem zero_right:rightR (dec 0)=true:=by
  have:dec 0=ratS 0:=(zed_nat 0).symm.trans (if_pos (show (0:Rat).den=1 from rfl)).symm
  rw [this]
  exact rightR_ratS ⟨max_pos,lt_max (k:=1) (by decide) (by decide)⟩
end Go.Nu
end
