/- Texts joined by a program: NuZd. -/
import Derived.Test.YtpddaldlebngaaaGreatDoorZp20

set_option linter.unusedSimpArgs false
set_option linter.unusedVariables false
namespace Go.Proofs.YtpddaldlebngaaaGreatDoor.Nu
open Go.Aw Go.Aw.D Go.Proofs Ty Go.Nu
set_option maxRecDepth 100000
theorem ratS_zero:ratS 0=dec 0:=(if_pos (show (0:Rat).den=1 from rfl)).trans (zed_nat 0)
theorem ordered_c (x y:Rat) (hx:SmallR x) (hy:SmallR y):PC Tryz.prog 112 [str (zed x.num),str (dec x.den),str (zed y.num),str (dec y.den)] (int (cmpQ x y)):=by
  have xd:((x.den:Int)).natAbs < maxN:=by rw [Int.natAbs_natCast]; exact hx.2
  have yd:((y.den:Int)).natAbs < maxN:=by rw [Int.natAbs_natCast]; exact hy.2
  have x0:=x.den_nz
  have y0:=y.den_nz
  have hzz:∀ {m:Int},m.natAbs < maxN→(zed m).size≤4097:=fun h=>Go.Nu.zed_size h
  rw [← zed_nat,← zed_nat]
  refine PC.body (c:=Tryz.f112.body.getD .skip) (fun _=>false) mixed Tryz.func112 rfl (by kernel_rfl) ?_
  unfold Tryz.f112
  simp only [Option.getD_some]
  simp only [go_sem]
  refine ⟨fun ρ _=>∃ (p q r s g:Int),ρ 0=str (zed p)∧ρ 1=str (zed q)∧ρ 2=str (zed r)∧ρ 3=str (zed s)∧ρ 9=int g∧(g=1∨g=-1)∧0 < q∧0 < s∧p.natAbs < maxN∧q.natAbs < maxN∧r.natAbs < maxN∧s.natAbs < maxN∧cmpQ x y=g * cmpX p q r s,fun ρ _=>absS (ρ 1),
    ⟨x.num,x.den,y.num,y.den,1,by simp only [go_sem],by simp only [go_sem],by simp only [go_sem],by simp only [go_sem],by simp only [go_sem],.inl rfl,by omega,by omega,hx.1,xd,hy.1,yd,by rw [Int.one_mul,cmpQ_X]⟩,?_⟩
  rintro ρ H ⟨p,q,r,s,g,h5,h6,h7,h8,h10,hg,hq,hs,bp,bq,br,bs,hinv⟩
  have zp:=hzz bp
  have zq:=hzz bq
  have zr:=hzz br
  have zs:=hzz bs
  simp only [go_sem,h5,h6,h7,h8,h10]
  refine PC.use (div3_c (zed p) (zed q) (by omega) (by omega)) ?_
  rw [divZ_zed bp bq hq]
  simp only [go_sem,h5,h6,h7,h8,h10]
  refine PC.use (div3_c (zed r) (zed s) (by omega) (by omega)) ?_
  rw [divZ_zed br bs hs]
  simp only [go_sem,h5,h6,h7,h8,h10]
  have d1:=fdiv_abs (p:=p) hq
  have d2:=fdiv_abs (p:=r) hs
  have z1:=hzz (m:=p.fdiv q) (by omega)
  have z2:=hzz (m:=r.fdiv s) (by omega)
  refine PC.use (compare3z_c (zed (p.fdiv q)) (zed (r.fdiv s)) (by omega) (by omega)) ?_
  rw [cmpZ_zed]
  simp only [go_sem,h5,h6,h7,h8,h10]
  obtain ⟨_,m0,m1⟩:=fdiv_pos (p:=p) hq
  obtain ⟨_,n0,n1⟩:=fdiv_pos (p:=r) hs
  have c3:=cmpI_three (p.fdiv q) (r.fdiv s)
  refine acond_i (fun hc=>?_) (fun hc=>?_)
  · have hc:cmpI (p.fdiv q) (r.fdiv s)≠0:=by simpa using hc
    simp only [go_sem,h10,wrap1 hg c3]
    refine cI ?_
    rw [hinv,cmpX_floor hq hs (fun e=>hc (cmpI_eq e))]
  have hc:p.fdiv q=r.fdiv s:=cmpI_zero.1 (by simpa using hc)
  have hX:=cmpX_rest hq hs hc
  generalize p.fmod q=m at *
  generalize r.fmod s=n at *
  simp only [go_sem,h5,h6,h7,h8,h10,eq_zeroZ]
  refine acond_i (fun hz=>?_) (fun hz=>?_)
  · have hz:m=0∧n=0:=by simpa using hz
    simp only [go_sem]
    refine cI ?_
    rw [hinv,hX,hz.1,hz.2,Int.zero_mul,Int.zero_mul,cmpI_eq rfl,Int.mul_zero]
  simp only [go_sem,h5,h6,h7,h8,h10,eq_zeroZ]
  refine acond_i (fun hm=>?_) (fun hm=>?_)
  · have hm:m=0:=of_decide_eq_true hm
    have hn:0 < n:=by
      rcases Int.lt_or_le 0 n with h | h
      · exact h
      · exfalso
        have:n=0:=by omega
        rw [hm,this] at hz
        cases hz
    simp only [go_sem,h10,wrapN hg]
    refine cI ?_
    rw [hinv,hX,hm,Int.zero_mul,cmpI_lt (Int.mul_pos hn hq)]
    omega
  have hm:0 < m:=by have:=of_decide_eq_false hm; omega
  simp only [go_sem,h5,h6,h7,h8,h10,eq_zeroZ]
  refine acond_i (fun hn=>?_) (fun hn=>?_)
  · have hn:n=0:=of_decide_eq_true hn
    simp only [go_sem,h10]
    refine cI ?_
    rw [hinv,hX,hn,Int.zero_mul,cmpI_gt (Int.mul_pos hm hs)]
    omega
  have hn:0 < n:=by have:=of_decide_eq_false hn; omega
  simp only [go_sem,h5,h6,h7,h8,h10,wrapN hg]
  refine ⟨⟨q,m,s,n,-g,rfl,rfl,rfl,rfl,rfl,by omega,hm,hn,bq,by omega,bs,by omega,?_⟩,?_⟩
  · rw [hinv,hX,cmpX_flip]
    rw [Int.mul_neg,Int.neg_mul]
  · rw [absS_zed,absS_zed]; omega
theorem compare4_c (a b:ByteArray) (ha:a.size≤1048576) (hb:b.size≤1048576):PC Tryz.prog 59 [str a,str b] (int (cmpR a b)):=by
  have htwo:=both_c a b ha hb
  by_cases hr:(rightR a && rightR b)=true
  rotate_left
  · rw [show fourL a b=_ from if_neg hr,show errR a b=_ from if_neg hr] at htwo
    rw [show cmpR a b=0 from if_neg hr]
    refine PC.body (c:=Tryz.f59.body.getD .skip) (fun _=>false) mixed Tryz.func59 rfl (by kernel_rfl) ?_
    unfold Tryz.f59
    simp only [Option.getD_some]
    simp only [go_sem]
    refine PC.use htwo ?_
    simp only [go_sem]
    refine anew_i fun j hj=>?_
    simp only [go_sem]
    refine wputE_n (updH_same _ _ _) (by simp) ?_
    simp only [go_sem]
    refine acond_i (fun _=>?_) (fun hb=>by cases hb)
    simp only [go_sem]
    exact .refl _
  rw [show fourL a b=_ from if_pos hr,show errR a b=_ from if_pos hr] at htwo
  rw [show cmpR a b=_ from if_pos hr]
  simp only [Bool.and_eq_true] at hr
  obtain ⟨x,rfl,hx,e1,e2⟩:=right_parts hr.1
  obtain ⟨y,rfl,hy,e3,e4⟩:=right_parts hr.2
  rw [e1,e2,e3,e4] at htwo
  rw [valR_ratS,valR_ratS]
  refine PC.body (c:=Tryz.f59.body.getD .skip) (fun _=>false) mixed Tryz.func59 rfl (by kernel_rfl) ?_
  unfold Tryz.f59
  simp only [Option.getD_some]
  simp only [go_sem]
  refine PC.use htwo ?_
  simp only [go_sem]
  refine anew_i fun j hj=>?_
  simp only [go_sem]
  refine wputE_n (updH_same _ _ _) (by simp) ?_
  generalize hP:updH (updH _ j _) j _=HP
  have R2:HP j=some (⟨152,4,[[str (zed x.num),str (dec x.den),str (zed y.num),str (dec y.den)]]⟩:Row):=by rw [← hP,updH_same]; rfl
  simp only [go_sem]
  refine acond_i (fun hb=>by cases hb) (fun _=>?_)
  simp only [go_sem,R2]
  repeat (refine ⟨by first | decide | omega,?_⟩)
  refine PC.use (ordered_c x y hx hy) ?_
  simp only [go_sem]
  exact .refl _
theorem sign4_c (s:ByteArray) (h:s.size≤1048576):PC Tryz.prog 57 [str s] (int (signR s)):=by
  have hc:=compare4_c s ⟨#[48]⟩ h (by decide)
  refine PC.body (c:=Tryz.f57.body.getD .skip) (fun _=>false) mixed Tryz.func57 rfl (by kernel_rfl) ?_
  unfold Tryz.f57
  simp only [Option.getD_some]
  simp only [go_sem]
  refine PC.use hc ?_
  simp only [go_sem]
  refine cI ?_
  unfold cmpR signR
  rw [zero_lit,zero_right,Bool.and_true]
  split
  · rw [show valR (dec 0)=0 by rw [← ratS_zero,valR_ratS],cmpQ_zero]
  · rfl
theorem times4_c (ns : List Int) (xs : List ByteArray) (hn : ∀ n ∈ ns, -9223372036854775808 ≤ n ∧ n ≤ 9223372036854775807) (hl : xs.length ≤ 1048576) (hs : ∀ s ∈ xs, s.size ≤ 1048576) :
    PC Tryz.prog 110 [.sl (ns.map encInt),.sl (xs.map Go.Aw.D.encStr)] (.tup [str (timesR ns xs).1,int (timesR ns xs).2]):=by
  refine PC.body (c:=Tryz.f110.body.getD .skip) (fun _=>false) mixed Tryz.func110 rfl (by kernel_rfl) ?_
  unfold Tryz.f110
  simp only [Option.getD_some]
  simp only [go_sem]
  refine acond_i (fun hne=>?_) (fun heq=>?_)
  · have hne:ns.length≠xs.length:=neN hne
    simp only [go_sem]
    rw [show timesR ns xs=(emp,2) from if_pos hne]
    exact .refl _
  have heq:ns.length=xs.length:=eqN heq
  have e0:timesR ns xs=if xs.any (fun x=>!rightR x)=true then (emp,3) else timesF (ns.zip xs) (dec 0):=if_neg (by simp [heq])
  rw [e0]
  simp only [go_sem,List.length_map]
  refine ⟨fun ρ H=>∃ (k:Nat),k≤xs.length∧ρ 0=.sl (ns.map encInt)∧ρ 1=.sl (xs.map Go.Aw.D.encStr)∧ρ 6=int k∧∀ s∈xs.take k,rightR s=true,fun ρ _=>xs.length - natOf (ρ 6),
    ⟨0,Nat.zero_le _,by simp only [go_sem],by simp only [go_sem],by simp only [go_sem]; rfl,by simp⟩,?_⟩
  rintro ρ H ⟨k,hk,h0,h1,h6,hz⟩
  simp only [go_sem,h0,h1,h6,List.length_map]
  refine acond_i (fun hlt=>?_) (fun hge=>?_)
  · have hlt:=ltB hlt
    obtain ⟨s,hs0⟩:=getIn hlt
    have b1:=inB hlt
    simp only [go_sem,h0,h1,h6,getD_map hs0,b1]
    refine PC.use (right4_c s (hs s (List.mem_of_getElem? hs0))) ?_
    simp only [go_sem,h0,h1,h6]
    refine acond_i (fun hb=>?_) (fun hb=>?_)
    · simp only [go_sem]
      rw [if_pos (any_yes hs0 hb)]
      exact .refl _
    · simp only [go_sem,h0,h1,h6,wrapS (show k≤4611686018427387904 by omega)]
      exact ⟨⟨k + 1,hlt,rfl,take_all' hs0 (by simpa using hb) hz⟩,by simp only [natOf_int]; omega⟩
  have hge:=geB hk hge
  subst hge
  rw [List.take_length] at hz
  have hR:xs.any (fun s=>!rightR s)=false:=any_none fun s hs=>by rw [hz s hs]; rfl
  rw [hR]
  simp only [go_sem,h0,h1,List.length_map]
  refine ⟨fun ρ H=>∃ (k:Nat) (t:ByteArray),k≤xs.length∧ρ 0=.sl (ns.map encInt)∧ρ 1=.sl (xs.map Go.Aw.D.encStr)∧ρ 7=str t∧ρ 8=int k∧t.size≤1048576∧timesF (ns.zip xs) (dec 0)=timesF ((ns.zip xs).drop k) t,fun ρ _=>xs.length - natOf (ρ 8),
    ⟨0,dec 0,Nat.zero_le _,by simp only [go_sem,h0],by simp only [go_sem,h1],by simp only [go_sem]; rw [zero_lit],by simp only [go_sem]; rfl,by rw [← zero_lit]; decide,rfl⟩,?_⟩
  clear h0 h1 h6
  rintro ρ H ⟨k,t,hk,h0,h1,h7,h8,ht,hinv⟩
  rw [hinv]
  have hzl:(ns.zip xs).length=xs.length:=by rw [List.length_zip]; omega
  simp only [go_sem,h0,h1,h7,h8,List.length_map,heq]
  refine acond_i (fun hlt=>?_) (fun hge=>?_)
  · have hlt:=ltB hlt
    obtain ⟨s,hs0⟩:=getIn hlt
    obtain ⟨n,hn0⟩:=getIn (l:=ns) (k:=k) (by omega)
    have b1:=inB hlt
    have b2:=inB (show k < ns.length by omega)
    have hss:=hs s (List.mem_of_getElem? hs0)
    have hnn:=hn n (List.mem_of_getElem? hn0)
    have hz0:(ns.zip xs)[k]?=some (n,s):=by rw [List.getElem?_zip_eq_some]; exact ⟨hn0,hs0⟩
    have hnm:n.natAbs < maxN:=lt_max (k:=20) (by omega) (by decide)
    have hzs:=Go.Nu.zed_size hnm
    rw [drop_at hz0,timesF]
    simp only [go_sem,h0,h1,h7,h8]
    refine adraw_q (by rfl) (by kernel_rfl) ?_
    simp only [go_sem,h0,h1,h7,h8,getD_map hs0,getD_map hn0,b1,b2,List.length_map]
    refine ⟨_,(of4_c n hnn.1 hnn.2).q rfl,?_⟩
    simp only [go_sem,h0,h1,h7,h8,getD_map hs0,getD_map hn0,b1,b2,List.length_map]
    refine ⟨_,(mul4_c (zed n) s (by omega) hss).q rfl,?_⟩
    simp only [go_sem,h0,h1,h7,h8]
    refine acond_i (fun hb=>?_) (fun hb=>?_)
    · have hb:(mulR (zed n) s).2≠0:=by simpa using hb
      simp only [go_sem]
      rw [if_pos hb]
      exact .refl _
    have hb:(mulR (zed n) s).2=0:=by simpa using hb
    have hm:=right_size' (mulR_small hb)
    rw [if_neg (by simp [hb])]
    generalize (mulR (zed n) s).1=m at *
    simp only [go_sem,h0,h1,h7,h8]
    refine PC.use (add4_c t m ht (by omega)) ?_
    simp only [go_sem,h0,h1,h7,h8]
    refine acond_i (fun hb2=>?_) (fun hb2=>?_)
    · have hb2:(addR t m).2≠0:=by simpa using hb2
      simp only [go_sem]
      rw [if_pos hb2]
      exact .refl _
    have hb2:(addR t m).2=0:=by simpa using hb2
    have ha:=right_size' (addR_small hb2)
    rw [if_neg (by simp [hb2])]
    simp only [go_sem,h0,h1,h7,h8,wrapS (show k≤4611686018427387904 by omega)]
    exact ⟨⟨k + 1,_,hlt,rfl,rfl,by omega,rfl⟩,by simp only [natOf_int]; omega⟩
  · have hge:=geB hk hge
    subst hge
    rw [List.drop_of_length_le (by omega)]
    simp only [go_sem,h7]
    exact .refl _
end Go.Proofs.YtpddaldlebngaaaGreatDoor.Nu
