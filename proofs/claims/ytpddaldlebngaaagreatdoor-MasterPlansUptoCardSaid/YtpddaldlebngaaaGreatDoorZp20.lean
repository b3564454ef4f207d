/- Texts joined by a program: NuO, NuP, NuQ, NuZc. -/
import Derived.Test.YtpddaldlebngaaaGreatDoorZp11
import Derived.Test.YtpddaldlebngaaaGreatDoorZp16
import Derived.Test.YtpddaldlebngaaaGreatDoorZp19

section
set_option linter.unusedSimpArgs false
set_option linter.unusedVariables false
namespace Go.Proofs.YtpddaldlebngaaaGreatDoor.Nu
open Go.Aw Go.Aw.D Go.Proofs Ty Go.Nu
set_option maxRecDepth 100000
abbrev Pr:=ByteArray × ByteArray
def encPr (p:Pr):List AV:=[str p.1,str p.2]
theorem encPr_len (p:Pr):(encPr p).length=2:=(rfl)
theorem encPr_0 (p:Pr):(encPr p).getD 0 .any=str p.1:=(rfl)
theorem encPr_1 (p:Pr):(encPr p).getD 1 .any=str p.2:=(rfl)
theorem encPr_all (p:Pr):(encPr p).take 2=encPr p:=(rfl)
attribute [go_sem] encPr_len encPr_0 encPr_1 encPr_all
def prA (p:Pr):List AV:=[str (mulZ p.1 p.2).1]
def prE:List Pr→Int
  | []=>0
  | p :: l=>if (mulZ p.1 p.2).2≠0 then (mulZ p.1 p.2).2 else prE l
theorem prE_zero:∀ {l:List Pr},(∀ p∈l,(mulZ p.1 p.2).2=0)→prE l=0
  | [],_=>rfl
  | p :: l,h=>by unfold prE; rw [if_neg (by simp [h p (by simp)])]; exact prE_zero fun q hq=>h q (by simp [hq])
theorem prE_at:∀ {l:List Pr} {k:Nat} {p:Pr},l[k]?=some p→(∀ q∈l.take k,(mulZ q.1 q.2).2=0)→(mulZ p.1 p.2).2≠0→prE l=(mulZ p.1 p.2).2
  | [],k,p,h,_,_=>by simp at h
  | a :: l,0,p,h,_,h2=>by
    simp at h
    subst h
    unfold prE
    rw [if_pos h2]
  | a :: l,k + 1,p,h,h1,h2=>by
    unfold prE
    rw [if_neg (by simp [h1 a (by simp)])]
    exact prE_at (k:=k) (by simpa using h) (fun q hq=>h1 q (by simp [hq])) h2
def sRow (l:List (List AV)):Row:=⟨9,1,l⟩
theorem products_c (l:List Pr) (hl:l.length≤1048576) (hs:∀ p∈l,p.1.size≤1048576∧p.2.size≤1048576):PC Tryz.prog 128 [.sl (l.map encPr)] (.tup [.sl (if prE l=0 then l.map prA else []),int (prE l)]):=by
  refine PC.body (c:=Tryz.f128.body.getD .skip) (fun t=>t == 6 || t == 11) mixed Tryz.func128 rfl (by kernel_rfl) ?_
  unfold Tryz.f128
  simp only [Option.getD_some]
  simp only [go_sem]
  refine ⟨⟨⟨by omega,by omega⟩,by omega⟩,?_⟩
  refine anew_i fun j hj=>?_
  simp only [go_sem]
  refine ⟨fun ρ H=>∃ (k j:Nat),k≤l.length∧ρ 12=.sl (l.map encPr)∧ρ 13=int l.length∧ρ 4=.os j∧ρ 14=int k∧H j=some (sRow ((l.take k).map prA))∧∀ p∈l.take k,(mulZ p.1 p.2).2=0,fun ρ _=>l.length - natOf (ρ 14),
    ⟨0,j,Nat.zero_le _,by simp only [go_sem],by simp only [go_sem,List.length_map],by simp only [go_sem],by simp only [go_sem]; rfl,updH_same _ _ _,by simp⟩,?_⟩
  clear hj j
  rintro ρ H ⟨k,j,hk,h12,h13,h4,h14,Rj,hz⟩
  simp only [go_sem,h12,h13,h4,h14]
  refine acond_i (fun hlt=>?_) (fun hge=>?_)
  · have hlt:=ltB hlt
    obtain ⟨p,hp0⟩:=getIn hlt
    have b1:=inB hlt
    have hps:=hs p (List.mem_of_getElem? hp0)
    simp only [go_sem,h12,h13,h4,h14,getD_map hp0,b1]
    refine anew_i fun i hi=>?_
    have nji:j≠i:=ne_new Rj hi
    simp only [go_sem,h12,h13,h4,h14]
    refine wputE_n (updH_same _ _ _) (by simp [encPr_len]) ?_
    generalize hG:updH (updH _ i _) i _=HG
    have Ri:HG i=some (⟨176,2,[encPr p]⟩:Row):=by rw [← hG,updH_same]; rfl
    have Rj':HG j=some (sRow ((l.take k).map prA)):=by rw [← hG,updH_ne _ _ _ _ nji,updH_ne _ _ _ _ nji]; exact Rj
    clear hG hi Rj
    simp only [go_sem,h12,h13,h4,h14,Ri]
    repeat (refine ⟨by first | decide | omega,?_⟩)
    refine PC.use (wMul_c p.1 p.2 hps.1 hps.2) ?_
    simp only [go_sem,h12,h13,h4,h14]
    refine acond_i (fun hb=>?_) (fun hb=>?_)
    · have hb:(mulZ p.1 p.2).2≠0:=by simpa using hb
      simp only [go_sem]
      have e:prE l=(mulZ p.1 p.2).2:=prE_at hp0 hz hb
      rw [e,if_neg hb]
      exact .refl _
    · have hb:(mulZ p.1 p.2).2=0:=by simpa using hb
      simp only [go_sem,h12,h13,h4,h14]
      refine wappE_i Rj' ⟨rfl,rfl⟩ ⟨rfl,trivial⟩ (by simp only [sRow,List.length_map,List.length_take,List.length_cons,List.length_nil]; omega) (fun j' hj'=>?_)
      simp only [go_sem,h12,h13,h4,h14,wrapS (show k≤4611686018427387904 by omega)]
      refine ⟨⟨k + 1,j',hlt,rfl,rfl,?_,?_⟩,by simp only [natOf_int]; omega⟩
      · rw [updH_same]
        simp only [sRow,take_succ hp0,List.map_append,List.map_cons,List.map_nil]
        rfl
      · intro q hq
        rw [take_succ hp0] at hq
        rcases List.mem_append.1 hq with hq | hq
        · exact hz q hq
        · rw [List.mem_singleton.1 hq]; exact hb
  · have hge:=geB hk hge
    subst hge
    rw [List.take_length] at Rj hz
    simp only [go_sem,h4,Rj]
    have e:prE l=0:=prE_zero hz
    rw [if_pos e,e]
    exact .tup _ _ (.cons _ _ _ _ (.row _ _ _ Rj (ConvE.refl _)) (ConvL.refl _))
theorem mulZ_zed {m n:Int} (hm:m.natAbs < maxN) (hn:n.natAbs < maxN):mulZ (zed m) (zed n)=szZ (m * n):=by unfold mulZ; rw [if_pos (errZ_zed hm hn),valZ_zed,valZ_zed]
theorem addZ_zed {m n:Int} (hm:m.natAbs < maxN) (hn:n.natAbs < maxN):addZ (zed m) (zed n)=szZ (m + n):=by unfold addZ; rw [if_pos (errZ_zed hm hn),valZ_zed,valZ_zed]
theorem subZ_zed {m n:Int} (hm:m.natAbs < maxN) (hn:n.natAbs < maxN):subZ (zed m) (zed n)=szZ (m - n):=by unfold subZ; rw [if_pos (errZ_zed hm hn),valZ_zed,valZ_zed]
theorem szZ_ok {n:Int} (h:bigI n=false):szZ n=(zed n,0):=if_pos (bigI_iff.1 h)
theorem szZ_big {n:Int} (h:bigI n=true):szZ n=(emp,4):=if_neg (fun h2=>by rw [bigI_iff.2 h2] at h; cases h)
theorem zed_size {m:Int} (hm:m.natAbs < maxN):(zed m).size≤1048576:=by
  have:=(digZ_size m).2 hm
  unfold digZ at this
  split at this
  · rw [← bl_size,bl_mk,List.length_drop] at this
    rw [← bl_size]; omega
  · omega
theorem products2_c {a b c d : Int} (ha : a.natAbs < maxN) (hb : b.natAbs < maxN) (hc : c.natAbs < maxN) (hd : d.natAbs < maxN) :
    PC Tryz.prog 128 [.sl [[str (zed a),str (zed b)],[str (zed c),str (zed d)]]] (if (bigI (a * b) || bigI (c * d))=true then .tup [.sl [],int 4] else .tup [.sl [[str (zed (a * b))],[str (zed (c * d))]],int 0]):=by
  have:=products_c [(zed a,zed b),(zed c,zed d)] (by simp) (by simp [zed_size,ha,hb,hc,hd])
  simp only [prE,mulZ_zed ha hb,mulZ_zed hc hd,List.map_cons,List.map_nil,prA,encPr] at this
  cases h1:bigI (a * b) with
  | true=>rw [szZ_big h1] at this; simpa using this
  | false=>
    rw [szZ_ok h1] at this
    cases h2:bigI (c * d) with
    | true=>rw [szZ_big h2] at this; simpa using this
    | false=>rw [szZ_ok h2] at this; simpa using this
theorem products1_c {a b : Int} (ha : a.natAbs < maxN) (hb : b.natAbs < maxN) :
    PC Tryz.prog 128 [.sl [[str (zed a),str (zed b)]]] (if bigI (a * b)=true then .tup [.sl [],int 4] else .tup [.sl [[str (zed (a * b))]],int 0]):=by
  have:=products_c [(zed a,zed b)] (by simp) (by simp [zed_size,ha,hb])
  simp only [prE,mulZ_zed ha hb,List.map_cons,List.map_nil,prA,encPr] at this
  cases h1:bigI (a * b) with
  | true=>rw [szZ_big h1] at this; simpa using this
  | false=>rw [szZ_ok h1] at this; simpa using this
def fv (g:FuncId):AV:=.v (.func (.func g) #[] #[])
def combQ (op:Int→Int→Int) (x y:Rat):ByteArray × Int:=
  if (bigI (x.num * y.den) || bigI (y.num * x.den) || bigI (op (x.num * y.den) (y.num * x.den)) || bigI (x.den * y.den))=true then (emp,4) else (ratS (mkRat (op (x.num * y.den) (y.num * x.den)) (x.den * y.den)),0)
def combR (op:Int→Int→Int) (a b:ByteArray):ByteArray × Int:=if (rightR a && rightR b)=true then combQ op (valR a) (valR b) else (emp,3)
theorem combine_c (g : FuncId) (op : Int → Int → Int) (hok : callOk Tryz.prog g = true) (hg : ∀ m n : Int, m.natAbs < maxN → n.natAbs < maxN → PC Tryz.prog g [str (zed m), str (zed n)] (.tup [str (szZ (op m n)).1, int (szZ (op m n)).2]))
    (a b:ByteArray) (ha:a.size≤1048576) (hb:b.size≤1048576):PC Tryz.prog 79 [str a,str b,fv g] (.tup [str (combR op a b).1,int (combR op a b).2]):=by
  have htwo:=two_rc a b ha hb
  by_cases hr:(rightR a && rightR b)=true
  rotate_left
  · rw [show twoL a b=_ from if_neg hr] at htwo
    rw [show combR op a b=(emp,3) from if_neg hr]
    unfold fv
    refine PC.body (c:=Tryz.f79.body.getD .skip) (fun _=>false) mixed Tryz.func79 rfl (by kernel_rfl) ?_
    unfold Tryz.f79
    simp only [Option.getD_some]
    simp only [go_sem]
    refine PC.use htwo ?_
    simp only [go_sem]
    refine acond_i (fun _=>?_) (fun hb=>by cases hb)
    simp only [go_sem]
    exact .refl _
  rw [show twoL a b=_ from if_pos hr] at htwo
  rw [show combR op a b=_ from if_pos hr]
  simp only [Bool.and_eq_true] at hr
  obtain ⟨x,rfl,hx,e1,e2⟩:=right_parts hr.1
  obtain ⟨y,rfl,hy,e3,e4⟩:=right_parts hr.2
  rw [e1,e2,e3,e4] at htwo
  rw [valR_ratS,valR_ratS]
  have xd:((x.den:Int)).natAbs < maxN:=by rw [Int.natAbs_natCast]; exact hx.2
  have yd:((y.den:Int)).natAbs < maxN:=by rw [Int.natAbs_natCast]; exact hy.2
  have p2:=products2_c hx.1 yd hy.1 xd
  have p1:=products1_c xd yd
  rw [zed_nat,zed_nat] at p2 p1
  unfold fv
  refine PC.body (c:=Tryz.f79.body.getD .skip) (fun _=>false) mixed Tryz.func79 rfl (by kernel_rfl) ?_
  unfold Tryz.f79
  simp only [Option.getD_some]
  simp only [go_sem]
  refine PC.use htwo ?_
  simp only [go_sem]
  refine acond_i (fun hb=>by cases hb) (fun _=>?_)
  simp only [go_sem]
  unfold combQ
  cases hb1:(bigI (x.num * y.den) || bigI (y.num * x.den)) with
  | true=>
    rw [hb1,if_pos rfl] at p2
    refine PC.use p2 ?_
    simp only [go_sem]
    refine acond_i (fun _=>?_) (fun hb=>by cases hb)
    exact .refl _
  | false=>
    rw [hb1] at p2
    simp only [Bool.false_eq_true,if_false] at p2
    refine PC.use p2 ?_
    simp only [go_sem]
    refine acond_i (fun hb=>by cases hb) (fun _=>?_)
    simp only [go_sem]
    have hb1':=hb1
    simp only [Bool.or_eq_false_iff] at hb1'
    have hgg:=hg _ _ (bigI_iff.1 hb1'.1) (bigI_iff.1 hb1'.2)
    refine adraw_q (by rfl) (by kernel_rfl) ?_
    simp only [go_sem,List.length_cons,List.length_nil]
    repeat (refine ⟨by first | decide | omega,?_⟩)
    refine ⟨_,hgg.q rfl,?_⟩
    simp only [go_sem]
    generalize hN:op (x.num * y.den) (y.num * x.den)=N
    cases hb2:bigI N with
    | true=>
      rw [szZ_big hb2]
      refine acond_i (fun _=>?_) (fun hb=>by cases hb)
      simp only [go_sem,hb1,Bool.false_or,Bool.true_or,if_true]
      exact .refl _
    | false=>
      rw [szZ_ok hb2]
      refine acond_i (fun hb=>by cases hb) (fun _=>?_)
      simp only [go_sem]
      cases hb3:bigI ((x.den:Int) * y.den) with
      | true=>
        rw [hb3,if_pos rfl] at p1
        refine PC.use p1 ?_
        simp only [go_sem]
        refine acond_i (fun _=>?_) (fun hb=>by cases hb)
        simp only [go_sem,Bool.or_true,if_true]
        exact .refl _
      | false=>
        rw [hb3] at p1
        simp only [Bool.false_eq_true,if_false] at p1
        refine PC.use p1 ?_
        simp only [go_sem]
        refine acond_i (fun hb=>by cases hb) (fun _=>?_)
        simp only [go_sem,List.length_cons,List.length_nil]
        repeat (refine ⟨by first | decide | omega,?_⟩)
        have hD:x.den * y.den < maxN:=by rw [← den_abs]; exact bigI_iff.1 hb3
        have:=rlow_c N (x.den * y.den) (den_ne x y) (bigI_iff.1 hb2) hD
        rw [← zed_nat,Int.natCast_mul] at this
        refine PC.use this ?_
        simp only [go_sem]
        exact .refl _
theorem combR_add (a b:ByteArray):combR (· + ·) a b=addR a b:=by
  unfold combR addR combQ sumR
  simp only [add_mk]
theorem combR_sub (a b:ByteArray):combR (· - ·) a b=subR a b:=by
  unfold combR subR combQ sumR
  simp only [add_mk,Rat.neg_num,Rat.neg_den,Int.neg_mul,← Int.sub_eq_add_neg]
  have:∀ n:Int,bigI (-n)=bigI n:=fun n=>by unfold bigI; rw [Int.natAbs_neg]
  simp only [this]
theorem rAdd_c (a b:ByteArray) (ha:a.size≤1048576) (hb:b.size≤1048576):PC Tryz.prog 78 [str a,str b] (.tup [str (addR a b).1,int (addR a b).2]):=by
  have:=combine_c 130 (· + ·) (by kernel_rfl) (fun m n hm hn=>by rw [← addZ_zed hm hn]; exact wAdd_c _ _ (zed_size hm) (zed_size hn)) a b ha hb
  rw [combR_add] at this
  unfold fv at this
  refine PC.body (c:=Tryz.f78.body.getD .skip) (fun _=>false) mixed Tryz.func78 rfl (by kernel_rfl) ?_
  unfold Tryz.f78
  simp only [Option.getD_some]
  simp only [go_sem]
  refine PC.use this ?_
  simp only [go_sem]
  exact .refl _
theorem rSub_c (a b:ByteArray) (ha:a.size≤1048576) (hb:b.size≤1048576):PC Tryz.prog 39 [str a,str b] (.tup [str (subR a b).1,int (subR a b).2]):=by
  have:=combine_c 80 (· - ·) (by kernel_rfl) (fun m n hm hn=>by rw [← subZ_zed hm hn]; exact wSub_c _ _ (zed_size hm) (zed_size hn)) a b ha hb
  rw [combR_sub] at this
  unfold fv at this
  refine PC.body (c:=Tryz.f39.body.getD .skip) (fun _=>false) mixed Tryz.func39 rfl (by kernel_rfl) ?_
  unfold Tryz.f39
  simp only [Option.getD_some]
  simp only [go_sem]
  refine PC.use this ?_
  simp only [go_sem]
  exact .refl _
theorem rMul_c (a b:ByteArray) (ha:a.size≤1048576) (hb:b.size≤1048576):PC Tryz.prog 77 [str a,str b] (.tup [str (mulR a b).1,int (mulR a b).2]):=by
  have htwo:=two_rc a b ha hb
  by_cases hr:(rightR a && rightR b)=true
  rotate_left
  · rw [show twoL a b=_ from if_neg hr] at htwo
    rw [show mulR a b=(emp,3) from if_neg hr]
    refine PC.body (c:=Tryz.f77.body.getD .skip) (fun _=>false) mixed Tryz.func77 rfl (by kernel_rfl) ?_
    unfold Tryz.f77
    simp only [Option.getD_some]
    simp only [go_sem]
    refine PC.use htwo ?_
    simp only [go_sem]
    refine acond_i (fun _=>?_) (fun hb=>by cases hb)
    simp only [go_sem]
    exact .refl _
  rw [show twoL a b=_ from if_pos hr] at htwo
  rw [show mulR a b=_ from if_pos hr]
  simp only [Bool.and_eq_true] at hr
  obtain ⟨x,rfl,hx,e1,e2⟩:=right_parts hr.1
  obtain ⟨y,rfl,hy,e3,e4⟩:=right_parts hr.2
  rw [e1,e2,e3,e4] at htwo
  rw [valR_ratS,valR_ratS]
  have xd:((x.den:Int)).natAbs < maxN:=by rw [Int.natAbs_natCast]; exact hx.2
  have yd:((y.den:Int)).natAbs < maxN:=by rw [Int.natAbs_natCast]; exact hy.2
  have p2:=products2_c hx.1 hy.1 xd yd
  rw [zed_nat,zed_nat] at p2
  refine PC.body (c:=Tryz.f77.body.getD .skip) (fun _=>false) mixed Tryz.func77 rfl (by kernel_rfl) ?_
  unfold Tryz.f77
  simp only [Option.getD_some]
  simp only [go_sem]
  refine PC.use htwo ?_
  simp only [go_sem]
  refine acond_i (fun hb=>by cases hb) (fun _=>?_)
  simp only [go_sem]
  unfold prodR
  cases hb1:(bigI (x.num * y.num) || bigI ((x.den:Int) * y.den)) with
  | true=>
    rw [hb1,if_pos rfl] at p2
    refine PC.use p2 ?_
    simp only [go_sem]
    refine acond_i (fun _=>?_) (fun hb=>by cases hb)
    exact .refl _
  | false=>
    rw [hb1] at p2
    simp only [Bool.false_eq_true,if_false] at p2
    refine PC.use p2 ?_
    simp only [go_sem]
    refine acond_i (fun hb=>by cases hb) (fun _=>?_)
    simp only [go_sem]
    simp only [Bool.or_eq_false_iff] at hb1
    have hD:x.den * y.den < maxN:=by rw [← den_abs]; exact bigI_iff.1 hb1.2
    have:=rlow_c (x.num * y.num) (x.den * y.den) (den_ne x y) (bigI_iff.1 hb1.1) hD
    rw [← zed_nat,Int.natCast_mul] at this
    refine adraw_q (by rfl) (by kernel_rfl) ?_
    simp only [go_sem,List.length_cons,List.length_nil]
    repeat (refine ⟨by first | decide | omega,?_⟩)
    refine ⟨_,this.q rfl,?_⟩
    simp only [go_sem]
    rw [← mul_mk]
    exact .refl _
end Go.Proofs.YtpddaldlebngaaaGreatDoor.Nu
end

section
set_option linter.unusedSimpArgs false
set_option linter.unusedVariables false
namespace Go.Proofs.YtpddaldlebngaaaGreatDoor.Nu
open Go.Aw Go.Aw.D Go.Proofs Ty Go.Nu
set_option maxRecDepth 100000
theorem fdiv_abs {p q:Int} (hq:0 < q):(p.fdiv q).natAbs≤p.natAbs:=by
  obtain ⟨e,h0,h1⟩:=fdiv_pos (p:=p) hq
  generalize p.fdiv q=d at *
  generalize p.fmod q=m at *
  rcases Int.lt_or_le d 0 with hd | hd
  · have h2:(d + 1) * q≤(d + 1) * 1:=Int.mul_le_mul_of_nonpos_left (by omega) (by omega)
    rw [Int.add_mul] at h2
    omega
  · have h2:d * 1≤d * q:=Int.mul_le_mul_of_nonneg_left (by omega) hd
    omega
theorem divZ_zed {p q:Int} (hp:p.natAbs < maxN) (hq:q.natAbs < maxN) (h:0 < q):divZ (zed p) (zed q)=(zed (p.fdiv q),zed (p.fmod q),0):=by
  unfold divZ
  rw [if_pos (errZ_zed hp hq),valZ_zed,valZ_zed,if_neg (by omega)]
theorem cmpZ_zed (i j:Int):cmpZ (zed i) (zed j)=cmpI i j:=by unfold cmpZ; rw [if_pos ⟨rightZ_zed _,rightZ_zed _⟩,valZ_zed,valZ_zed]
theorem cmpI_three (i j : Int) : cmpI i j = -1 ∨ cmpI i j = 0 ∨ cmpI i j = 1 := by unfold cmpI; split; · exact .inl rfl
                                                                                   · split; · exact .inr (.inr rfl)
                                                                                     · exact .inr (.inl rfl)
def absS:AV→Nat
  | .v (.string s)=>(valZ s).natAbs
  | _=>0
theorem absS_zed (n:Int):absS (str (zed n))=n.natAbs:=by show (valZ (zed n)).natAbs=_; rw [valZ_zed]
theorem eq_zeroZ (n:Int):(bl (zed n) == [48])=decide (n=0):=by
  rw [eq_zero,← show zed ((0:Nat):Int)=dec 0 from zed_nat 0,Bool.eq_iff_iff,eqB_iff,zed_eq,decide_eq_true_iff]
  exact Iff.rfl
theorem wrap1 {a b:Int} (ha:a=1∨a=-1) (hb:b=-1∨b=0∨b=1):IntKind.i64.wrap (a * b)=a * b:=by
  rcases ha with rfl | rfl <;> rcases hb with rfl | rfl | rfl <;> rfl
theorem wrapN {a:Int} (ha:a=1∨a=-1):IntKind.i64.wrap (0 - a)=-a:=by rcases ha with rfl | rfl <;> rfl
theorem rCompare_c (a b:ByteArray) (ha:a.size≤1048576) (hb:b.size≤1048576):PC Tryz.prog 90 [str a,str b] (int (cmpR a b)):=by
  have htwo:=two_rc a b ha hb
  by_cases hr:(rightR a && rightR b)=true
  rotate_left
  · rw [show twoL a b=_ from if_neg hr] at htwo
    rw [show cmpR a b=0 from if_neg hr]
    refine PC.body (c:=Tryz.f90.body.getD .skip) (fun _=>false) mixed Tryz.func90 rfl (by kernel_rfl) ?_
    unfold Tryz.f90
    simp only [Option.getD_some]
    simp only [go_sem]
    refine PC.use htwo ?_
    simp only [go_sem]
    refine acond_i (fun _=>?_) (fun hb=>by cases hb)
    simp only [go_sem]
    exact .refl _
  rw [show twoL a b=_ from if_pos hr] at htwo
  rw [show cmpR a b=_ from if_pos hr]
  simp only [Bool.and_eq_true] at hr
  obtain ⟨x,rfl,hx,e1,e2⟩:=right_parts hr.1
  obtain ⟨y,rfl,hy,e3,e4⟩:=right_parts hr.2
  rw [e1,e2,e3,e4] at htwo
  rw [valR_ratS,valR_ratS]
  have xd:((x.den:Int)).natAbs < maxN:=by rw [Int.natAbs_natCast]; exact hx.2
  have yd:((y.den:Int)).natAbs < maxN:=by rw [Int.natAbs_natCast]; exact hy.2
  have x0:=x.den_nz
  have y0:=y.den_nz
  rw [← zed_nat,← zed_nat] at htwo
  refine PC.body (c:=Tryz.f90.body.getD .skip) (fun _=>false) mixed Tryz.func90 rfl (by kernel_rfl) ?_
  unfold Tryz.f90
  simp only [Option.getD_some]
  simp only [go_sem]
  refine PC.use htwo ?_
  simp only [go_sem]
  refine acond_i (fun hb=>by cases hb) (fun _=>?_)
  simp only [go_sem]
  refine ⟨fun ρ _=>∃ (p q r s g:Int),ρ 5=str (zed p)∧ρ 6=str (zed q)∧ρ 7=str (zed r)∧ρ 8=str (zed s)∧ρ 10=int g∧(g=1∨g=-1)∧0 < q∧0 < s∧p.natAbs < maxN∧q.natAbs < maxN∧r.natAbs < maxN∧s.natAbs < maxN∧cmpQ x y=g * cmpX p q r s,fun ρ _=>absS (ρ 6),
    ⟨x.num,x.den,y.num,y.den,1,by simp only [go_sem],by simp only [go_sem],by simp only [go_sem],by simp only [go_sem],by simp only [go_sem],.inl rfl,by omega,by omega,hx.1,xd,hy.1,yd,by rw [Int.one_mul,cmpQ_X]⟩,?_⟩
  rintro ρ H ⟨p,q,r,s,g,h5,h6,h7,h8,h10,hg,hq,hs,bp,bq,br,bs,hinv⟩
  simp only [go_sem,h5,h6,h7,h8,h10]
  refine PC.use (wDiv_c (zed p) (zed q) (zed_size bp) (zed_size bq)) ?_
  rw [divZ_zed bp bq hq]
  simp only [go_sem,h5,h6,h7,h8,h10]
  refine PC.use (wDiv_c (zed r) (zed s) (zed_size br) (zed_size bs)) ?_
  rw [divZ_zed br bs hs]
  simp only [go_sem,h5,h6,h7,h8,h10]
  have d1:=fdiv_abs (p:=p) hq
  have d2:=fdiv_abs (p:=r) hs
  refine PC.use (wCompare_c (zed (p.fdiv q)) (zed (r.fdiv s)) (zed_size (by omega)) (zed_size (by omega))) ?_
  rw [cmpZ_zed]
  simp only [go_sem,h5,h6,h7,h8,h10]
  obtain ⟨_,m0,m1⟩:=fdiv_pos (p:=p) hq
  obtain ⟨_,n0,n1⟩:=fdiv_pos (p:=r) hs
  have c3:=cmpI_three (p.fdiv q) (r.fdiv s)
  refine acond_i (fun hc=>?_) (fun hc=>?_)
  · have hc:cmpI (p.fdiv q) (r.fdiv s)≠0:=by simpa using hc
    simp only [go_sem,h10,wrap1 hg c3]
    refine cI ?_
    rw [hinv,cmpX_floor hq hs (fun e=>hc (cmpI_eq e))]
  have hc:p.fdiv q=r.fdiv s:=cmpI_zero.1 (by simpa using hc)
  have hX:=cmpX_rest hq hs hc
  generalize p.fmod q=m at *
  generalize r.fmod s=n at *
  simp only [go_sem,h5,h6,h7,h8,h10,eq_zeroZ]
  refine acond_i (fun hz=>?_) (fun hz=>?_)
  · have hz:m=0∧n=0:=by simpa using hz
    simp only [go_sem]
    refine cI ?_
    rw [hinv,hX,hz.1,hz.2,Int.zero_mul,Int.zero_mul,cmpI_eq rfl,Int.mul_zero]
  simp only [go_sem,h5,h6,h7,h8,h10,eq_zeroZ]
  refine acond_i (fun hm=>?_) (fun hm=>?_)
  · have hm:m=0:=of_decide_eq_true hm
    have hn:0 < n:=by
      rcases Int.lt_or_le 0 n with h | h
      · exact h
      · exfalso
        have:n=0:=by omega
        rw [hm,this] at hz
        cases hz
    simp only [go_sem,h10,wrapN hg]
    refine cI ?_
    rw [hinv,hX,hm,Int.zero_mul,cmpI_lt (Int.mul_pos hn hq)]
    omega
  have hm:0 < m:=by have:=of_decide_eq_false hm; omega
  simp only [go_sem,h5,h6,h7,h8,h10,eq_zeroZ]
  refine acond_i (fun hn=>?_) (fun hn=>?_)
  · have hn:n=0:=of_decide_eq_true hn
    simp only [go_sem,h10]
    refine cI ?_
    rw [hinv,hX,hn,Int.zero_mul,cmpI_gt (Int.mul_pos hm hs)]
    omega
  have hn:0 < n:=by have:=of_decide_eq_false hn; omega
  simp only [go_sem,h5,h6,h7,h8,h10,wrapN hg]
  refine ⟨⟨q,m,s,n,-g,rfl,rfl,rfl,rfl,rfl,by omega,hm,hn,bq,by omega,bs,by omega,?_⟩,?_⟩
  · rw [hinv,hX,cmpX_flip]
    rw [Int.mul_neg,Int.neg_mul]
  · rw [absS_zed,absS_zed]; omega
end Go.Proofs.YtpddaldlebngaaaGreatDoor.Nu
end

section
set_option linter.unusedSimpArgs false
set_option linter.unusedVariables false
namespace Go.Proofs.YtpddaldlebngaaaGreatDoor.Nu
open Go.Aw Go.Aw.D Go.Proofs Ty Go.Nu
set_option maxRecDepth 100000
theorem drop_at {α:Type} {l:List α} {k:Nat} {x:α} (h:l[k]?=some x):l.drop k=x :: l.drop (k + 1):=by
  obtain ⟨hk,e⟩:=List.getElem?_eq_some_iff.1 h
  rw [List.drop_eq_getElem_cons hk,e]
theorem rTimes_c (ns : List Int) (xs : List ByteArray) (hn : ∀ n ∈ ns, -9223372036854775808 ≤ n ∧ n ≤ 9223372036854775807) (hl : xs.length ≤ 1048576) (hs : ∀ s ∈ xs, s.size ≤ 1048576) :
    PC Tryz.prog 38 [.sl (ns.map encInt),.sl (xs.map Go.Aw.D.encStr)] (.tup [str (timesR ns xs).1,int (timesR ns xs).2]):=by
  refine PC.body (c:=Tryz.f38.body.getD .skip) (fun _=>false) mixed Tryz.func38 rfl (by kernel_rfl) ?_
  unfold Tryz.f38
  simp only [Option.getD_some]
  simp only [go_sem]
  refine acond_i (fun hne=>?_) (fun heq=>?_)
  · have hne:ns.length≠xs.length:=neN hne
    simp only [go_sem]
    rw [show timesR ns xs=(emp,2) from if_pos hne]
    exact .refl _
  have heq:ns.length=xs.length:=eqN heq
  have e0:timesR ns xs=if xs.any (fun x=>!rightR x)=true then (emp,3) else timesF (ns.zip xs) (dec 0):=if_neg (by simp [heq])
  rw [e0]
  simp only [go_sem,List.length_map]
  refine ⟨fun ρ H=>∃ (k:Nat),k≤xs.length∧ρ 0=.sl (ns.map encInt)∧ρ 1=.sl (xs.map Go.Aw.D.encStr)∧ρ 18=.sl (xs.map Go.Aw.D.encStr)∧ρ 19=int xs.length∧ρ 20=int k∧∀ s∈xs.take k,rightR s=true,fun ρ _=>xs.length - natOf (ρ 20),
    ⟨0,Nat.zero_le _,by simp only [go_sem],by simp only [go_sem],by simp only [go_sem],by simp only [go_sem,List.length_map],by simp only [go_sem]; rfl,by simp⟩,?_⟩
  rintro ρ H ⟨k,hk,h0,h1,h18,h19,h20,hz⟩
  simp only [go_sem,h0,h1,h18,h19,h20]
  refine acond_i (fun hlt=>?_) (fun hge=>?_)
  · have hlt:=ltB hlt
    obtain ⟨s,hs0⟩:=getIn hlt
    have b1:=inB hlt
    simp only [go_sem,h0,h1,h18,h19,h20,getD_map hs0,b1]
    refine PC.use (right1_c s (hs s (List.mem_of_getElem? hs0))) ?_
    simp only [go_sem,h0,h1,h18,h19,h20]
    refine acond_i (fun hb=>?_) (fun hb=>?_)
    · simp only [go_sem]
      rw [if_pos (any_yes hs0 hb)]
      exact .refl _
    · simp only [go_sem,h0,h1,h18,h19,h20,wrapS (show k≤4611686018427387904 by omega)]
      exact ⟨⟨k + 1,hlt,rfl,take_all' hs0 (by simpa using hb) hz⟩,by simp only [natOf_int]; omega⟩
  have hge:=geB hk hge
  subst hge
  rw [List.take_length] at hz
  have hR:xs.any (fun s=>!rightR s)=false:=any_none fun s hs=>by rw [hz s hs]; rfl
  rw [hR]
  simp only [go_sem,h0,h1,List.length_map]
  refine ⟨fun ρ H=>∃ (k:Nat) (t:ByteArray),k≤xs.length∧ρ 0=.sl (ns.map encInt)∧ρ 28=.sl (xs.map Go.Aw.D.encStr)∧ρ 29=int xs.length∧ρ 8=str t∧ρ 30=int k∧t.size≤1048576∧timesF (ns.zip xs) (dec 0)=timesF ((ns.zip xs).drop k) t,fun ρ _=>xs.length - natOf (ρ 30),
    ⟨0,dec 0,Nat.zero_le _,by simp only [go_sem,h0],by simp only [go_sem],by simp only [go_sem,List.length_map],by simp only [go_sem]; rw [zero_lit],by simp only [go_sem]; rfl,by rw [← zero_lit]; decide,rfl⟩,?_⟩
  clear h0 h1 h18 h19 h20
  rintro ρ H ⟨k,t,hk,h0,h28,h29,h8,h30,ht,hinv⟩
  rw [hinv]
  have hzl:(ns.zip xs).length=xs.length:=by rw [List.length_zip]; omega
  simp only [go_sem,h0,h28,h29,h8,h30]
  refine acond_i (fun hlt=>?_) (fun hge=>?_)
  · have hlt:=ltB hlt
    obtain ⟨s,hs0⟩:=getIn hlt
    obtain ⟨n,hn0⟩:=getIn (l:=ns) (k:=k) (by omega)
    have b1:=inB hlt
    have b2:=inB (show k < ns.length by omega)
    have hss:=hs s (List.mem_of_getElem? hs0)
    have hnn:=hn n (List.mem_of_getElem? hn0)
    have hz0:(ns.zip xs)[k]?=some (n,s):=by rw [List.getElem?_zip_eq_some]; exact ⟨hn0,hs0⟩
    have hnm:n.natAbs < maxN:=lt_max (k:=20) (by omega) (by decide)
    have hzs:=Go.Nu.zed_size hnm
    rw [drop_at hz0,timesF]
    simp only [go_sem,h0,h28,h29,h8,h30,getD_map hs0,getD_map hn0,b1,b2]
    refine PC.use (rof_c n hnn.1 hnn.2) ?_
    simp only [go_sem,h0,h28,h29,h8,h30]
    refine PC.use (rMul_c (zed n) s (by omega) hss) ?_
    simp only [go_sem,h0,h28,h29,h8,h30]
    refine acond_i (fun hb=>?_) (fun hb=>?_)
    · have hb:(mulR (zed n) s).2≠0:=by simpa using hb
      simp only [go_sem]
      rw [if_pos hb]
      exact .refl _
    have hb:(mulR (zed n) s).2=0:=by simpa using hb
    have hm:=right_size' (mulR_small hb)
    rw [if_neg (by simp [hb])]
    generalize (mulR (zed n) s).1=m at *
    simp only [go_sem,h0,h28,h29,h8,h30]
    refine PC.use (rAdd_c t m ht (by omega)) ?_
    simp only [go_sem,h0,h28,h29,h8,h30]
    refine acond_i (fun hb2=>?_) (fun hb2=>?_)
    · have hb2:(addR t m).2≠0:=by simpa using hb2
      simp only [go_sem]
      rw [if_pos hb2]
      exact .refl _
    have hb2:(addR t m).2=0:=by simpa using hb2
    have ha:=right_size' (addR_small hb2)
    rw [if_neg (by simp [hb2])]
    simp only [go_sem,h0,h28,h29,h8,h30,wrapS (show k≤4611686018427387904 by omega)]
    exact ⟨⟨k + 1,_,hlt,rfl,rfl,by omega,rfl⟩,by simp only [natOf_int]; omega⟩
  · have hge:=geB hk hge
    subst hge
    rw [List.drop_of_length_le (by omega)]
    simp only [go_sem,h8]
    exact .refl _
end Go.Proofs.YtpddaldlebngaaaGreatDoor.Nu
end

section
set_option linter.unusedSimpArgs false
set_option linter.unusedVariables false
namespace Go.Proofs.YtpddaldlebngaaaGreatDoor.Nu
open Go.Aw Go.Aw.D Go.Proofs Ty Go.Nu
set_option maxRecDepth 100000
theorem reduced_c (n:Int) (d:Nat) (hd:d≠0) (hn:n.natAbs < maxN) (hdm:d < maxN):PC Tryz.prog 198 [str (zed n),str (dec d)] (str (ratS (mkRat n d))):=by
  have hg:=gcd_small (n:=n) hd hdm
  have hg0:=gcd_pos (n:=n) hd
  have hsm:=small_mk hd hn hdm
  have zn:=zed_size hn
  have zd:=dec_size hdm
  have eg:divZ (zed n) (dec (Nat.gcd n.natAbs d))=(zed (mkRat n d).num,zed (n.fmod (Nat.gcd n.natAbs d:Nat)),0):=by
    unfold divZ
    rw [← zed_nat,if_pos (errZ_zed hn (by rw [Int.natAbs_natCast]; exact hg)),valZ_zed,valZ_zed,if_neg (by omega),low_num hd]
  have ed:divZ (dec d) (dec (Nat.gcd n.natAbs d))=(dec (mkRat n d).den,zed ((d:Int).fmod (Nat.gcd n.natAbs d:Nat)),0):=by
    unfold divZ
    rw [← zed_nat,← zed_nat,if_pos (errZ_zed (by rw [Int.natAbs_natCast]; exact hdm) (by rw [Int.natAbs_natCast]; exact hg)),valZ_zed,valZ_zed,if_neg (by omega),low_den hd,zed_nat]
  have hE:errZ (zed n) (zed n)=0:=errZ_zed hn hn
  have ha:=abs3_c (zed n) zn
  rw [if_pos hE,valZ_zed] at ha
  have hsg:signZ (dec d)=1:=by
    unfold signZ
    rw [← zed_nat,if_pos (rightZ_zed _),valZ_zed,Int.sign_eq_one_of_pos (by omega)]
  have hs:=sign3_c (dec d) zd
  rw [hsg] at hs
  have hgc:=gcd2_c (dec n.natAbs) (dec d) (dec_size hn) zd
  rw [show gcdN (dec n.natAbs) (dec d)=(dec (Nat.gcd n.natAbs d),0) by unfold gcdN; rw [if_pos (errN_dec hn hdm),valN_dec,valN_dec,szN_ok hg]] at hgc
  refine PC.body (c:=Tryz.f198.body.getD .skip) (fun _=>false) mixed Tryz.func198 rfl (by kernel_rfl) ?_
  unfold Tryz.f198
  simp only [Option.getD_some]
  simp only [go_sem]
  refine PC.use hs ?_
  simp only [go_sem]
  refine acond_i (fun hb=>by cases hb) (fun _=>?_)
  simp only [go_sem]
  refine PC.use ha ?_
  simp only [go_sem]
  refine PC.use hgc ?_
  simp only [go_sem]
  refine PC.use (div3_c (zed n) (dec (Nat.gcd n.natAbs d)) zn (dec_size hg)) ?_
  rw [eg]
  simp only [go_sem]
  refine PC.use (div3_c (dec d) (dec (Nat.gcd n.natAbs d)) zd (dec_size hg)) ?_
  rw [ed]
  simp only [go_sem,eq_one]
  generalize mkRat n d=x at *
  refine acond_i (fun hb=>?_) (fun hb=>?_)
  · have h1:x.den=1:=dec_eq.1 (eqB_iff.1 hb)
    simp only [go_sem]
    rw [show ratS x=zed x.num from if_pos h1]
    exact .refl _
  · have h1:x.den≠1:=fun e=>eqB_no.1 hb (by rw [e])
    simp only [go_sem]
    have z1:=zed_size hsm.1
    have z2:=dec_size hsm.2
    have z3:(zed x.num ++ slB).size=(zed x.num).size + 1:=by rw [ByteArray.size_append]; rfl
    refine ⟨by show ((zed x.num).size + (1:Nat):Int)≤9223372036854775807; omega,?_⟩
    refine ⟨by show (((zed x.num).size + 1 + (dec x.den).size:Nat):Int)≤9223372036854775807; omega,?_⟩
    rw [show ratS x=zed x.num ++ slB ++ dec x.den from if_neg h1]
    exact .refl _
def fourL (a b:ByteArray):List AV:=if (rightR a && rightR b)=true then [str (numT a),str (denT a),str (numT b),str (denT b)] else [str emp,str emp,str emp,str emp]
def errR (a b:ByteArray):Int:=if (rightR a && rightR b)=true then 0 else 3
theorem both_c (a b:ByteArray) (ha:a.size≤1048576) (hb:b.size≤1048576):PC Tryz.prog 111 [str a,str b] (.tup [.agg (fourL a b),int (errR a b)]):=by
  have pa:=parts4_c a ha
  have pb:=parts4_c b hb
  refine PC.body (c:=Tryz.f111.body.getD .skip) (fun _=>false) mixed Tryz.func111 rfl (by kernel_rfl) ?_
  unfold Tryz.f111
  simp only [Option.getD_some]
  simp only [go_sem]
  refine anew_i fun j hj=>?_
  have R:=updH_same noRows j (some ⟨152,4,[[str emp,str emp,str emp,str emp]]⟩)
  have R:(updH noRows j (some { e:=152,sz:=4,es:=[[AV.v (Value.string ByteArray.empty),AV.v (Value.string ByteArray.empty),AV.v (Value.string ByteArray.empty),AV.v (Value.string ByteArray.empty)]] })) j=some ⟨152,4,[[str emp,str emp,str emp,str emp]]⟩:=R
  generalize updH noRows j _=H1 at R ⊢
  simp only [go_sem]
  refine PC.use pa ?_
  cases h1:rightR a with
  | false=>
    simp only [Bool.false_eq_true,if_false]
    simp only [go_sem]
    refine PC.use pb ?_
    have e1:fourL a b=[str emp,str emp,str emp,str emp]:=if_neg (by rw [h1]; simp)
    have e2:errR a b=3:=if_neg (by rw [h1]; simp)
    rw [e1,e2]
    cases h2:rightR b with
    | false=>
      simp only [Bool.false_eq_true,if_false]
      simp only [go_sem]
      refine acond_i (fun _=>?_) (fun hb=>by cases hb)
      simp only [go_sem]
      refine wputE_n R (by simp) ?_
      generalize hP:updH H1 j _=HP
      have R2:HP j=some (⟨152,4,[[str emp,str emp,str emp,str emp]]⟩:Row):=by rw [← hP,updH_same]; rfl
      simp only [go_sem,R2]
      exact .refl _
    | true=>
      simp only [if_true]
      simp only [go_sem]
      refine acond_i (fun _=>?_) (fun hb=>by cases hb)
      simp only [go_sem]
      refine wputE_n R (by simp) ?_
      generalize hP:updH H1 j _=HP
      have R2:HP j=some (⟨152,4,[[str emp,str emp,str emp,str emp]]⟩:Row):=by rw [← hP,updH_same]; rfl
      simp only [go_sem,R2]
      exact .refl _
  | true=>
    simp only [if_true]
    simp only [go_sem]
    refine PC.use pb ?_
    cases h2:rightR b with
    | false=>
      simp only [Bool.false_eq_true,if_false]
      simp only [go_sem]
      refine acond_i (fun _=>?_) (fun hb=>by cases hb)
      simp only [go_sem]
      rw [show fourL a b=[str emp,str emp,str emp,str emp] from if_neg (by rw [h1,h2]; simp),show errR a b=3 from if_neg (by rw [h1,h2]; simp)]
      refine wputE_n R (by simp) ?_
      generalize hP:updH H1 j _=HP
      have R2:HP j=some (⟨152,4,[[str emp,str emp,str emp,str emp]]⟩:Row):=by rw [← hP,updH_same]; rfl
      simp only [go_sem,R2]
      exact .refl _
    | true=>
      simp only [if_true]
      simp only [go_sem]
      refine acond_i (fun hb=>by cases hb) (fun _=>?_)
      simp only [go_sem]
      rw [show fourL a b=[str (numT a),str (denT a),str (numT b),str (denT b)] from if_pos (by rw [h1,h2]; rfl),show errR a b=0 from if_pos (by rw [h1,h2]; rfl)]
      refine wputE_n R (by simp) ?_
      generalize hP:updH H1 j _=HP
      have R2:HP j=some (⟨152,4,[[str (numT a),str (denT a),str (numT b),str (denT b)]]⟩:Row):=by rw [← hP,updH_same]; rfl
      simp only [go_sem,R2]
      exact .refl _
theorem over_c (x y:Rat) (hx:SmallR x) (hy:SmallR y):PC Tryz.prog 195 [str (zed x.num),str (zed y.num),str (dec x.den),str (dec y.den)] (.tup [str (prodR x y).1,int (prodR x y).2]):=by
  have xd:((x.den:Int)).natAbs < maxN:=by rw [Int.natAbs_natCast]; exact hx.2
  have yd:((y.den:Int)).natAbs < maxN:=by rw [Int.natAbs_natCast]; exact hy.2
  have m1:=mul3_c (zed x.num) (zed y.num) (zed_size hx.1) (zed_size hy.1)
  have m2:=mul3_c (zed x.den) (zed y.den) (zed_size xd) (zed_size yd)
  rw [mulZ_zed hx.1 hy.1] at m1
  rw [mulZ_zed xd yd,zed_nat,zed_nat] at m2
  unfold prodR
  refine PC.body (c:=Tryz.f195.body.getD .skip) (fun _=>false) mixed Tryz.func195 rfl (by kernel_rfl) ?_
  unfold Tryz.f195
  simp only [Option.getD_some]
  simp only [go_sem]
  refine PC.use m1 ?_
  simp only [go_sem]
  refine PC.use m2 ?_
  simp only [go_sem]
  cases h1:bigI (x.num * y.num) with
  | true=>
    rw [szZ_big h1]
    refine acond_i (fun _=>?_) (fun hb=>by cases hb)
    simp only [go_sem]
    exact .refl _
  | false=>
    rw [szZ_ok h1]
    cases h2:bigI ((x.den:Int) * y.den) with
    | true=>
      rw [szZ_big h2]
      refine acond_i (fun _=>?_) (fun hb=>by cases hb)
      simp only [go_sem]
      exact .refl _
    | false=>
      rw [szZ_ok h2]
      have hD:x.den * y.den < maxN:=by rw [← den_abs]; exact bigI_iff.1 h2
      have:=reduced_c (x.num * y.num) (x.den * y.den) (den_ne x y) (bigI_iff.1 h1) hD
      rw [← zed_nat,Int.natCast_mul] at this
      refine acond_i (fun hb=>by cases hb) (fun _=>?_)
      simp only [go_sem]
      refine PC.use this ?_
      simp only [go_sem]
      rw [← mul_mk]
      exact .refl _
theorem mul4_c (a b:ByteArray) (ha:a.size≤1048576) (hb:b.size≤1048576):PC Tryz.prog 153 [str a,str b] (.tup [str (mulR a b).1,int (mulR a b).2]):=by
  have htwo:=both_c a b ha hb
  by_cases hr:(rightR a && rightR b)=true
  rotate_left
  · rw [show fourL a b=_ from if_neg hr,show errR a b=_ from if_neg hr] at htwo
    rw [show mulR a b=(emp,3) from if_neg hr]
    refine PC.body (c:=Tryz.f153.body.getD .skip) (fun _=>false) mixed Tryz.func153 rfl (by kernel_rfl) ?_
    unfold Tryz.f153
    simp only [Option.getD_some]
    simp only [go_sem]
    refine PC.use htwo ?_
    simp only [go_sem]
    refine anew_i fun j hj=>?_
    simp only [go_sem]
    refine wputE_n (updH_same _ _ _) (by simp) ?_
    simp only [go_sem]
    refine acond_i (fun _=>?_) (fun hb=>by cases hb)
    simp only [go_sem]
    exact .refl _
  rw [show fourL a b=_ from if_pos hr,show errR a b=_ from if_pos hr] at htwo
  rw [show mulR a b=_ from if_pos hr]
  simp only [Bool.and_eq_true] at hr
  obtain ⟨x,rfl,hx,e1,e2⟩:=right_parts hr.1
  obtain ⟨y,rfl,hy,e3,e4⟩:=right_parts hr.2
  rw [e1,e2,e3,e4] at htwo
  rw [valR_ratS,valR_ratS]
  have ho:=over_c x y hx hy
  refine PC.body (c:=Tryz.f153.body.getD .skip) (fun _=>false) mixed Tryz.func153 rfl (by kernel_rfl) ?_
  unfold Tryz.f153
  simp only [Option.getD_some]
  simp only [go_sem]
  refine PC.use htwo ?_
  simp only [go_sem]
  refine anew_i fun j hj=>?_
  simp only [go_sem]
  refine wputE_n (updH_same _ _ _) (by simp) ?_
  generalize hP:updH (updH _ j _) j _=HP
  have R2:HP j=some (⟨152,4,[[str (zed x.num),str (dec x.den),str (zed y.num),str (dec y.den)]]⟩:Row):=by rw [← hP,updH_same]; rfl
  simp only [go_sem]
  refine acond_i (fun hb=>by cases hb) (fun _=>?_)
  simp only [go_sem,R2]
  repeat (refine ⟨by first | decide | omega,?_⟩)
  refine PC.use ho ?_
  simp only [go_sem]
  exact .refl _
theorem add4_c (a b:ByteArray) (ha:a.size≤1048576) (hb:b.size≤1048576):PC Tryz.prog 154 [str a,str b] (.tup [str (addR a b).1,int (addR a b).2]):=by
  have htwo:=both_c a b ha hb
  by_cases hr:(rightR a && rightR b)=true
  rotate_left
  · rw [show fourL a b=_ from if_neg hr,show errR a b=_ from if_neg hr] at htwo
    rw [show addR a b=(emp,3) from if_neg hr]
    refine PC.body (c:=Tryz.f154.body.getD .skip) (fun _=>false) mixed Tryz.func154 rfl (by kernel_rfl) ?_
    unfold Tryz.f154
    simp only [Option.getD_some]
    simp only [go_sem]
    refine PC.use htwo ?_
    simp only [go_sem]
    refine anew_i fun j hj=>?_
    simp only [go_sem]
    refine wputE_n (updH_same _ _ _) (by simp) ?_
    simp only [go_sem]
    refine acond_i (fun _=>?_) (fun hb=>by cases hb)
    simp only [go_sem]
    exact .refl _
  rw [show fourL a b=_ from if_pos hr,show errR a b=_ from if_pos hr] at htwo
  rw [show addR a b=_ from if_pos hr]
  simp only [Bool.and_eq_true] at hr
  obtain ⟨x,rfl,hx,e1,e2⟩:=right_parts hr.1
  obtain ⟨y,rfl,hy,e3,e4⟩:=right_parts hr.2
  rw [e1,e2,e3,e4] at htwo
  rw [valR_ratS,valR_ratS]
  have xd:((x.den:Int)).natAbs < maxN:=by rw [Int.natAbs_natCast]; exact hx.2
  have yd:((y.den:Int)).natAbs < maxN:=by rw [Int.natAbs_natCast]; exact hy.2
  have m1:=mul3_c (zed x.num) (zed y.den) (zed_size hx.1) (zed_size yd)
  have m2:=mul3_c (zed y.num) (zed x.den) (zed_size hy.1) (zed_size xd)
  have m3:=mul3_c (zed x.den) (zed y.den) (zed_size xd) (zed_size yd)
  rw [mulZ_zed hx.1 yd,zed_nat] at m1
  rw [mulZ_zed hy.1 xd,zed_nat] at m2
  rw [mulZ_zed xd yd,zed_nat,zed_nat] at m3
  unfold sumR
  refine PC.body (c:=Tryz.f154.body.getD .skip) (fun _=>false) mixed Tryz.func154 rfl (by kernel_rfl) ?_
  unfold Tryz.f154
  simp only [Option.getD_some]
  simp only [go_sem]
  refine PC.use htwo ?_
  simp only [go_sem]
  refine anew_i fun j hj=>?_
  simp only [go_sem]
  refine wputE_n (updH_same _ _ _) (by simp) ?_
  generalize hP:updH (updH _ j _) j _=HP
  have R2:HP j=some (⟨152,4,[[str (zed x.num),str (dec x.den),str (zed y.num),str (dec y.den)]]⟩:Row):=by rw [← hP,updH_same]; rfl
  simp only [go_sem]
  refine acond_i (fun hb=>by cases hb) (fun _=>?_)
  simp only [go_sem,R2]
  repeat (refine ⟨by first | decide | omega,?_⟩)
  refine PC.use m1 ?_
  simp only [go_sem,R2]
  repeat (refine ⟨by first | decide | omega,?_⟩)
  refine PC.use m2 ?_
  simp only [go_sem,R2]
  repeat (refine ⟨by first | decide | omega,?_⟩)
  refine PC.use m3 ?_
  simp only [go_sem]
  cases h1:bigI (x.num * y.den) with
  | true=>
    rw [szZ_big h1]
    refine acond_i (fun _=>?_) (fun hb=>by cases hb)
    simp only [go_sem]
    exact .refl _
  | false=>
  rw [szZ_ok h1]
  cases h2:bigI (y.num * x.den) with
  | true=>
    rw [szZ_big h2]
    refine acond_i (fun _=>?_) (fun hb=>by cases hb)
    simp only [go_sem]
    exact .refl _
  | false=>
  rw [szZ_ok h2]
  cases h3:bigI ((x.den:Int) * y.den) with
  | true=>
    rw [szZ_big h3]
    refine acond_i (fun _=>?_) (fun hb=>by cases hb)
    simp only [go_sem,Bool.or_true,if_true]
    exact .refl _
  | false=>
  rw [szZ_ok h3]
  refine acond_i (fun hb=>by cases hb) (fun _=>?_)
  simp only [go_sem]
  have m4:=add3_c (zed (x.num * y.den)) (zed (y.num * x.den)) (zed_size (bigI_iff.1 h1)) (zed_size (bigI_iff.1 h2))
  rw [addZ_zed (bigI_iff.1 h1) (bigI_iff.1 h2)] at m4
  refine PC.use m4 ?_
  simp only [go_sem]
  rw [add_mk]
  generalize x.num * y.den + y.num * x.den=N at *
  cases h4:bigI N with
  | true=>
    rw [szZ_big h4]
    refine acond_i (fun _=>?_) (fun hb=>by cases hb)
    simp only [go_sem]
    exact .refl _
  | false=>
  rw [szZ_ok h4]
  refine acond_i (fun hb=>by cases hb) (fun _=>?_)
  simp only [go_sem]
  have hD:x.den * y.den < maxN:=by rw [← den_abs]; exact bigI_iff.1 h3
  have:=reduced_c N (x.den * y.den) (den_ne x y) (bigI_iff.1 h4) hD
  rw [← zed_nat,Int.natCast_mul] at this
  refine PC.use this ?_
  simp only [go_sem]
  exact .refl _
end Go.Proofs.YtpddaldlebngaaaGreatDoor.Nu
end
