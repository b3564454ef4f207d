/- Texts joined by a program: NuU, NuV, NuW. -/
import Derived.Test.YtpddaldlebngaaaGreatDoorZp16

section
set_option linter.unusedSimpArgs false
set_option linter.unusedVariables false
namespace Go.Proofs.YtpddaldlebngaaaGreatDoor.Nu
open Go.Aw Go.Aw.D Go.Proofs Ty Go.Nu
set_option maxRecDepth 100000
theorem dec_mono {p q:Nat} (h:p≤q):(dec p).size≤(dec q).size:=by
  rw [size_dec,size_dec]
  rcases Nat.lt_or_ge (Lib.decDigits q).length (Lib.decDigits p).length with h1 | h1
  · exfalso
    have h2:=(dec_len_le (n:=q) (k:=(Lib.decDigits q).length) (dec_len_pos q)).1 (Nat.le_refl _)
    have:=(dec_len_le (n:=p) (k:=(Lib.decDigits q).length) (dec_len_pos q)).2 (by omega)
    omega
  · exact h1
theorem txt_snoc {d:Nat} (hd:d < 10) (o:List Nat):Lib.decDigits d ++ txt o=txt (o ++ [d]):=by
  rw [Lib.decDigits_one hd]
  simp [txt]
theorem all_dec (n:Nat):(bl (dec n)).all isD=true:=by rw [bl_dec]; exact dec_all n
theorem val_dl (n:Nat):ofL 10 (dl (bl (dec n)))=n:=by rw [ofL_dl,bl_dec,valL_dec]
theorem less2_c (m n:Nat) (h:n≤m) (hm:(dec m).size≤1048576):PC Tryz.prog 193 [str (dec m),str (dec n)] (str (dec (m - n))):=by
  have hmono:=dec_mono h
  have dm:=all_dec m
  have dn:=all_dec n
  have vm:=val_dl m
  have vn:=val_dl n
  have lm:=dl_lim dm
  have ln:=dl_lim dn
  have zm:=bl_size (dec m)
  have zn:=bl_size (dec n)
  have hpos:0 < (dec m).size:=by rw [size_dec]; exact dec_len_pos m
  have xl:(dl (bl (dec m))).length=(dec m).size:=by rw [dl_len]; omega
  have yl:(dl (bl (dec n))).length=(dec n).size:=by rw [dl_len]; omega
  refine PC.body (c:=Tryz.f193.body.getD .skip) (fun _=>false) mixed Tryz.func193 rfl (by kernel_rfl) ?_
  unfold Tryz.f193
  simp only [Option.getD_some]
  simp only [go_sem]
  refine ⟨fun ρ _=>∃ (i c:Nat) (t:ByteArray) (o:List Nat),i≤(dec m).size∧ρ 0=str (dec m)∧ρ 1=str (dec n)∧ρ 5=str t∧ρ 6=int c∧ρ 7=int i∧bl t=txt o∧Lim 10 o∧o.length=i∧c≤1∧ofL 10 o + ofL 10 ((dl (bl (dec n))).take i)=ofL 10 ((dl (bl (dec m))).take i) + 10 ^ i * c,fun ρ _=>(dec m).size - natOf (ρ 7),
    ⟨0,0,emp,[],Nat.zero_le _,rfl,rfl,rfl,rfl,rfl,rfl,by simp [Lim],rfl,by omega,by simp [ofL]⟩,?_⟩
  rintro ρ H ⟨i,c,t,o,hi,h0,h1,h5,h6,h7,hto,ho,hol,hc,hv⟩
  have ht:t.size=i:=by rw [← bl_size,hto]; simp [txt,hol]
  simp only [go_sem,h0,h1,h5,h6,h7]
  refine acond_i (fun hlt=>?_) (fun hge=>?_)
  · have hlt:=ltB hlt
    have hab:(dl (bl (dec m))).getD i 0 < 10:=lm.getD (by omega) i
    have hyb:(dl (bl (dec n))).getD i 0 < 10:=ln.getD (by omega) i
    have hd1:=minus_digit (b:=10) hab hyb hc
    have hd2:=minus_digit2 (b:=10) hab hyb hc
    have hst:=minus_step (b:=10) (x:=dl (bl (dec m))) (y:=dl (bl (dec n))) (c':=if (dl (bl (dec m))).getD i 0 < (dl (bl (dec n))).getD i 0 + c then 1 else 0) (d:=if (dl (bl (dec m))).getD i 0 < (dl (bl (dec n))).getD i 0 + c then (dl (bl (dec m))).getD i 0 + 10 - ((dl (bl (dec n))).getD i 0 + c) else (dl (bl (dec m))).getD i 0 - ((dl (bl (dec n))).getD i 0 + c)) hol hv hd2.1
    simp only [go_sem,h0,h1,h5,h6,h7]
    refine PC.use (digit2_c (dec m) dm i (by omega) (by omega)) ?_
    simp only [go_sem,h0,h1,h5,h6,h7]
    refine PC.use (digit2_c (dec n) dn i (by omega) (by omega)) ?_
    generalize (dl (bl (dec m))).getD i 0=a at *
    generalize (dl (bl (dec n))).getD i 0=yi at *
    have e1:IntKind.i64.wrap (IntKind.i64.wrap ((a:Int) - (yi:Int)) - (c:Int))=(a:Int) - yi - c:=by
      rw [show IntKind.i64.wrap ((a:Int) - (yi:Int))=(a:Int) - yi from wrap_in (by omega),wrap_in (by omega)]
    simp only [go_sem,h0,h1,h5,h6,h7,e1]
    refine acond_join (fun ρ' H'=>ρ' 0=str (dec m)∧ρ' 1=str (dec n)∧ρ' 5=str t∧ρ' 7=int i∧ρ' 8=int (if a < yi + c then a + 10 - (yi + c) else a - (yi + c):Nat)∧ρ' 6=int (if a < yi + c then 1 else 0:Nat)) ?_ fun K hK=>acond_i (fun hb=>?_) (fun hb=>?_)
    rotate_left
    · have hb:a < yi + c:=by simp at hb; omega
      have e2:IntKind.i64.wrap ((a:Int) - yi - c + 10)=((a + 10 - (yi + c):Nat):Int):=by rw [wrap_in (by omega)]; omega
      simp only [go_sem,h0,h1,h5,h6,h7,e2]
      exact hK _ _ ⟨by simp only [go_sem,h0],by simp only [go_sem,h1],by simp only [go_sem,h5],by simp only [go_sem,h7],by simp only [go_sem,if_pos hb],by simp only [go_sem,if_pos hb]; rfl⟩
    · have hb:¬ a < yi + c:=by simp at hb; omega
      simp only [go_sem,h0,h1,h5,h6,h7]
      refine hK _ _ ⟨by simp only [go_sem,h0],by simp only [go_sem,h1],by simp only [go_sem,h5],by simp only [go_sem,h7],?_,by simp only [go_sem,if_neg hb]; rfl⟩
      simp only [go_sem,if_neg hb]
      congr 2
      omega
    clear h0 h1 h5 h6 h7
    rintro ρ H ⟨h0,h1,h5,h7,h8,h6⟩
    simp only [go_sem,h0,h1,h5,h6,h7,h8]
    generalize (if a < yi + c then a + 10 - (yi + c) else a - (yi + c))=d at *
    refine PC.use (letter_c d hd2.2) ?_
    have hds:(dec d).size=1:=by rw [size_dec,dec_len_one]; exact hd2.2
    simp only [go_sem,h0,h1,h5,h6,h7,h8,wrapS (show i≤4611686018427387904 by omega)]
    refine ⟨by show (((dec d).size + t.size:Nat):Int)≤9223372036854775807; omega,?_⟩
    exact ⟨⟨i + 1,_,_,_,hlt,rfl,rfl,rfl,by rw [bl_append,bl_dec,hto,txt_snoc hd2.2],ho.snoc hd2.2,by simp [hol],by split <;> omega,hst⟩,by simp only [natOf_int]; omega⟩
  · have hge:=geB hi hge
    simp only [go_sem,h5]
    obtain ⟨_,hV⟩:=minus_end (b:=10) (y:=dl (bl (dec n))) (by decide) ho lm (by omega) (by omega) (by omega) hc (by rw [xl,← hge]; exact hv)
    refine PC.use (trim2_c t (by omega) (fun e=>by rw [← bl_size,e] at ht; simp at ht; omega) (by rw [hto]; exact txt_isD ho)) ?_
    simp only [go_sem]
    refine cS ?_
    unfold valN
    rw [hto,valL_txt ho,hV,vm,vn]
theorem cut_one {s:ByteArray} {k:Nat} {c:UInt8} (h:(bl s)[k]?=some c):bl (s.extract k (k + 1))=[c]:=by
  rw [bl_extract,take_succ h,List.drop_append_of_le_length (by simp; have:=(List.getElem?_eq_some_iff.1 h).1; omega)]
  simp
theorem cmpN_dec (m n:Nat):cmpN (dec m) (dec n)=cmpI m n:=by unfold cmpN; rw [rightN_dec,rightN_dec,valN_dec,valN_dec]; rfl
theorem cmpI_ge {m n:Nat}:decide (cmpI m n≥0)=decide (n≤m):=by
  unfold cmpI
  rw [decide_eq_decide]
  split
  · simp; omega
  · split <;> simp <;> omega
theorem dec_snoc (r:Nat) {c:UInt8} (hc:isD c=true) (s:ByteArray) (hs:bl s=[c]):(bl (dec r ++ s)).all isD=true∧bl (dec r ++ s)≠[]∧valN (dec r ++ s)=10 * r + (c.toNat - 48):=by
  refine ⟨?_,?_,?_⟩
  · rw [bl_append,hs,List.all_append,all_dec]
    simp [hc]
  · rw [bl_append,hs]; simp
  · unfold valN
    rw [bl_append,hs,valL_snoc,bl_dec,valL_dec]
theorem dec_tenK {K M R:Nat} (hM:M=10 ^ K) (hR:R < 10 * M):(dec R).size≤K + 1:=by
  subst hM
  rw [size_dec]
  exact (dec_len_le (k:=K + 1) (by omega)).2 (by rw [Nat.pow_succ,Nat.mul_comm]; exact hR)
theorem max_eq:∃ K,K=4096∧maxN=10 ^ K:=⟨maxD,rfl,by unfold maxN; rfl⟩
theorem dec_ten {R:Nat} (hR:R < 10 * maxN):(dec R).size≤4097:=by
  obtain ⟨K,hK,e⟩:=max_eq
  have:=dec_tenK e hR
  omega
def strN:AV→Nat
  | .v (.string s)=>valN s
  | _=>0
theorem strN_dec (n:Nat):strN (str (dec n))=n:=by show valN (dec n)=n; exact valN_dec n
theorem div2_c (a b:ByteArray) (ha:a.size≤1048576) (hb:b.size≤1048576):PC Tryz.prog 152 [str a,str b] (.tup [str (divN a b).1,str (divN a b).2.1,int (divN a b).2.2]):=by
  refine PC.body (c:=Tryz.f152.body.getD .skip) (fun _=>false) mixed Tryz.func152 rfl (by kernel_rfl) ?_
  unfold Tryz.f152
  simp only [Option.getD_some]
  simp only [go_sem]
  refine PC.use (wrong2_c a b ha hb) ?_
  simp only [go_sem]
  refine acond_i (fun h=>?_) (fun h=>?_)
  · have h:errN a b≠0:=by simpa using h
    simp only [go_sem]
    rw [show divN a b=(emp,emp,errN a b) from if_neg h]
    exact .refl _
  have h:errN a b=0:=by simpa using h
  obtain ⟨m,n,rfl,rfl,hm,hn⟩:=errN_zero h
  rw [show divN (dec m) (dec n)=if n=0 then (emp,emp,10) else (dec (m / n),dec (m % n),0) by unfold divN; rw [if_pos h,valN_dec,valN_dec]]
  simp only [go_sem,eq_zero]
  refine acond_i (fun h0=>?_) (fun h0=>?_)
  · have h0:n=0:=dec_eq.1 (eqB_iff.1 h0)
    simp only [go_sem]
    rw [if_pos h0]
    exact .refl _
  have h0:n≠0:=fun e=>eqB_no.1 h0 (by rw [e])
  rw [if_neg h0]
  have zm:=bl_size (dec m)
  have dm:=all_dec m
  have hpos:0 < (dec m).size:=by rw [size_dec]; exact dec_len_pos m
  simp only [go_sem]
  refine ⟨fun ρ _=>∃ (k r:Nat) (q:ByteArray),k≤(dec m).size∧ρ 0=str (dec m)∧ρ 1=str (dec n)∧ρ 8=str q∧ρ 9=str (dec r)∧ρ 10=int k∧q.size=k∧(bl q).all isD=true∧r < n∧valL ((bl (dec m)).take k)=valL (bl q) * n + r,fun ρ _=>(dec m).size - natOf (ρ 10),
    ⟨0,0,emp,Nat.zero_le _,by simp only [go_sem],by simp only [go_sem],by simp only [go_sem]; rfl,by simp only [go_sem]; rw [zero_lit],by simp only [go_sem]; rfl,rfl,rfl,by omega,by simp [valL,bl_emp]⟩,?_⟩
  rintro ρ H ⟨k,r,q,hk,h0',h1,h8,h9,h10,hq,hqd,hr,hv⟩
  simp only [go_sem,h0',h1,h8,h9,h10]
  refine acond_i (fun hlt=>?_) (fun hge=>?_)
  · have hlt:=ltB hlt
    obtain ⟨c,hc⟩:=getIn (l:=bl (dec m)) (k:=k) (by omega)
    have hcd:=List.all_eq_true.1 dm c (List.mem_of_getElem? hc)
    have hc1:=cut_one hc
    obtain ⟨d1,d2,d3⟩:=dec_snoc r hcd _ hc1
    have hc2:=isD_iff.1 hcd
    have hrs:=dec_size (Nat.lt_trans hr hn)
    have hes:((dec m).extract k (k + 1)).size=1:=by rw [← bl_size,hc1]; rfl
    simp only [go_sem,h0',h1,h8,h9,h10,wrapS (show k≤4611686018427387904 by omega),Int.toNat_natCast]
    refine ⟨⟨by omega,by omega,by omega⟩,by show (((dec r).size + ((dec m).extract k (k + 1)).size:Nat):Int)≤9223372036854775807; omega,?_⟩
    have hrs2:=(size_max r).2 (Nat.lt_trans hr hn)
    refine PC.use (trim2_c _ (by rw [ByteArray.size_append]; omega) d2 d1) ?_
    rw [d3]
    generalize hR:10 * r + (c.toNat - 48)=R
    have hRn:R < 10 * n:=by omega
    have hRs:=dec_ten (show R < 10 * maxN by omega)
    simp only [go_sem,h0',h1,h8,h10]
    refine ⟨fun ρ _=>∃ (d r':Nat),ρ 0=str (dec m)∧ρ 1=str (dec n)∧ρ 8=str q∧ρ 10=int k∧ρ 9=str (dec r')∧ρ 11=int d∧d * n + r'=R,fun ρ _=>strN (ρ 9),
      ⟨0,R,by simp only [go_sem,h0'],by simp only [go_sem,h1],by simp only [go_sem,h8],by simp only [go_sem,h10],by simp only [go_sem],by simp only [go_sem]; rfl,by omega⟩,?_⟩
    clear h0' h1 h8 h9 h10
    rintro ρ H ⟨d,r',h0',h1,h8,h10,h9,h11,hd⟩
    have hr's:=dec_mono (show r'≤R by omega)
    simp only [go_sem,h0',h1,h8,h9,h10,h11]
    refine PC.use (compare2_c (dec r') (dec n) (by omega) (dec_size hn)) ?_
    rw [cmpN_dec]
    simp only [go_sem,h0',h1,h8,h9,h10,h11,cmpI_ge]
    have hd10:d < 10:=by
      rcases Nat.lt_or_ge d 10 with h | h
      · exact h
      · have:=Nat.mul_le_mul_right n h
        omega
    have e0:∀ {x y:Nat},decide ((y:Int)≤(x:Int))=decide (y≤x):=fun {x y}=>by rw [decide_eq_decide]; omega
    refine acond_i (fun hge=>?_) (fun hlt2=>?_)
    · have hge:n≤r':=by have:=of_decide_eq_true hge; omega
      simp only [go_sem,h0',h1,h8,h9,h10,h11]
      refine PC.use (less2_c r' n hge (by omega)) ?_
      simp only [go_sem,h0',h1,h8,h9,h10,h11,wrapS (show d≤4611686018427387904 by omega)]
      refine ⟨⟨d + 1,r' - n,rfl,rfl,by rw [Nat.add_mul]; omega⟩,?_⟩
      rw [strN_dec,strN_dec]
      omega
    · have hlt2:r' < n:=by have:=of_decide_eq_false hlt2; omega
      simp only [go_sem,h0',h1,h8,h9,h10,h11]
      refine PC.use (letter_c d hd10) ?_
      have hds:(dec d).size=1:=by rw [size_dec,dec_len_one]; exact hd10
      simp only [go_sem,h0',h1,h8,h9,h10,h11,wrapS (show k≤4611686018427387904 by omega)]
      refine ⟨by show ((q.size + (dec d).size:Nat):Int)≤9223372036854775807; omega,?_⟩
      refine ⟨⟨k + 1,r',_,hlt,rfl,rfl,rfl,by rw [ByteArray.size_append]; omega,?_,hlt2,?_⟩,by simp only [natOf_int]; omega⟩
      · rw [bl_append,List.all_append,hqd,all_dec]; rfl
      · rw [take_succ hc,valL_snoc,hv,bl_append,bl_dec,Lib.decDigits_one hd10,valL_snoc,digit_nat hd10,show 48 + d - 48=d by omega,Nat.add_mul,Nat.mul_assoc]
        omega
  · have hge:=geB hk hge
    simp only [go_sem,h8,h9]
    refine PC.use (trim2_c q (by omega) (fun e=>by rw [← bl_size,e] at hq; simp at hq; omega) hqd) ?_
    simp only [go_sem,h8,h9]
    rw [hge,List.take_of_length_le (by omega),bl_dec,valL_dec] at hv
    have hv:m=valN q * n + r:=hv
    have hq2:m / n=valN q:=by
      rw [hv,Nat.add_comm,Nat.add_mul_div_right _ _ (by omega),Nat.div_eq_of_lt hr,Nat.zero_add]
    have hr2:m % n=r:=by
      rw [hv,Nat.add_comm,Nat.add_mul_mod_self_right,Nat.mod_eq_of_lt hr]
    rw [hq2,hr2]
    exact .refl _
theorem gcd2_c (a b:ByteArray) (ha:a.size≤1048576) (hb:b.size≤1048576):PC Tryz.prog 109 [str a,str b] (.tup [str (gcdN a b).1,int (gcdN a b).2]):=by
  refine PC.body (c:=Tryz.f109.body.getD .skip) (fun _=>false) mixed Tryz.func109 rfl (by kernel_rfl) ?_
  unfold Tryz.f109
  simp only [Option.getD_some]
  simp only [go_sem]
  refine PC.use (wrong2_c a b ha hb) ?_
  simp only [go_sem]
  refine acond_i (fun h=>?_) (fun h=>?_)
  · have h:errN a b≠0:=by simpa using h
    simp only [go_sem]
    rw [show gcdN a b=(emp,errN a b) from if_neg h]
    exact .refl _
  have h:errN a b=0:=by simpa using h
  obtain ⟨m,n,rfl,rfl,hm,hn⟩:=errN_zero h
  rw [show gcdN (dec m) (dec n)=szN (Nat.gcd m n) by unfold gcdN; rw [if_pos h,valN_dec,valN_dec]]
  simp only [go_sem]
  refine ⟨fun ρ _=>∃ (x y:Nat),ρ 0=str (dec x)∧ρ 1=str (dec y)∧x < maxN∧y < maxN∧Nat.gcd m n=Nat.gcd x y,fun ρ _=>strN (ρ 1),⟨m,n,by simp only [go_sem],by simp only [go_sem],hm,hn,rfl⟩,?_⟩
  rintro ρ H ⟨x,y,h0,h1,hx,hy,hg⟩
  simp only [go_sem,h0,h1,eq_zero]
  refine acond_i (fun hb=>?_) (fun hb=>?_)
  · have hy0 : y ≠ 0 := fun e => by
      rw [e,show eqB (dec 0) (dec 0)=true from eqB_iff.2 rfl] at hb
      cases hb
    simp only [go_sem,h0,h1]
    refine PC.use (div2_c (dec x) (dec y) (dec_size hx) (dec_size hy)) ?_
    rw [divN_dec hx hy hy0]
    simp only [go_sem,h0,h1]
    have hlt:=Nat.mod_lt x (show 0 < y by omega)
    refine ⟨⟨y,x % y,rfl,rfl,hy,by omega,?_⟩,by rw [strN_dec,strN_dec]; exact hlt⟩
    rw [hg,Nat.gcd_comm x y,Nat.gcd_rec y x,Nat.gcd_comm]
  · have hy0 : y = 0 := by
      have:eqB (dec y) (dec 0)=true:=by simpa using hb
      exact dec_eq.1 (eqB_iff.1 this)
    simp only [go_sem,h0]
    rw [hg,hy0,Nat.gcd_zero_right,szN_ok hx]
    exact .refl _
end Go.Proofs.YtpddaldlebngaaaGreatDoor.Nu
end

section
set_option linter.unusedSimpArgs false
set_option linter.unusedVariables false
namespace Go.Proofs.YtpddaldlebngaaaGreatDoor.Nu
open Go.Aw Go.Aw.D Go.Proofs Ty Go.Nu
set_option maxRecDepth 100000
theorem int_u8 (c d:UInt8):(((c.toNat:Nat):Int) == ((d.toNat:Nat):Int))=(c == d):=by
  rw [Bool.eq_iff_iff,beq_iff_eq,beq_iff_eq,Int.ofNat_inj,UInt8.toNat_inj]
theorem dash_int (s:ByteArray):(decide ((s.size:Int) > 0) && (((bl s).getD 0 0).toNat:Int) == 45)=minusZ s:=by
  rw [← bl_size]
  unfold minusZ
  cases bl s with
  | nil=>rfl
  | cons c r=>
    rw [show decide ((((c :: r).length:Nat):Int) > 0)=true by simp]
    simp only [List.getD_cons_zero,List.head?_cons,Bool.true_and]
    rw [show (some c == some (45:UInt8))=(c == 45) from rfl]
    exact int_u8 c 45
def stN (s:ByteArray):Nat:=if minusZ s=true then 1 else 0
theorem bl_digZ (s:ByteArray):bl (digZ s)=(bl s).drop (stN s):=by
  unfold digZ stN
  split
  · exact bl_mk _
  · rw [List.drop_zero]
theorem stN_le (s:ByteArray):stN s≤(bl s).length:=by
  unfold stN
  split
  · rename_i h
    unfold minusZ at h
    cases hb:bl s with
    | nil=>rw [hb] at h; cases h
    | cons c r=>simp
  · omega
theorem right3_plain {s:ByteArray} {c:UInt8} (h1:(bl s)[stN s]?=some c) (h2:((bl s).drop (stN s)).all isD=true):rightZ s=((c != 48) || bl s == [48]):=by
  obtain ⟨hk,hc⟩:=List.getElem?_eq_some_iff.1 h1
  have e1:bl (digZ s)=c :: (bl s).drop (stN s + 1):=by rw [bl_digZ,List.drop_eq_getElem_cons hk,hc]
  have e0:eqB (digZ s) (dec 0)=(c :: (bl s).drop (stN s + 1) == [48]):=by rw [← eq_zero,e1]
  have h2:(c :: (bl s).drop (stN s + 1)).all isD=true:=by rw [← e1,bl_digZ]; exact h2
  unfold rightZ rightN rightL
  rw [e0,e1]
  rw [h2,Bool.and_true,show ((c :: (bl s).drop (stN s + 1)) != [])=true from rfl,Bool.true_and,List.getD_cons_zero]
  by_cases hm:minusZ s=true
  · have e2 : (bl s == [48]) = false := by
      unfold minusZ at hm
      cases hb:bl s with
      | nil=>rw [hb] at hm; cases hm
      | cons x r=>
        rw [hb] at hm
        have:x=45:=by simpa using hm
        subst this
        rfl
    rw [hm,e2]
    cases hr:(bl s).drop (stN s + 1) with
    | nil=>cases h3:(c == 48) <;> simp [bne,h3] <;> simpa using h3
    | cons y r=>cases h3:(c == 48) <;> simp [bne,h3]
  · have hd:digZ s=s:=if_neg hm
    have hm:minusZ s=false:=by simpa using hm
    rw [hd] at e1
    rw [hm,Bool.false_and,Bool.not_false,Bool.and_true,show (bl s == [48])=(c :: (bl s).drop (stN s + 1) == [48]) by rw [← e1]]
    cases hr:(bl s).drop (stN s + 1) with
    | nil=>cases h3:(c == 48) <;> simp [bne,h3]
    | cons y r=>cases h3:(c == 48) <;> simp [bne,h3]
theorem right3_c (s:ByteArray) (h:s.size≤1048576):PC Tryz.prog 105 [str s] (boo (rightZ s)):=by
  have hs:=bl_size s
  have hst:=stN_le s
  refine PC.body (c:=Tryz.f105.body.getD .skip) (fun _=>false) mixed Tryz.func105 rfl (by kernel_rfl) ?_
  unfold Tryz.f105
  simp only [Option.getD_some]
  simp only [go_sem]
  refine ⟨fun h=>⟨by omega,by have:=of_decide_eq_true h; omega⟩,?_⟩
  rw [dash_int]
  refine acond_join (fun ρ' H'=>ρ' 0=str s∧ρ' 3=int (stN s:Nat)) ?_ fun K hK=>acond_i (fun hb=>?_) (fun hb=>?_)
  rotate_left
  · simp only [go_sem]
    exact hK _ _ ⟨by simp only [go_sem],by simp only [go_sem]; rw [show stN s=1 from if_pos hb]; rfl⟩
  · simp only [go_sem]
    exact hK _ _ ⟨by simp only [go_sem],by simp only [go_sem]; rw [show stN s=0 from if_neg (by rw [hb]; simp)]; rfl⟩
  rintro ρ H ⟨h0,h3⟩
  simp only [go_sem,h0,h3]
  refine acond_i (fun hb=>?_) (fun hb=>?_)
  · simp only [go_sem]
    refine cB ?_
    have he:s.size=stN s:=by rw [beq_iff_eq] at hb; omega
    unfold rightZ rightN rightL
    rw [bl_digZ,List.drop_of_length_le (by omega)]
    rfl
  have hne:stN s < (bl s).length:=by rw [beq_eq_false_iff_ne] at hb; omega
  simp only [go_sem,h0,h3]
  refine ⟨fun ρ _=>∃ k:Nat,stN s≤k∧k≤(bl s).length∧ρ 0=str s∧ρ 3=int (stN s:Nat)∧ρ 4=int k∧∀ c∈((bl s).take k).drop (stN s),isD c=true,fun ρ _=>(bl s).length - natOf (ρ 4),⟨stN s,Nat.le_refl _,by omega,by simp only [go_sem,h0],by simp only [go_sem,h3],by simp only [go_sem,h3],by rw [List.drop_of_length_le (by simp; omega)]; simp⟩,?_⟩
  clear h0 h3
  rintro ρ H ⟨k,hk1,hk,h0,h3,h4,hz⟩
  simp only [go_sem,h0,h3,h4]
  refine acond_i (fun hlt=>?_) (fun hge=>?_)
  · have hlt:k < (bl s).length:=by have:=ltB hlt; omega
    obtain ⟨c,hc⟩:=getIn hlt
    have hi:=getD_at hc
    simp only [go_sem,h0,h3,h4,hi,isD_int]
    have hnew:((bl s).take (k + 1)).drop (stN s)=((bl s).take k).drop (stN s) ++ [c]:=by
      rw [take_succ hc,List.drop_append_of_le_length (by rw [List.length_take]; omega)]
    refine ⟨⟨by omega,by omega⟩,fun _=>⟨by omega,by omega⟩,acond_i (fun hb2=>?_) (fun hb2=>?_)⟩
    · simp only [go_sem]
      refine cB ?_
      unfold rightZ rightN rightL
      rw [bl_digZ]
      rw [all_no (k:=k - stN s) (c:=c) (by rw [List.getElem?_drop,show stN s + (k - stN s)=k by omega]; exact hc) (by simpa using hb2)]
      simp
    · simp only [go_sem,h0,h3,h4,wrapS (show k≤4611686018427387904 by omega)]
      refine ⟨⟨k + 1,by omega,hlt,rfl,?_⟩,by simp only [natOf_int]; omega⟩
      rw [hnew]
      intro x hx
      rcases List.mem_append.1 hx with hx | hx
      · exact hz x hx
      · rw [List.mem_singleton.1 hx]; simpa using hb2
  · have hge:k=(bl s).length:=by rw [← hs] at hge; exact geB hk hge
    subst hge
    rw [List.take_length] at hz
    obtain ⟨c,hc⟩:=getIn hne
    simp only [go_sem,h0,h3,h4,getD_at hc]
    refine ⟨⟨by omega,by omega⟩,?_⟩
    refine cB ?_
    rw [right3_plain hc (all_yes hz)]
    congr 1
    rw [bne,bne,← int_u8 c 48]
    rfl
theorem digits3_c (s:ByteArray) (h:s.size≤1048576):PC Tryz.prog 189 [str s] (int (digZ s).size):=by
  have hs:=bl_size s
  refine PC.body (c:=Tryz.f189.body.getD .skip) (fun _=>false) mixed Tryz.func189 rfl (by kernel_rfl) ?_
  unfold Tryz.f189
  simp only [Option.getD_some]
  simp only [go_sem]
  refine ⟨fun h=>⟨by omega,by have:=of_decide_eq_true h; omega⟩,?_⟩
  rw [dash_int]
  have hd:(digZ s).size=s.size - stN s:=by rw [← bl_size,bl_digZ,List.length_drop,hs]
  have hst:=stN_le s
  refine acond_i (fun hb=>?_) (fun hb=>?_)
  · have:stN s=1:=if_pos hb
    simp only [go_sem]
    refine cI ?_
    rw [wrap_in (by omega)]; omega
  · have:stN s=0:=if_neg (by rw [hb]; simp)
    simp only [go_sem]
    exact cI (by omega)
theorem check3_c (a b:ByteArray) (ha:a.size≤1048576) (hb:b.size≤1048576):PC Tryz.prog 148 [str a,str b] (int (errZ a b)):=by
  refine PC.body (c:=Tryz.f148.body.getD .skip) (fun _=>false) mixed Tryz.func148 rfl (by kernel_rfl) ?_
  unfold Tryz.f148
  simp only [Option.getD_some]
  simp only [go_sem]
  refine PC.use (right3_c a (by omega)) ?_
  simp only [go_sem]
  refine ⟨_,fun _=>(right3_c b (by omega)).q rfl,?_⟩
  simp only [go_sem]
  unfold errZ
  refine acond_i (fun hc=>?_) (fun hc=>?_)
  · simp only [go_sem]
    exact cI (by rw [if_pos hc])
  · simp only [go_sem]
    refine PC.use (digits3_c a ha) ?_
    simp only [go_sem]
    refine ⟨_,fun _=>(digits3_c b hb).q rfl,?_⟩
    simp only [go_sem]
    have e1:decide (((digZ a).size:Int) > 4096)=decide ((digZ a).size > 4096):=by rw [decide_eq_decide]; omega
    have e2:decide (((digZ b).size:Int) > 4096)=decide ((digZ b).size > 4096):=by rw [decide_eq_decide]; omega
    rw [if_neg (by rw [hc]; simp),e1,e2]
    refine acond_i (fun hd=>?_) (fun hd=>?_)
    · simp only [go_sem]
      exact cI (by rw [if_pos hd])
    · simp only [go_sem]
      exact cI (by rw [if_neg (by rw [hd]; simp)])
theorem szZ_big' {n:Int} (h:(!decide (n.natAbs < maxN))=true):szZ n=(emp,4):=if_neg (fun h2=>by rw [decide_eq_true h2] at h; cases h)
theorem result3_c (n:Int) (h:(zed n).size≤1048576):PC Tryz.prog 225 [str (zed n)] (.tup [str (szZ n).1,int (szZ n).2]):=by
  refine PC.body (c:=Tryz.f225.body.getD .skip) (fun _=>false) mixed Tryz.func225 rfl (by kernel_rfl) ?_
  unfold Tryz.f225
  simp only [Option.getD_some]
  simp only [go_sem]
  refine PC.use (digits3_c (zed n) h) ?_
  simp only [go_sem]
  have e1:decide (((digZ (zed n)).size:Int) > 4096)=!decide (n.natAbs < maxN):=by
    rw [← decide_not,decide_eq_decide]
    have:=digZ_size n
    omega
  rw [e1]
  refine acond_i (fun hd=>?_) (fun hd=>?_)
  · simp only [go_sem]
    rw [szZ_big' hd]
    exact .refl _
  · simp only [go_sem]
    rw [show szZ n=(zed n,0) from if_pos (by simpa using hd)]
    exact .refl _
theorem trim3_c (l:List Nat) (h:l.length≤4611686018427387904):PC Tryz.prog 190 [.sl (l.map encN)] (.sl ((trimL l).map encN)):=by
  refine PC.body (c:=Tryz.f190.body.getD .skip) (fun _=>false) mixed Tryz.func190 rfl (by kernel_rfl) ?_
  unfold Tryz.f190
  simp only [Option.getD_some]
  simp only [go_sem]
  refine ⟨fun ρ _=>∃ k:Nat,k≤l.length∧ρ 0=.sl (l.map encN)∧ρ 3=int k∧trimL (l.take k)=trimL l,fun ρ _=>natOf (ρ 3),⟨l.length,Nat.le_refl _,by simp only [go_sem],by simp only [go_sem,List.length_map],by rw [List.take_length]⟩,?_⟩
  rintro ρ H ⟨k,hk,h0,h3,hz⟩
  cases k with
  | zero=>
    have hz':trimL l=[]:=by rw [← hz]; rfl
    have e0:(IntKind.i64.wrap (((0:Nat):Int) - 1)).toNat=0:=rfl
    rw [hz']
    cases l with
    | nil=>
      simp only [go_sem,h0,h3,e0,List.map_nil,List.getD_nil,show decide (((0:Nat):Int) > 0)=false from rfl]
      refine acond_i (fun hb=>by cases hb) (fun _=>?_)
      simp only [go_sem,h0,h3]
      exact ⟨⟨by omega,by omega⟩,.refl _⟩
    | cons x l=>
      simp only [go_sem,h0,h3,e0,List.map_cons,List.getD_cons_zero,show decide (((0:Nat):Int) > 0)=false from rfl]
      refine acond_i (fun hb=>by cases hb) (fun _=>?_)
      simp only [go_sem,h0,h3]
      exact ⟨⟨by omega,by omega⟩,.refl _⟩
  | succ k=>
  have b1:IntKind.i64.wrap (((k + 1:Nat):Int) - 1)=(k:Int):=by rw [wrap_in (by omega)]; omega
  obtain ⟨x,hx⟩:=getIn (show k < l.length by omega)
  have e1:l.take (k + 1)=l.take k ++ [x]:=take_succ hx
  have b2:=inB (show k < l.length by omega)
  simp only [go_sem,h0,h3,b1,getD_map hx,b2,show decide (((k + 1:Nat):Int) > 0)=true from decide_eq_true (by omega)]
  refine acond_i (fun hb=>?_) (fun hb=>?_)
  · have hx0:x=0:=by simpa using hb
    simp only [go_sem,h0,h3,b1]
    refine ⟨⟨k,by omega,rfl,?_⟩,?_⟩
    · rw [e1,trim_snoc,if_pos hx0] at hz; exact hz
    · simp only [natOf_int]; omega
  · have hx0:x≠0:=by simpa using hb
    simp only [go_sem,h0,h3]
    rw [e1,trim_snoc,if_neg hx0] at hz
    rw [← List.map_take,e1,hz]
    exact ⟨⟨by omega,by omega⟩,.refl _⟩
theorem digit3_c (l:List Nat) (i:Nat) (hi:i≤4611686018427387904) (h:l.length≤4611686018427387904):PC Tryz.prog 230 [.sl (l.map encN),int i] (int (l.getD i 0:Nat)):=by
  refine PC.body (c:=Tryz.f230.body.getD .skip) (fun _=>false) mixed Tryz.func230 rfl (by kernel_rfl) ?_
  unfold Tryz.f230
  simp only [Option.getD_some]
  simp only [go_sem]
  refine acond_i (fun hb=>?_) (fun hb=>?_)
  · have hb:i < l.length:=by simpa using hb
    obtain ⟨x,hx⟩:=getIn hb
    have b1:=inB hb
    simp only [go_sem,getD_map hx,b1]
    exact cI (by simp [List.getD,hx])
  · have hb:l.length≤i:=by simpa using hb
    simp only [go_sem]
    exact cI (by simp [List.getD,List.getElem?_eq_none hb])
end Go.Proofs.YtpddaldlebngaaaGreatDoor.Nu
end

section
set_option linter.unusedSimpArgs false
set_option linter.unusedVariables false
namespace Go.Proofs.YtpddaldlebngaaaGreatDoor.Nu
open Go.Aw Go.Aw.D Go.Proofs Ty Go.Nu
set_option maxRecDepth 100000
abbrev dg (n:Nat):AV:=.sl ((limbs 10 n).map encN)
theorem trimD {l:List Nat} (hl:Lim 10 l) (h:l.length≤4611686018427387904) {n:Nat} (hn:ofL 10 l=n):PC Tryz.prog 190 [.sl (l.map encN)] (dg n):=by
  have:=trim3_c l h
  rwa [trim_of (by decide) hl hn] at this
def upN:AV→Nat
  | .v (.int _ n)=>(n + 1).toNat
  | _=>0
theorem upN_int (k:IntKind) (n:Int):upN (.v (.int k n))=(n + 1).toNat:=(rfl)
theorem dl_cons (c:UInt8) (l:List UInt8):dl (c :: l)=dl l ++ [c.toNat - 48]:=by simp [dl]
theorem wrapD {k:Nat} (h:k≤4611686018427387904):IntKind.i64.wrap ((k:Int) - 1 - 1)=(k:Int) - 1 - 1:=wrap_in (by omega)
theorem parts3_c (n:Int) (h:(zed n).size≤1048576):PC Tryz.prog 149 [str (zed n)] (.tup [boo (decide (n < 0)),dg n.natAbs]):=by
  have hs:=bl_size (zed n)
  have hr:rightN (digZ (zed n))=true:=by rw [digZ_zed]; exact rightN_dec _
  have hbd:=bl_digZ (zed n)
  have hst:=stN_le (zed n)
  have hall:((bl (zed n)).drop (stN (zed n))).all isD=true:=by rw [← hbd,digZ_zed]; exact all_dec _
  have hlen:stN (zed n) < (bl (zed n)).length:=by
    have h1:0 < (bl (digZ (zed n))).length:=by rw [digZ_zed,bl_dec]; exact dec_len_pos _
    rw [hbd,List.length_drop] at h1
    omega
  have hm:(((((bl (zed n)).getD 0 0).toNat:Nat):Int) == 45)=minusZ (zed n):=by
    rw [← dash_int,show decide (((zed n).size:Int) > 0)=true by simp; omega,Bool.true_and]
  refine PC.body (c:=Tryz.f149.body.getD .skip) (fun t=>t == 4) mixed Tryz.func149 rfl (by kernel_rfl) ?_
  unfold Tryz.f149
  simp only [Option.getD_some]
  simp only [go_sem]
  refine anew_i fun j hj=>?_
  simp only [go_sem,hm]
  refine ⟨⟨by omega,by omega⟩,?_⟩
  refine ⟨fun ρ H=>∃ (k j:Nat),k≤(bl (zed n)).length∧ρ 0=str (zed n)∧ρ 5=boo (minusZ (zed n))∧ρ 4=.os j∧ρ 6=int ((k:Int) - 1)∧H j=some (numRow (dl ((bl (zed n)).drop (max k (stN (zed n)))))),fun ρ _=>upN (ρ 6),
    ⟨(bl (zed n)).length,j,Nat.le_refl _,by simp only [go_sem],by simp only [go_sem],by simp only [go_sem],by simp only [go_sem]; rw [hs,wrap_in (by omega)],?_⟩,?_⟩
  · rw [updH_same,List.drop_of_length_le (by omega)]; rfl
  clear hj j
  rintro ρ H ⟨k,j,hk,h0,h5,h4,h6,Rj⟩
  simp only [go_sem,h0,h5,h4,h6]
  refine acond_i (fun hge=>?_) (fun hlt=>?_)
  · have hge:0 < k:=by have:=of_decide_eq_true hge; omega
    obtain ⟨c,hc⟩:=getIn (l:=bl (zed n)) (k:=k - 1) (by omega)
    have ei:((k:Int) - 1).toNat=k - 1:=by omega
    have hdc:(bl (zed n)).drop (k - 1)=c :: (bl (zed n)).drop k:=by
      obtain ⟨hk2,e⟩:=List.getElem?_eq_some_iff.1 hc
      rw [List.drop_eq_getElem_cons hk2,e,show k - 1 + 1=k by omega]
    simp only [go_sem,h0,h5,h4,h6,ei,getD_at hc]
    refine ⟨⟨by omega,by omega⟩,?_⟩
    by_cases hks:k - 1 < stN (zed n)
    · have hm1 : minusZ (zed n) = true := by
        unfold stN at hks
        split at hks
        · assumption
        · omega
      have hst1:stN (zed n)=1:=if_pos hm1
      have hk1:k=1:=by omega
      subst hk1
      have hc45:c=45:=by
        unfold minusZ at hm1
        cases hb:bl (zed n) with
        | nil=>rw [hb] at hm1; cases hm1
        | cons x r=>
          rw [hb] at hm1 hc
          have h1:x=45:=by simpa using hm1
          have h2:x=c:=by simpa using hc
          rw [← h2,h1]
      subst hc45
      refine acond_i (fun hb=>by cases hb) (fun _=>?_)
      simp only [go_sem,h0,h5,h4,h6]
      refine ⟨⟨0,j,by omega,rfl,rfl,?_⟩,?_⟩
      · rw [Rj,hst1]; rfl
      · simp only [upN_int]; decide
    · have hcd : isD c = true := List.all_eq_true.1 hall c (by
        refine List.mem_of_getElem? (i:=k - 1 - stN (zed n)) ?_
        rw [List.getElem?_drop,show stN (zed n) + (k - 1 - stN (zed n))=k - 1 by omega]
        exact hc)
      have hc2:=isD_iff.1 hcd
      refine acond_i (fun _=>?_) (fun hb=>?_)
      rotate_left
      · exfalso
        have:c.toNat=45:=by
          have:((c.toNat:Int) != 45)=false:=hb
          rw [bne_eq_false_iff_eq] at this
          omega
        omega
      simp only [go_sem,h0,h5,h4,h6,ei,getD_at hc]
      refine ⟨⟨by omega,by omega⟩,?_⟩
      have hcw:IntKind.i64.wrap (IntKind.u8.wrap ((c.toNat:Int) - 48))=((c.toNat - 48:Nat):Int):=by rw [u8w hc2.1 (by omega),wrap_in (by omega)]
      rw [hcw]
      refine wappE_i Rj ⟨rfl,rfl⟩ ⟨rfl,trivial⟩ (by simp only [numRow,List.length_map,dl_len,List.length_drop,List.length_cons,List.length_nil]; omega) (fun j' hj'=>?_)
      simp only [go_sem,h0,h5,h4,h6,wrapD (show k≤4611686018427387904 by omega)]
      refine ⟨⟨k - 1,j',by omega,rfl,?_,?_⟩,?_⟩
      · rw [show (k:Int) - 1 - 1=((k - 1:Nat):Int) - 1 by omega]
      · rw [show max k (stN (zed n))=k by omega,show max (k - 1) (stN (zed n))=k - 1 by omega,hdc,dl_cons]
        exact row_snoc
      · simp only [upN_int]; omega
  · have hge:k=0:=by have:=of_decide_eq_false hlt; omega
    subst hge
    simp only [go_sem,h5,h4]
    rw [Nat.max_eq_right (by omega)] at Rj
    have hlim:=dl_lim hall
    refine PC.useF [j] (.cons _ _ _ _ (.row _ _ _ (by simp only [List.mem_singleton,if_true]; exact Rj) (ConvE.refl _)) .nil) (trimD (n:=n.natAbs) hlim (by rw [dl_len,List.length_drop]; omega) (by rw [ofL_dl,← hbd,digZ_zed,bl_dec,valL_dec])) ?_
    simp only [go_sem,minusZ_zed]
    exact .refl _
def byRow (l:List UInt8):Row:=⟨5,1,l.map fun c=>[.v (.int .u8 (c.toNat:Nat))]⟩
theorem nums_map (l:List UInt8):numsOf (l.map fun c=>[.v (.int .u8 (c.toNat:Nat))])=some (l.map fun c=>((c.toNat:Nat):Int)):=by
  induction l with
  | nil=>rfl
  | cons c l ih=>simp only [List.map_cons,numsOf,ih,Option.map_some]
theorem strOf_map (l:List UInt8):bl (strOfNums (l.map fun c=>((c.toNat:Nat):Int)))=l:=by
  rw [strOfNums,bl_mk,List.map_map]
  conv=>rhs; rw [← List.map_id l]
  refine List.map_congr_left fun c _=>?_
  simp
theorem text3_c (m:Bool) (l:List Nat) (hl:Lim 10 l) (h:l.length≤1048576):PC Tryz.prog 150 [boo m,.sl (l.map encN)] (str (zed (sg m (ofL 10 l)))):=by
  have htr:=trimD hl (by omega) rfl
  have hlim:=limbs_lim (b:=10) (by decide) (ofL 10 l)
  have hll:(limbs 10 (ofL 10 l)).length≤l.length:=limbs_len_le (by decide) (ofL_lt (by decide) hl)
  have hval:=ofL_limbs (b:=10) (by decide) (ofL 10 l)
  refine PC.body (c:=Tryz.f150.body.getD .skip) (fun t=>t == 5 || t == 32) mixed Tryz.func150 rfl (by kernel_rfl) ?_
  unfold Tryz.f150
  simp only [Option.getD_some]
  simp only [go_sem]
  refine PC.use htr ?_
  generalize ofL 10 l=n at *
  simp only [go_sem,List.length_map]
  refine acond_i (fun hb=>?_) (fun hb=>?_)
  · have h0 : n = 0 := by
      have:(limbs 10 n).length=0:=by rw [beq_iff_eq] at hb; omega
      exact (limbs_nil (by decide)).1 (List.length_eq_zero_iff.1 this)
    simp only [go_sem]
    refine cS ?_
    rw [h0,zero_lit]
    unfold sg
    split <;> exact (zed_nat 0).symm
  have h0:n≠0:=fun e=>by rw [e,limbs_zero] at hb; cases hb
  simp only [go_sem]
  refine anew_i fun j hj=>?_
  simp only [go_sem]
  refine acond_join (fun ρ' H'=>∃ j,ρ' 1=dg n∧ρ' 5=.os j∧H' j=some (byRow (if m=true then [45] else []))) ?_ fun K hK=>acond_i (fun hb=>?_) (fun hb=>?_)
  rotate_left
  · simp only [go_sem]
    refine wappE_i (updH_same _ _ _) ⟨rfl,rfl⟩ ⟨rfl,trivial⟩ (by simp) (fun j' hj'=>?_)
    simp only [go_sem]
    exact hK _ _ ⟨j',by simp only [go_sem],by simp only [go_sem],by rw [updH_same,if_pos hb]; rfl⟩
  · simp only [go_sem]
    exact hK _ _ ⟨j,by simp only [go_sem],by simp only [go_sem],by rw [updH_same,if_neg (by rw [hb]; simp)]; rfl⟩
  clear hj j
  rintro ρ H ⟨j,h1,h5,Rj⟩
  simp only [go_sem,h1,h5,List.length_map]
  refine ⟨fun ρ H=>∃ (k j:Nat),k≤(limbs 10 n).length∧ρ 1=dg n∧ρ 5=.os j∧ρ 6=int ((k:Int) - 1)∧H j=some (byRow ((if m=true then [45] else []) ++ txt ((limbs 10 n).drop k))),fun ρ _=>upN (ρ 6),
    ⟨(limbs 10 n).length,j,Nat.le_refl _,by simp only [go_sem,h1],by simp only [go_sem,h5],by simp only [go_sem,h1,List.length_map]; rw [wrap_in (by omega)],by rw [List.drop_length]; simpa [txt] using Rj⟩,?_⟩
  clear h1 h5 Rj j
  rintro ρ H ⟨k,j,hk,h1,h5,h6,Rj⟩
  simp only [go_sem,h1,h5,h6]
  refine acond_i (fun hge=>?_) (fun hlt=>?_)
  · have hge:0 < k:=by have:=of_decide_eq_true hge; omega
    obtain ⟨x,hx⟩:=getIn (l:=limbs 10 n) (k:=k - 1) (by omega)
    have ei:((k:Int) - 1).toNat=k - 1:=by omega
    have hxl:x < 10:=hlim x (List.mem_of_getElem? hx)
    have hdc:(limbs 10 n).drop (k - 1)=x :: (limbs 10 n).drop k:=by
      obtain ⟨hk2,e⟩:=List.getElem?_eq_some_iff.1 hx
      rw [List.drop_eq_getElem_cons hk2,e,show k - 1 + 1=k by omega]
    have b1:0≤(k:Int) - 1∧(k:Int) - 1 < ((limbs 10 n).length:Nat):=by omega
    simp only [go_sem,h1,h5,h6,ei,getD_map hx,b1,List.length_map]
    have ew:IntKind.u8.wrap (IntKind.i64.wrap (48 + (x:Int)))=(((UInt8.ofNat (48 + x)).toNat:Nat):Int):=by
      rw [digit_nat hxl,show IntKind.i64.wrap (48 + (x:Int))=48 + (x:Int) from wrap_in (by omega),show IntKind.u8.wrap (48 + (x:Int))=(48 + (x:Int)) % 256 from rfl]
      omega
    rw [ew]
    have hel:∀ (p q:List UInt8),(byRow (p ++ q)).es.length=p.length + q.length:=fun p q=>by simp [byRow]
    refine wappE_i Rj ⟨rfl,rfl⟩ ⟨rfl,trivial⟩ ?_ (fun j' hj'=>?_)
    · rw [hel]
      have h2:(if m=true then [45] else []:List UInt8).length≤1:=by split <;> simp
      simp only [txt,List.length_reverse,List.length_map,List.length_drop,List.length_cons,List.length_nil]
      omega
    simp only [go_sem,h1,h5,h6,wrapD (show k≤4611686018427387904 by omega)]
    refine ⟨⟨k - 1,j',by omega,rfl,?_,?_⟩,?_⟩
    · rw [show (k:Int) - 1 - 1=((k - 1:Nat):Int) - 1 by omega]
    · rw [updH_same,hdc]
      simp only [byRow,txt,List.map_cons,List.reverse_cons,List.map_append,List.map_nil,List.append_assoc]
    · simp only [upN_int]; omega
  · have hge:k=0:=by have:=of_decide_eq_false hlt; omega
    subst hge
    simp only [go_sem,h5]
    refine afreeze_i (by simp only [go_sem,h5]) Rj fun Hr _ _=>?_
    simp only [go_sem,byRow,nums_map]
    refine cS (bl_ext ?_)
    rw [strOf_map,txt_limbs h0]
    unfold sg
    cases m with
    | true=>rw [if_pos rfl,if_pos rfl,zed_neg (by omega),bl_mk]; rfl
    | false=>rw [if_neg (by simp),if_neg (by simp),zed_nat,bl_dec]; rfl
end Go.Proofs.YtpddaldlebngaaaGreatDoor.Nu
end
