/- Texts joined by a program: NuI, Shelf, NuS. -/
import Derived.Shelf.Strings.Builder1
import Derived.Shelf.Strings.Builder2
import Derived.Shelf.Small.Strs
import Derived.Shelf.Small.Wraps
import Derived.Shelf.Strings.BuilderF
import Derived.Shelf.Strings.BuilderK
import Derived.Shelf.Strings.Builder2Cap
import Derived.Shelf.Strconv.Itoa0
import Derived.Shelf.Strconv.Itoa1
import Derived.Shelf.LaysM
import Derived.Shelf.Strconv.Itoa2
import Derived.Shelf.Strconv.Itoa3
import Derived.Shelf.Strings.Search1
import Derived.Shelf.Strings.Search2
import Derived.Shelf.Strings.Search3
import Derived.Shelf.Strings.Cut
import Derived.Shelf.Strings.Shaped
import Derived.Shelf.Strings.Prefix
import Derived.Shelf.Bits.Mul64
import Derived.Shelf.Strings.Repeat
import Derived.Shelf.Strings.BuilderCap
import Derived.Ground.Names2Prog
import Derived.Shelf.Slices.SearchI
import Derived.Test.YtpddaldlebngaaaGreatDoorProg
import Derived.WalkKit
import Derived.BigCall
import Derived.Deep.LoopGhost
import Derived.Deep.DeepFit
import Derived.Lib.SmallJoins
import Derived.Test.YtpddaldlebngaaaGreatDoorZp13

section
set_option linter.unusedSimpArgs false
set_option linter.unusedVariables false
namespace Go.Proofs.YtpddaldlebngaaaGreatDoor.Nu
open Go.Aw Go.Aw.D Go.Proofs Ty Go.Nu
set_option maxRecDepth 100000
theorem set_row {qs:List Nat} {k v q:Nat} (h:qs[k]?=some v):({ numRow qs with es:=(numRow qs).es.set k (setAt ((numRow qs).es.getD k []) 0 [int (q:Int)]) }:Row)=numRow (qs.set k q):=by
  simp only [numRow,getD_map h,List.map_set]
  rfl
theorem divide_c (m n:Nat) (hm:(limbs bas m).length≤1048570) (hn:0 < n) (hnl:(limbs bas n).length≤1048570):PC Tryz.prog 138 [nl m,nl n] (.tup [nl (m / n),nl (m % n)]):=by
  have om:=ofL_limbs (b:=bas) (by decide) m
  have lm:=limbs_lim (b:=bas) (by decide) m
  rw [show nl m=.sl ((limbs bas m).map encN) from rfl]
  generalize limbs bas m=l at *
  refine PC.body (c:=Tryz.f138.body.getD .skip) (fun t=>t == 6 || t == 23) mixed Tryz.func138 rfl (by kernel_rfl) ?_
  unfold Tryz.f138
  simp only [Option.getD_some]
  simp only [go_sem]
  refine ⟨by omega,anew_i fun j hj=>?_⟩
  simp only [go_sem]
  refine ⟨fun ρ H=>∃ (k r:Nat) (qs:List Nat),k≤l.length∧ρ 0=.sl (l.map encN)∧ρ 1=nl n∧ρ 6=.os j∧ρ 7=nl r∧ρ 8=int ((k:Int) - 1)∧H j=some (numRow qs)∧Lim bas qs∧qs.length=l.length∧r < n∧ofL bas (l.drop k)=ofL bas (qs.drop k) * n + r∧qs.take k=List.replicate k 0,fun ρ _=>match ρ 8 with | .v (.int _ z)=>(z + 1).toNat | _=>0,
    ⟨l.length,0,List.replicate l.length 0,Nat.le_refl _,by simp only [go_sem],by simp only [go_sem],by simp only [go_sem],?_,?_,?_,Lim.zeros (by decide) _,by simp,hn,by simp [ofL],by simp⟩,?_⟩
  · simp only [go_sem]
    exact nl_zero.symm
  · simp only [go_sem,wrapQ (show l.length≤4611686018427387904 by omega)]
  · rw [updH_same]
    simp only [numRow,List.map_replicate]
    rfl
  clear hj
  rintro ρ H ⟨k,r,qs,hk,h0,h1,h6,h7,h8,Rj,hq,hql,hr,hv,hz⟩
  simp only [go_sem,h0,h1,h6,h7,h8]
  refine acond_i (fun hb=>?_) (fun hb=>?_)
  · have hk0:0 < k:=by simp at hb; omega
    obtain ⟨k,rfl⟩:∃ j,k=j + 1:=⟨k - 1,by omega⟩
    rw [show ((k + 1:Nat):Int) - 1=(k:Int) by omega] at h8 ⊢
    obtain ⟨x,hx⟩:=getIn (show k < l.length by omega)
    have hxb:x < bas:=lm x (List.mem_of_getElem? hx)
    have b1:=inB (show k < l.length by omega)
    have b2:=inB (show k < qs.length by omega)
    have hq0:qs[k]?=some 0:=by
      have h1:(qs.take (k + 1))[k]?=(List.replicate (k + 1) 0)[k]?:=by rw [hz]
      rw [List.getElem?_take,if_pos (by omega)] at h1
      rw [h1]; simp
    obtain ⟨hV,hQ,hR⟩:=div_step (b:=bas) (a:=n) (by decide) hx hxb hr (show k < qs.length by omega) hv
    have hrl:(limbs bas r).length≤1048570:=Nat.le_trans (limbs_len_mono (by decide) (Nat.le_of_lt hr)) hnl
    have hrb:x + bas * r < n * bas:=by
      have:bas * (r + 1)≤bas * n:=Nat.mul_le_mul_left _ hr
      rw [Nat.mul_add] at this
      rw [Nat.mul_comm n bas]
      omega
    have hzk:(qs.set k ((x + bas * r) / n)).take k=List.replicate k 0:=by
      rw [List.take_set_of_le (by omega)]
      have h1:(qs.take (k + 1)).take k=(List.replicate (k + 1) 0).take k:=by rw [hz]
      rw [List.take_take,Nat.min_eq_left (by omega)] at h1
      rw [h1]; simp
    have hTL:ofL bas (x :: limbs bas r)=x + bas * r:=by rw [ofL,ofL_limbs (by decide)]
    have hTT:Lim bas (x :: limbs bas r):=fun y hy=>by
      rcases List.mem_cons.1 hy with rfl | hy
      · exact hxb
      · exact limbs_lim (by decide) r y hy
    have hRl:(limbs bas (x + bas * r)).length≤1048575:=by
      refine Nat.le_trans (limbs_len_le (b:=bas) (k:=(limbs bas r).length + 1) (by decide) ?_) (by omega)
      have h1:=ofL_lt (b:=bas) (by decide) hTT
      rw [hTL] at h1
      simpa using h1
    generalize hR':x + bas * r=R at *
    have hsub:R - n * (R / n)=R % n:=by have:=Nat.mod_add_div R n; omega
    have hnq:(limbs bas (n * (R / n))).length≤1048576:=Nat.le_trans (limbs_len_mono (by decide) (Nat.mul_div_le R n)) (by omega)
    simp only [go_sem,h0,h1,h6,h7,h8,getD_map hx,b1]
    refine anew_i fun i hi=>?_
    simp only [go_sem,h0,h1,h6,h7,h8]
    have Rj1:=keep_new (r':=⟨3,1,[[int (x:Int)]]⟩) Rj hi
    refine wappE_i (updH_same _ _ _) ⟨rfl,rfl⟩ (allN _) (by simp only [List.length_map,List.length_cons,List.length_nil]; omega) (fun i2 hi2=>?_)
    have Rj2:=keep_app Rj1 (ne_new Rj hi).symm hi2 (r':=⟨3,1,[[int (x:Int)]] ++ (limbs bas r).map encN⟩)
    have nj2:j≠i2:=ne_new Rj1 hi2
    simp only [go_sem,h0,h1,h6,h7,h8]
    refine PC.useF [i2] (.cons _ _ _ _ (.row _ _ _ (by simp only [List.mem_singleton,if_true]; exact updH_same _ _ _) (ConvE.refl _)) .nil) (trimN hTT (by simp; omega) hTL) ?_
    generalize hHN:(fun k=>if k∈[i2] then none else _)=HN
    have Rj3:HN j=some (numRow qs):=by rw [← hHN]; simp only [List.mem_singleton,if_neg nj2]; exact Rj2
    clear hHN Rj2 Rj1 Rj
    simp only [go_sem,h0,h1,h6,h7,h8]
    refine PC.use (compare_c R n (by omega) (by omega)) ?_
    simp only [go_sem,h0,h1,h6,h7,h8]
    refine acond_i (fun hc=>?_) (fun hc=>?_)
    · have hlt : R < n := by
        rcases Nat.lt_trichotomy R n with h | h | h
        · exact h
        · rw [cmpI_eq (by omega)] at hc; cases hc
        · rw [cmpI_gt (by omega)] at hc; cases hc
      simp only [go_sem,h0,h1,h6,h7,h8,wrapQ (show k≤4611686018427387904 by omega)]
      have hq1:qs.set k (R / n)=qs:=by
        rw [Nat.div_eq_of_lt hlt]
        obtain ⟨h1,h2⟩:=List.getElem?_eq_some_iff.1 hq0
        rw [← h2]; exact List.set_getElem_self h1
      rw [hq1,Nat.mod_eq_of_lt hlt] at hV
      rw [hq1] at hzk
      exact ⟨⟨k,R,qs,by omega,rfl,rfl,Rj3,hq,hql,hlt,hV,hzk⟩,by omega⟩
    simp only [go_sem,h0,h1,h6,h7,h8]
    refine acond_i (fun hc2=>?_) (fun hc2=>?_)
    · have heq : R = n := by
        have:=cmpI_zero.1 (by simpa using hc2)
        omega
      simp only [go_sem,h0,h1,h6,h7,h8,Rj3,show (numRow qs).es.length=qs.length from List.length_map _,b2]
      refine ⟨rfl,wputE_1 so3 Rj3 (by simp only [numRow,List.length_map]; exact ⟨by simpa using b2.2,rfl,Nat.le_refl 1⟩) ?_⟩
      simp only [go_sem,h0,h1,h6,h7,h8,wrapQ (show k≤4611686018427387904 by omega)]
      have hq1:R / n=1:=by rw [heq]; exact Nat.div_self hn
      have hm1:R % n=0:=by rw [heq]; exact Nat.mod_self n
      rw [hq1,hm1] at hV
      rw [hq1] at hzk
      refine ⟨⟨k,0,qs.set k 1,by omega,nl_zero.symm,rfl,?_,hq.set (by decide),by simp [hql],hn,hV,hzk⟩,by omega⟩
      exact congrArg some (set_row (q:=1) hq0)
    simp only [go_sem,h0,h1,h6,h7,h8,Rj3]
    refine PC.use (digit_c R n (by omega) hn (by omega) hrb) ?_
    simp only [go_sem,h0,h1,h6,h7,h8,Rj3,show (numRow qs).es.length=qs.length from List.length_map _,b2]
    refine ⟨rfl,wputE_1 so3 Rj3 (by simp only [numRow,List.length_map]; exact ⟨by simpa using b2.2,rfl,Nat.le_refl 1⟩) ?_⟩
    generalize hP:updH HN j _=HP
    have Rj4:HP j=some (numRow (qs.set k (R / n))):=by
      rw [← hP,updH_same]
      exact congrArg some (set_row (q:=R / n) hq0)
    have hg:(qs.set k (R / n))[k]?=some (R / n):=List.getElem?_set_self (by omega)
    clear hP Rj3
    simp only [go_sem,h0,h1,h6,h7,h8,Rj4]
    have hgl:(numRow (qs.set k (R / n))).es.getD k []=encN (R / n):=getD_map hg
    have b3:0≤(k:Int)∧(k:Int) < ((numRow (qs.set k (R / n))).es.length:Nat):=by
      simp only [numRow,List.length_map,List.length_set]; exact b2
    simp only [go_sem,hgl,b3]
    refine ⟨rfl,⟨by omega,Nat.zero_lt_one⟩,?_⟩
    refine PC.use (times_c n (R / n) (by omega) hQ) ?_
    simp only [go_sem,h0,h1,h6,h7,h8,Rj4]
    refine PC.use (minus_c R (n * (R / n)) (by omega) (Nat.mul_div_le R n)) ?_
    simp only [go_sem,h0,h1,h6,h7,h8,wrapQ (show k≤4611686018427387904 by omega),hsub]
    exact ⟨⟨k,R % n,qs.set k (R / n),by omega,rfl,rfl,Rj4,hq.set hQ,by simp [hql],hR,hV,hzk⟩,by omega⟩
  · have hk0:k=0:=by simp at hb; omega
    subst hk0
    simp only [go_sem,h0,h1,h6,h7,h8]
    obtain ⟨e1,e2⟩:=div_end hr hv
    rw [List.drop_zero,List.drop_zero,om] at e1
    rw [List.drop_zero,om] at e2
    refine PC.useF [j] (.cons _ _ _ _ (.row _ _ _ (by simp only [List.mem_singleton,if_true]; exact Rj) (ConvE.refl _)) .nil) (trimN hq (by omega) e1) ?_
    simp only [go_sem,h7,e2]
    exact .refl _
end Go.Proofs.YtpddaldlebngaaaGreatDoor.Nu
end

section
set_option linter.unusedSimpArgs false
set_option linter.unusedVariables false
namespace Go.Proofs
open Go.Shelf
def Tryz.lays169_ren:Go.Shelf.Ren:=⟨fun | 169=>221 | n=>n,fun | 70=>233 | 9=>9 | 0=>0 | 72=>235 | 37=>165 | 127=>260 | 3=>3 | 5=>5 | n=>n,fun | n=>n⟩
theorem Tryz.lays169:Go.Proofs.Lays.n169 Tryz.prog Tryz.lays169_ren:={
  mixed:=by kernel_rfl
  f169:=Tryz.func221.trans (congrArg some (by kernel_rfl))
  t0:=Tryz.underlying0
  a0:=Tryz.isAgg0
  z0:=Tryz.sizeOf0
  v0:=Tryz.zeroValue0
  t3:=Tryz.underlying3
  a3:=Tryz.isAgg3
  z3:=Tryz.sizeOf3
  v3:=Tryz.zeroValue3
  t9:=Tryz.underlying9
  a9:=Tryz.isAgg9
  z9:=Tryz.sizeOf9
  v9:=Tryz.zeroValue9
  t37:=Tryz.underlying165
  a37:=Tryz.isAgg165
  z37:=Tryz.sizeOf165
  v37:=Tryz.zeroValue165
  t70:=Tryz.underlying233
  a70:=Tryz.isAgg233
  z70:=Tryz.sizeOf233
  v70:=Tryz.zeroValue233
  t72:=Tryz.underlying235
  a72:=Tryz.isAgg235
  z72:=Tryz.sizeOf235
  v72:=Tryz.zeroValue235
  t127:=Tryz.underlying260
  a127:=Tryz.isAgg260
  z127:=Tryz.sizeOf260
  v127:=Tryz.zeroValue260 }
theorem Tryz.Builder_Extra_169:Builder.Extra Tryz.prog Tryz.lays169_ren:={
  sizeBuilder:=by kernel_rfl
  liesBuilder:=by kernel_rfl
  t5:=Tryz.underlying5
  a5:=Tryz.isAgg5
  z5:=Tryz.sizeOf5
  v5:=Tryz.zeroValue5
  infoByte:=by kernel_rfl
  cellsByte:=by kernel_rfl
  sizeByte:=by kernel_rfl
  neB5:=by decide }
open Go.RowKit in
theorem Tryz.Builder_String_any (B b : Nat) (l : List UInt8) (w : World) (h : Lib.IsBuilder 235 5 B b (Lib.byteCells l) w) (hBw : B ≤ w.heap.size) :
    Calls Tryz.prog 221 #[.pointer (some ⟨b,0,none⟩)] w fun e w'=>e=.returned (.string ⟨l.toArray⟩)∧Below B w w':=Any.Builder_String_any Tryz.lays169 Tryz.Builder_Extra_169 B b l w h hBw
def Tryz.lays106_ren:Go.Shelf.Ren:=⟨fun | 106=>211 | 213=>232 | 265=>246 | n=>n,fun | 9=>9 | 3=>3 | n=>n,fun | n=>n⟩
theorem Tryz.lays106:Go.Proofs.Lays.n106 Tryz.prog Tryz.lays106_ren:={
  mixed:=by kernel_rfl
  f106:=Tryz.func211.trans (congrArg some (by kernel_rfl))
  f213:=Tryz.func232.trans (congrArg some (by kernel_rfl))
  f265:=Tryz.func246.trans (congrArg some (by kernel_rfl))
  t3:=Tryz.underlying3
  a3:=Tryz.isAgg3
  z3:=Tryz.sizeOf3
  v3:=Tryz.zeroValue3
  t9:=Tryz.underlying9
  a9:=Tryz.isAgg9
  z9:=Tryz.sizeOf9
  v9:=Tryz.zeroValue9 }
open Go.RowKit in
theorem Tryz.strings_Compare (a b : ByteArray) (w : World) :
    Calls Tryz.prog 211 #[.string a,.string b] w fun e w'=>e=.returned (.int .i64 (Lib.compareBytes a.data.toList b.data.toList))∧w'=w:=Any.strings_Compare Tryz.lays106 a b w
def Tryz.lays103_ren:Go.Shelf.Ren:=⟨fun | 103=>171 | 210=>213 | 206=>180 | n=>n,fun | 9=>9 | 4=>4 | 24=>207 | 3=>3 | n=>n,fun | n=>n⟩
theorem Tryz.lays103:Go.Proofs.Lays.n103 Tryz.prog Tryz.lays103_ren:={
  mixed:=by kernel_rfl
  f103:=Tryz.func171.trans (congrArg some (by kernel_rfl))
  f206:=Tryz.func180.trans (congrArg some (by kernel_rfl))
  f210:=Tryz.func213.trans (congrArg some (by kernel_rfl))
  t3:=Tryz.underlying3
  a3:=Tryz.isAgg3
  z3:=Tryz.sizeOf3
  v3:=Tryz.zeroValue3
  t4:=Tryz.underlying4
  a4:=Tryz.isAgg4
  z4:=Tryz.sizeOf4
  v4:=Tryz.zeroValue4
  t9:=Tryz.underlying9
  a9:=Tryz.isAgg9
  z9:=Tryz.sizeOf9
  v9:=Tryz.zeroValue9
  t24:=Tryz.underlying207
  a24:=Tryz.isAgg207
  z24:=Tryz.sizeOf207
  v24:=Tryz.zeroValue207 }
open Go.RowKit in
theorem Tryz.strings_CutPrefix (s p : ByteArray) (w : World) :
    Calls Tryz.prog 171 #[.string s,.string p] w fun e w'=>e=.returned (.tuple #[.string ⟨(Lib.trimPrefix s.data.toList p.data.toList).toArray⟩,.bool (Lib.hasPrefix s.data.toList p.data.toList)])∧w'=w:=Any.strings_CutPrefix Tryz.lays103 s p w
def Tryz.laysM171_ren:Go.Shelf.Ren:=⟨fun | 171=>133 | 243=>169 | 246=>212 | 283=>233 | 284=>234 | 285=>235 | 286=>236 | 129=>248 | 317=>247 | 318=>249 | 319=>250 | 320=>251 | 337=>256 | 338=>257 | n=>n,fun | 3=>3 | 9=>9 | 2=>2 | 4=>4 | 171=>247 | 0=>0 | 53=>248 | 37=>165 | 5=>5 | 173=>251 | 212=>262 | 51=>253 | 20=>20 | 213=>263 | 46=>196 | 232=>272 | 233=>273 | n=>n,fun | 17=>1 | 18=>2 | 19=>3 | n=>n⟩
theorem Tryz.laysM171:Go.Proofs.LaysM.n171 Tryz.prog Tryz.laysM171_ren:={
  mixed:=by kernel_rfl
  f129:=Tryz.func248.trans (congrArg some (by kernel_rfl))
  f171:=Tryz.func133.trans (congrArg some (by kernel_rfl))
  f243:=Tryz.func169.trans (congrArg some (by kernel_rfl))
  f246:=Tryz.func212.trans (congrArg some (by kernel_rfl))
  f283:=Tryz.func233.trans (congrArg some (by kernel_rfl))
  f284:=Tryz.func234.trans (congrArg some (by kernel_rfl))
  f285:=Tryz.func235.trans (congrArg some (by kernel_rfl))
  f286:=Tryz.func236.trans (congrArg some (by kernel_rfl))
  f317:=Tryz.func247.trans (congrArg some (by kernel_rfl))
  f318:=Tryz.func249.trans (congrArg some (by kernel_rfl))
  f319:=Tryz.func250.trans (congrArg some (by kernel_rfl))
  f320:=Tryz.func251.trans (congrArg some (by kernel_rfl))
  f337:=Tryz.func256.trans (congrArg some (by kernel_rfl))
  f338:=Tryz.func257.trans (congrArg some (by kernel_rfl))
  t0:=Tryz.underlying0
  a0:=Tryz.isAgg0
  z0:=Tryz.sizeOf0
  v0:=Tryz.zeroValue0
  t2:=Tryz.underlying2
  a2:=Tryz.isAgg2
  z2:=Tryz.sizeOf2
  v2:=Tryz.zeroValue2
  t3:=Tryz.underlying3
  a3:=Tryz.isAgg3
  z3:=Tryz.sizeOf3
  v3:=Tryz.zeroValue3
  t4:=Tryz.underlying4
  a4:=Tryz.isAgg4
  z4:=Tryz.sizeOf4
  v4:=Tryz.zeroValue4
  t5:=Tryz.underlying5
  a5:=Tryz.isAgg5
  z5:=Tryz.sizeOf5
  v5:=Tryz.zeroValue5
  t9:=Tryz.underlying9
  a9:=Tryz.isAgg9
  z9:=Tryz.sizeOf9
  v9:=Tryz.zeroValue9
  t20:=Tryz.underlying20
  a20:=Tryz.isAgg20
  z20:=Tryz.sizeOf20
  v20:=Tryz.zeroValue20
  t37:=Tryz.underlying165
  a37:=Tryz.isAgg165
  z37:=Tryz.sizeOf165
  v37:=Tryz.zeroValue165
  t46:=Tryz.underlying196
  a46:=Tryz.isAgg196
  z46:=Tryz.sizeOf196
  v46:=Tryz.zeroValue196
  t51:=Tryz.underlying253
  a51:=Tryz.isAgg253
  z51:=Tryz.sizeOf253
  v51:=Tryz.zeroValue253
  t53:=Tryz.underlying248
  a53:=Tryz.isAgg248
  z53:=Tryz.sizeOf248
  v53:=Tryz.zeroValue248
  t171:=Tryz.underlying247
  a171:=Tryz.isAgg247
  z171:=Tryz.sizeOf247
  v171:=Tryz.zeroValue247
  t173:=Tryz.underlying251
  a173:=Tryz.isAgg251
  z173:=Tryz.sizeOf251
  v173:=Tryz.zeroValue251
  t212:=Tryz.underlying262
  a212:=Tryz.isAgg262
  z212:=Tryz.sizeOf262
  v212:=Tryz.zeroValue262
  t213:=Tryz.underlying263
  a213:=Tryz.isAgg263
  z213:=Tryz.sizeOf263
  t232:=Tryz.underlying272
  a232:=Tryz.isAgg272
  z232:=Tryz.sizeOf272
  v232:=Tryz.zeroValue272
  t233:=Tryz.underlying273
  a233:=Tryz.isAgg273
  z233:=Tryz.sizeOf273
  v233:=Tryz.zeroValue273
  g17:=by kernel_rfl
  g18:=by kernel_rfl
  g19:=by kernel_rfl
  i0:=by kernel_rfl
  i2:=by kernel_rfl
  i3:=by kernel_rfl
  i4:=by kernel_rfl
  i5:=by kernel_rfl
  i9:=by kernel_rfl
  i20:=by kernel_rfl
  i37:=by kernel_rfl
  i46:=by kernel_rfl
  i51:=by kernel_rfl
  i53:=by kernel_rfl
  i171:=by kernel_rfl
  i173:=by kernel_rfl
  i212:=by kernel_rfl
  i232:=by kernel_rfl
  i233:=by kernel_rfl
  m17:=by kernel_rfl
  m18:=by kernel_rfl
  m19:=by kernel_rfl }
open Go.RowKit Go.Sort Go.Lib in
theorem Tryz.strconv_Itoa (n : Int) (h0 : -9223372036854775808 ≤ n) (h1 : n ≤ 9223372036854775807) (w : World) (htab : Lib.TabIs Tryz.prog w "internal/strconv.uint64pow10" .u64 Lib.pow10Tab) :
    Calls Tryz.prog 133 #[.int .i64 n] w fun e w'=>e=.returned (.string ⟨(Lib.itoa n).toArray⟩)∧∃ k os,w'=grow (w.drewN k) os:=Any.strconv_Itoa Tryz.laysM171 n h0 h1 w htab
def Tryz.lays219_ren:Go.Shelf.Ren:=⟨fun | 219=>172 | 217=>214 | 225=>215 | 224=>216 | 267=>217 | 266=>237 | 314=>238 | n=>n,fun | 9=>9 | 3=>3 | 4=>4 | 5=>5 | 46=>196 | 146=>254 | 51=>253 | n=>n,fun | 1=>0 | n=>n⟩
theorem Tryz.lays219:Go.Proofs.Lays.n219 Tryz.prog Tryz.lays219_ren:={
  mixed:=by kernel_rfl
  f217:=Tryz.func214.trans (congrArg some (by kernel_rfl))
  f219:=Tryz.func172.trans (congrArg some (by kernel_rfl))
  f224:=Tryz.func216.trans (congrArg some (by kernel_rfl))
  f225:=Tryz.func215.trans (congrArg some (by kernel_rfl))
  f266:=Tryz.func237.trans (congrArg some (by kernel_rfl))
  f267:=Tryz.func217.trans (congrArg some (by kernel_rfl))
  f314:=Tryz.func238.trans (congrArg some (by kernel_rfl))
  t3:=Tryz.underlying3
  a3:=Tryz.isAgg3
  z3:=Tryz.sizeOf3
  v3:=Tryz.zeroValue3
  t4:=Tryz.underlying4
  a4:=Tryz.isAgg4
  z4:=Tryz.sizeOf4
  v4:=Tryz.zeroValue4
  t5:=Tryz.underlying5
  a5:=Tryz.isAgg5
  z5:=Tryz.sizeOf5
  v5:=Tryz.zeroValue5
  t9:=Tryz.underlying9
  a9:=Tryz.isAgg9
  z9:=Tryz.sizeOf9
  v9:=Tryz.zeroValue9
  t46:=Tryz.underlying196
  a46:=Tryz.isAgg196
  z46:=Tryz.sizeOf196
  v46:=Tryz.zeroValue196
  t51:=Tryz.underlying253
  a51:=Tryz.isAgg253
  z51:=Tryz.sizeOf253
  v51:=Tryz.zeroValue253
  t146:=Tryz.underlying254
  a146:=Tryz.isAgg254
  z146:=Tryz.sizeOf254
  v146:=Tryz.zeroValue254
  g1:=by kernel_rfl }
open Go.RowKit Go.Lib in
theorem Tryz.stringslite_Index_one (s : ByteArray) (c : UInt8) (w : World) :
    Calls Tryz.prog 172 #[.string s,.string ⟨#[c]⟩] w fun e w'=>e=.returned (.int .i64 (Lib.indexByte s.data.toList c))∧w'=w:=Any.stringslite_Index_one Tryz.lays219 s c w
def Tryz.lays144_ren:Go.Shelf.Ren:=⟨fun | 144=>85 | 143=>136 | 219=>172 | 217=>214 | 225=>215 | 224=>216 | 267=>217 | 266=>237 | 314=>238 | n=>n,fun | 9=>9 | 4=>4 | 3=>3 | 5=>5 | 46=>196 | 146=>254 | 51=>253 | n=>n,fun | 1=>0 | n=>n⟩
theorem Tryz.lays144:Go.Proofs.Lays.n144 Tryz.prog Tryz.lays144_ren:={
  mixed:=by kernel_rfl
  f143:=Tryz.func136.trans (congrArg some (by kernel_rfl))
  f144:=Tryz.func85.trans (congrArg some (by kernel_rfl))
  f217:=Tryz.func214.trans (congrArg some (by kernel_rfl))
  f219:=Tryz.func172.trans (congrArg some (by kernel_rfl))
  f224:=Tryz.func216.trans (congrArg some (by kernel_rfl))
  f225:=Tryz.func215.trans (congrArg some (by kernel_rfl))
  f266:=Tryz.func237.trans (congrArg some (by kernel_rfl))
  f267:=Tryz.func217.trans (congrArg some (by kernel_rfl))
  f314:=Tryz.func238.trans (congrArg some (by kernel_rfl))
  t3:=Tryz.underlying3
  a3:=Tryz.isAgg3
  z3:=Tryz.sizeOf3
  v3:=Tryz.zeroValue3
  t4:=Tryz.underlying4
  a4:=Tryz.isAgg4
  z4:=Tryz.sizeOf4
  v4:=Tryz.zeroValue4
  t5:=Tryz.underlying5
  a5:=Tryz.isAgg5
  z5:=Tryz.sizeOf5
  v5:=Tryz.zeroValue5
  t9:=Tryz.underlying9
  a9:=Tryz.isAgg9
  z9:=Tryz.sizeOf9
  v9:=Tryz.zeroValue9
  t46:=Tryz.underlying196
  a46:=Tryz.isAgg196
  z46:=Tryz.sizeOf196
  v46:=Tryz.zeroValue196
  t51:=Tryz.underlying253
  a51:=Tryz.isAgg253
  z51:=Tryz.sizeOf253
  v51:=Tryz.zeroValue253
  t146:=Tryz.underlying254
  a146:=Tryz.isAgg254
  z146:=Tryz.sizeOf254
  v146:=Tryz.zeroValue254
  g1:=by kernel_rfl }
open Go.RowKit Go.Lib in
theorem Tryz.strings_Contains_one (s : ByteArray) (c : UInt8) (w : World) :
    Calls Tryz.prog 85 #[.string s,.string ⟨#[c]⟩] w fun e w'=>e=.returned (.bool (decide (0≤Lib.indexByte s.data.toList c)))∧w'=w:=Any.strings_Contains_one Tryz.lays144 s c w
def Tryz.lays101_ren:Go.Shelf.Ren:=⟨fun | 101=>88 | 208=>140 | 206=>180 | n=>n,fun | 9=>9 | 4=>4 | 3=>3 | n=>n,fun | n=>n⟩
theorem Tryz.lays101:Go.Proofs.Lays.n101 Tryz.prog Tryz.lays101_ren:={
  mixed:=by kernel_rfl
  f101:=Tryz.func88.trans (congrArg some (by kernel_rfl))
  f206:=Tryz.func180.trans (congrArg some (by kernel_rfl))
  f208:=Tryz.func140.trans (congrArg some (by kernel_rfl))
  t3:=Tryz.underlying3
  a3:=Tryz.isAgg3
  z3:=Tryz.sizeOf3
  v3:=Tryz.zeroValue3
  t4:=Tryz.underlying4
  a4:=Tryz.isAgg4
  z4:=Tryz.sizeOf4
  v4:=Tryz.zeroValue4
  t9:=Tryz.underlying9
  a9:=Tryz.isAgg9
  z9:=Tryz.sizeOf9
  v9:=Tryz.zeroValue9 }
open Go.RowKit Go.Lib in
theorem Tryz.strings_TrimPrefix (s p : ByteArray) (w : World) :
    Calls Tryz.prog 88 #[.string s,.string p] w fun e w'=>e=.returned (.string ⟨(Lib.trimPrefix s.data.toList p.data.toList).toArray⟩)∧w'=w:=Any.strings_TrimPrefix Tryz.lays101 s p w
def Tryz.lays105_ren:Go.Shelf.Ren:=⟨fun | 105=>220 | 212=>241 | 99=>242 | 165=>243 | 166=>219 | 170=>244 | 169=>221 | 263=>253 | 264=>254 | 206=>180 | 240=>240 | 241=>255 | 276=>252 | 277=>258 | n=>n,fun | 9=>9 | 3=>3 | 4=>4 | 20=>20 | 0=>0 | 46=>196 | 109=>256 | 5=>5 | 72=>235 | 76=>238 | 51=>253 | 146=>254 | 53=>248 | 148=>268 | 70=>233 | 37=>165 | 75=>237 | 127=>260 | 164=>265 | 80=>215 | n=>n,fun | n=>n⟩
theorem Tryz.lays105:Go.Proofs.Lays.n105 Tryz.prog Tryz.lays105_ren:={
  mixed:=by kernel_rfl
  f99:=Tryz.func242.trans (congrArg some (by kernel_rfl))
  f105:=Tryz.func220.trans (congrArg some (by kernel_rfl))
  f165:=Tryz.func243.trans (congrArg some (by kernel_rfl))
  f166:=Tryz.func219.trans (congrArg some (by kernel_rfl))
  f169:=Tryz.func221.trans (congrArg some (by kernel_rfl))
  f170:=Tryz.func244.trans (congrArg some (by kernel_rfl))
  f206:=Tryz.func180.trans (congrArg some (by kernel_rfl))
  f212:=Tryz.func241.trans (congrArg some (by kernel_rfl))
  f240:=Tryz.func240.trans (congrArg some (by kernel_rfl))
  f241:=Tryz.func255.trans (congrArg some (by kernel_rfl))
  f263:=Tryz.func253.trans (congrArg some (by kernel_rfl))
  f264:=Tryz.func254.trans (congrArg some (by kernel_rfl))
  f276:=Tryz.func252.trans (congrArg some (by kernel_rfl))
  f277:=Tryz.func258.trans (congrArg some (by kernel_rfl))
  t0:=Tryz.underlying0
  a0:=Tryz.isAgg0
  z0:=Tryz.sizeOf0
  v0:=Tryz.zeroValue0
  t3:=Tryz.underlying3
  a3:=Tryz.isAgg3
  z3:=Tryz.sizeOf3
  v3:=Tryz.zeroValue3
  t4:=Tryz.underlying4
  a4:=Tryz.isAgg4
  z4:=Tryz.sizeOf4
  v4:=Tryz.zeroValue4
  t5:=Tryz.underlying5
  a5:=Tryz.isAgg5
  z5:=Tryz.sizeOf5
  v5:=Tryz.zeroValue5
  t9:=Tryz.underlying9
  a9:=Tryz.isAgg9
  z9:=Tryz.sizeOf9
  v9:=Tryz.zeroValue9
  t20:=Tryz.underlying20
  a20:=Tryz.isAgg20
  z20:=Tryz.sizeOf20
  v20:=Tryz.zeroValue20
  t37:=Tryz.underlying165
  a37:=Tryz.isAgg165
  z37:=Tryz.sizeOf165
  v37:=Tryz.zeroValue165
  t46:=Tryz.underlying196
  a46:=Tryz.isAgg196
  z46:=Tryz.sizeOf196
  v46:=Tryz.zeroValue196
  t51:=Tryz.underlying253
  a51:=Tryz.isAgg253
  z51:=Tryz.sizeOf253
  v51:=Tryz.zeroValue253
  t53:=Tryz.underlying248
  a53:=Tryz.isAgg248
  z53:=Tryz.sizeOf248
  v53:=Tryz.zeroValue248
  t70:=Tryz.underlying233
  a70:=Tryz.isAgg233
  z70:=Tryz.sizeOf233
  v70:=Tryz.zeroValue233
  t72:=Tryz.underlying235
  a72:=Tryz.isAgg235
  z72:=Tryz.sizeOf235
  v72:=Tryz.zeroValue235
  t75:=Tryz.underlying237
  a75:=Tryz.isAgg237
  z75:=Tryz.sizeOf237
  v75:=Tryz.zeroValue237
  t76:=Tryz.underlying238
  a76:=Tryz.isAgg238
  z76:=Tryz.sizeOf238
  v76:=Tryz.zeroValue238
  t109:=Tryz.underlying256
  a109:=Tryz.isAgg256
  z109:=Tryz.sizeOf256
  v109:=Tryz.zeroValue256
  t127:=Tryz.underlying260
  a127:=Tryz.isAgg260
  z127:=Tryz.sizeOf260
  v127:=Tryz.zeroValue260
  t146:=Tryz.underlying254
  a146:=Tryz.isAgg254
  z146:=Tryz.sizeOf254
  v146:=Tryz.zeroValue254
  t148:=Tryz.underlying268
  a148:=Tryz.isAgg268
  z148:=Tryz.sizeOf268
  v148:=Tryz.zeroValue268
  t164:=Tryz.underlying265
  a164:=Tryz.isAgg265
  z164:=Tryz.sizeOf265
  v164:=Tryz.zeroValue265 }
theorem Tryz.Builder_Extra_105:Builder.Extra Tryz.prog Tryz.lays105_ren:={
  sizeBuilder:=by kernel_rfl
  liesBuilder:=by kernel_rfl
  t5:=Tryz.underlying5
  a5:=Tryz.isAgg5
  z5:=Tryz.sizeOf5
  v5:=Tryz.zeroValue5
  infoByte:=by kernel_rfl
  cellsByte:=by kernel_rfl
  sizeByte:=by kernel_rfl
  neB5:=by decide }
open Go.RowKit Go.Lib in
theorem Tryz.strings_Repeat (s : ByteArray) (c : Nat) (w : World) (hc : c ≤ 9223372036854775807) (hlen : s.size * c ≤ 140737488355328) :
    Calls Tryz.prog 220 #[.string s,.int .i64 c] w fun e w'=>e=.returned (.string ⟨(Lib.repeatL s.data.toList c).toArray⟩)∧Below w.heap.size w w':=Any.strings_Repeat Tryz.lays105 Tryz.Builder_Extra_105 s c w hc hlen
end Go.Proofs
end

section
set_option linter.unusedSimpArgs false
set_option linter.unusedVariables false
namespace Go.Proofs.YtpddaldlebngaaaGreatDoor.Nu
open Go.Aw Go.Aw.D Go.Proofs Ty Go.Nu Go.RowKit Go.Sort
set_option maxRecDepth 100000
theorem builder_below {T e:TypeId} {B b:Nat} {bs:List Value} {w w':World} (h:Lib.IsBuilder T e B b bs w) (hb:Below w.heap.size w w'):Lib.IsBuilder T e B b bs w':=by
  have key:∀ p,Lib.BuilderAt T e B b p bs w→Lib.BuilderAt T e B b p bs w':=by
    rintro p ⟨h1,v,h2,h3,h4⟩
    refine ⟨h1,v,?_,⟨h3.1,?_⟩,h4⟩
    · rw [hb.block b (Array.getElem?_eq_some_iff.1 h2).1]; exact h2
    · rcases h3.2 with h5 | ⟨g,cap,cur,e1,e2,e3,e4⟩
      · exact .inl h5
      · exact .inr ⟨g,cap,cur,e1,e2,by rw [hb.block g (Array.getElem?_eq_some_iff.1 e3).1]; exact e3,e4⟩
  exact h.imp (key _) (key _)
theorem grow_below {w:World} (k:Nat) (os:Array Obj):Below w.heap.size w (grow (w.drewN k) os):=by
  refine ⟨rfl,rfl,rfl,?_,fun i hi=>?_⟩
  · simp [grow]
  · simp only [grow,World.heap_drewN]
    rw [Array.getElem?_append_left hi]
theorem builder_more {T e:TypeId} {B b:Nat} {l:List UInt8} {s:ByteArray} {w:World} (h:Lib.BuilderAt T e B b (.pointer (some ⟨b,0,none⟩)) (Lib.byteCells l ++ Lib.strCells s) w):Lib.IsBuilder T e B b (Lib.byteCells (l ++ bl s)) w:=by
  rw [Lib.strCells_eq,← Lib.byteCells_append] at h
  exact .inr h
theorem WriteString_c (B b : Nat) (l : List UInt8) (s : ByteArray) (w : World) (h : Lib.IsBuilder 235 5 B b (Lib.byteCells l) w) (hlen : l.length + s.size ≤ 140737488355328) (hBw : B ≤ w.heap.size) :
    Calls Tryz.prog 219 #[.pointer (some ⟨b,0,none⟩),.string s] w fun e w'=>e=.returned (.tuple #[.int .i64 s.size,.nilIface])∧Lib.IsBuilder 235 5 B b (Lib.byteCells (l ++ bl s)) w'∧Below B w w':=
  (Any.Builder_WriteString (P:=Tryz.prog) (ρ:=Tryz.lays105_ren) { Tryz.lays105 with } Tryz.Builder_Extra_105 B b (Lib.byteCells l) s w h (by rw [Lib.byteCells_length]; exact hlen) hBw).mono fun e w' ⟨he,hB,hb⟩=>⟨he,builder_more hB,hb⟩
theorem dec_ofL {l:List Nat} (h:Lim bas l) (K:Nat) (hK:l.length≤K) (h1:1≤K):(Lib.decDigits (ofL bas l)).length≤9 * K:=by
  refine (dec_len_le (by omega)).2 (Nat.lt_of_lt_of_le (ofL_lt (by decide) h) ?_)
  rw [show bas=10 ^ 9 from rfl,← Nat.pow_mul]
  exact Nat.pow_le_pow_right (by omega) (by omega)
def topS (n k:Nat):List UInt8:=Lib.decDigits (ofL bas ((limbs bas n).drop k))
theorem topS_step {n k x:Nat} (hk:k + 1 < (limbs bas n).length) (hx:(limbs bas n)[k]?=some x):topS n k=topS n (k + 1) ++ padB x:=by
  have h1:=limbs_lim (b:=bas) (by decide) n x (List.mem_of_getElem? hx)
  unfold topS
  rw [ofL_drop bas hx]
  exact dec_limb h1 (drop_pos (by decide) hk)
set_option maxHeartbeats 1600000 in
theorem string_walk (n : Nat) (w : World) (b o c : Nat) (hlen : (limbs bas n).length ≤ 1048576) (hpos : 0 < (limbs bas n).length)
    (hz:∀ (i x:Nat),(limbs bas n)[i]?=some x→w.cell? ⟨b,o + i,none⟩=some (.int .i64 x)) (hb:b < w.heap.size)
    (htab:Lib.TabIs Tryz.prog w "internal/strconv.uint64pow10" .u64 Lib.pow10Tab) :
    Calls Tryz.prog 179 #[.slice (some ⟨b,o,none⟩) (limbs bas n).length c] w fun e w'=>e=.returned (.string (dec n))∧Below w.heap.size w w':=by
  obtain ⟨L,hL⟩:∃ L,(limbs bas n).length=L:=⟨_,rfl⟩
  have h0:Lib.IsBuilder 235 5 w.heap.size w.heap.size (Lib.byteCells []) (w.alloc (.cells #[.pointer none,.slice none 0 0] 235)):=Lib.fresh_isBuilder 235 5 w
  have b0:Below w.heap.size w (w.alloc (.cells #[.pointer none,.slice none 0 0] 235)):=(Below.refl _ w).alloc (Nat.le_refl _) _
  obtain ⟨x0,hx0⟩:=getIn (show L - 1 < (limbs bas n).length by omega)
  have hl0:=hz _ _ hx0
  have hb0:=limbs_lim (b:=bas) (by decide) n x0 (List.mem_of_getElem? hx0)
  have hb0:x0 < 1000000000:=hb0
  rw [hL]
  rw [hL] at hpos hlen
  have hL0:((L:Int) == 0)=false:=by rw [beq_eq_false_iff_ne]; omega
  go_enter Tryz.func179,Tryz.ntmps179
  go_wp2_with (go_at_call 133; refine (Tryz.strconv_Itoa (x0:Int) (by omega) (by omega) _ (Lib.tabIs_alloc htab _)).mono ?_)
  rintro e W1 ⟨rfl,k,os,rfl⟩
  have b1:Below w.heap.size w (grow ((w.alloc (.cells #[.pointer none,.slice none 0 0] 235)).drewN k) os):=b0.trans ⟨rfl,rfl,rfl,(grow_below k os).size,fun i hi=>(grow_below k os).block i (Nat.lt_of_lt_of_le hi b0.size)⟩
  have h1:=builder_below h0 (grow_below k os)
  generalize grow _ os=W1 at *
  have hI:∀ x:Nat,(Lib.itoa (x:Int))=Lib.decDigits x:=Lib.itoa_nonneg
  have hdl:∀ x:Nat,x < 1000000000→(Lib.decDigits x).length≤9:=fun x hx=>(dec_len_le (k:=9) (by omega)).2 hx
  have htop:topS n (L - 1)=Lib.decDigits x0:=by
    unfold topS
    rw [ofL_drop bas hx0,show L - 1 + 1=L by omega,← hL,List.drop_length]
    rfl
  have hsz0:(⟨(Lib.itoa (x0:Int)).toArray⟩:ByteArray).size≤9:=by rw [← bl_size,bl_mk,hI]; exact hdl _ hb0
  have cW:=WriteString_c w.heap.size w.heap.size [] _ W1 h1 (by simp only [List.length_nil]; omega:([]:List UInt8).length + (⟨(Lib.itoa (x0:Int)).toArray⟩:ByteArray).size≤_) b1.size
  go_wp2_with (go_at_call 219; refine cW.mono ?_)
  rintro e W2 ⟨rfl,h2,b2⟩
  rw [List.nil_append,bl_mk,hI,← htop] at h2
  have b2:=b1.trans b2
  have htl:∀ k,(topS n k).length≤9437184:=fun k=>by
    have:=dec_ofL ((limbs_lim (b:=bas) (by decide) n).drop k) 1048576 (by rw [List.length_drop,hL]; omega) (by omega)
    unfold topS
    omega
  clear h0 b0 h1 b1 hsz0 htop
  go_wp2
  go_loopg [4] (L - 1) (fun g s4 wx=>∃ k:Nat,k≤L - 1∧g=k∧s4=.int .i64 ((k:Int) - 1)∧Lib.IsBuilder 235 5 w.heap.size w.heap.size (Lib.byteCells (topS n k)) wx∧Below w.heap.size w wx)
  case atStart=>exact ⟨L - 1,Nat.le_refl _,rfl,by congr 1; omega,h2,b2⟩
  clear h2 b2
  case round=>
    obtain ⟨_,hk,rfl,rfl,hB,hbx⟩:=hrel
    cases gk with
    | zero=>
      have h00:topS n 0=Lib.decDigits n:=by unfold topS; rw [List.drop_zero,ofL_limbs (by decide)]
      rw [h00] at hB
      have cS:=Tryz.Builder_String_any w.heap.size w.heap.size (Lib.decDigits n) wr hB hbx.size
      go_wp2_with (go_at_call 221; refine cS.mono ?_)
      rintro e W3 ⟨rfl,b3⟩
      go_wp2
      go_ret
      exact ⟨rfl,hbx.trans b3⟩
    | succ i=>
      obtain ⟨x,hx⟩:=getIn (show i < (limbs bas n).length by omega)
      have hl:=(hbx.cell hb).trans (hz i x hx)
      have hxb:x < 1000000000:=limbs_lim (b:=bas) (by decide) n x (List.mem_of_getElem? hx)
      have hi1:(((i + 1:Nat):Int) - 1)=(i:Int):=by omega
      have hstep:=topS_step (n:=n) (by omega) hx
      have htr:Lib.TabIs Tryz.prog wr "internal/strconv.uint64pow10" .u64 Lib.pow10Tab:=Go.Joins.tab_stays (g:=1) (by kernel_rfl) htab hbx (Nat.le_refl _)
      have hti:=htl (i + 1)
      rw [hi1]
      go_wp2_with (go_at_call 133; refine (Tryz.strconv_Itoa (x:Int) (by omega) (by omega) _ htr).mono ?_)
      rintro e W1 ⟨rfl,k,os,rfl⟩
      have b1:Below w.heap.size w (grow (wr.drewN k) os):=hbx.trans ⟨rfl,rfl,rfl,(grow_below k os).size,fun i hi=>(grow_below k os).block i (Nat.lt_of_lt_of_le hi hbx.size)⟩
      have h1:=builder_below hB (grow_below k os)
      clear hB htr
      generalize grow _ os=W1 at *
      have hdx:=hdl x hxb
      rw [hI x]
      go_wp2_with (go_at_call 220; fail)
      have e9:(9:Int) - ((Lib.decDigits x).length:Nat)=((9 - (Lib.decDigits x).length:Nat):Int):=by omega
      rw [e9]
      refine (Tryz.strings_Repeat ⟨#[48]⟩ (9 - (Lib.decDigits x).length) W1 (by omega) (by show 1 * _≤_; omega)).mono ?_
      rintro e W3 ⟨rfl,b3⟩
      have h3:=builder_below h1 b3
      have b3:Below w.heap.size w W3:=b1.trans ⟨b3.os,b3.tape,b3.output,b3.size,fun i hi=>b3.block i (Nat.lt_of_lt_of_le hi b1.size)⟩
      have hrep:bl ⟨(Lib.repeatL (⟨#[48]⟩:ByteArray).data.toList (9 - (Lib.decDigits x).length)).toArray⟩=List.replicate (9 - (Lib.decDigits x).length) 48:=by
        rw [bl_mk]
        have:=Lib.repeatL_replicate 48 1 (9 - (Lib.decDigits x).length)
        rwa [Nat.mul_one] at this
      clear h1 b1
      generalize (⟨(Lib.repeatL (⟨#[48]⟩:ByteArray).data.toList (9 - (Lib.decDigits x).length)).toArray⟩:ByteArray)=Z at *
      have hZ:Z.size≤9:=by rw [← bl_size,hrep,List.length_replicate]; omega
      have cW:=WriteString_c w.heap.size w.heap.size _ Z W3 h3 (by omega) b3.size
      go_wp2_with (go_at_call 219; refine cW.mono ?_)
      rintro e W4 ⟨rfl,h4,b4⟩
      have b4:=b3.trans b4
      clear cW h3 b3
      have hX:(⟨(Lib.decDigits x).toArray⟩:ByteArray).size≤9:=by rw [← bl_size,bl_mk]; exact hdx
      have cW:=WriteString_c w.heap.size w.heap.size _ ⟨(Lib.decDigits x).toArray⟩ W4 h4 (by rw [List.length_append,bl_size]; omega) b4.size
      go_wp2_with (go_at_call 219; refine cW.mono ?_)
      rintro e W5 ⟨rfl,h5,b5⟩
      have b5:=b4.trans b5
      rw [List.append_assoc,hrep,bl_mk] at h5
      go_wp2
      go_roundg i
      case measure=>omega
      case rel=>exact ⟨i,by omega,rfl,rfl,by rw [hstep]; exact h5,b5⟩
theorem els_cell {S:Sg} {w:World} {b:Nat}:∀ {l:List Nat} {o sz:Nat},0 < sz→elsAt S w b sz o (l.map encN)→∀ (i x:Nat),l[i]?=some x→w.cell? ⟨b,o + i,none⟩=some (.int .i64 x)
  | [],_,_,_,_,i,x,h=>by simp at h
  | y :: l,o,sz,hp,h,i,x,hx=>by
    simp only [List.map_cons,elsAt] at h
    obtain ⟨h1,h2,h3⟩:=h
    have h1:sz=1:=h1.symm
    subst h1
    cases i with
    | zero=>
      simp only [List.getElem?_cons_zero,Option.some.injEq] at hx
      subst hx
      simp only [encN,cellsAt] at h2
      obtain ⟨⟨u,hu,_,hr⟩,_⟩:=h2
      simp only [rep] at hr
      subst hr
      exact hu
    | succ i=>
      have:=els_cell (by omega) h3 i x (by simpa using hx)
      rwa [Nat.add_assoc,Nat.add_comm 1 i] at this
theorem tab_of {w:World} (h:∀ t∈tabL,varCells w t.1=some t.2):Lib.TabIs Tryz.prog w "internal/strconv.uint64pow10" .u64 Lib.pow10Tab:=by
  have h1:=h (1,powTab) (by simp [tabL])
  unfold Lib.TabIs World.var?
  rw [show Tryz.prog.globalNamed "internal/strconv.uint64pow10" = some 1 by kernel_rfl]
  exact h1
theorem string_c (n:Nat) (hlen:(limbs bas n).length≤1048576):PC Tryz.prog 179 [nl n] (str (dec n)):=by
  by_cases h0:n=0
  · subst h0
    rw [nl_zero]
    refine PC.body (c:=Tryz.f179.body.getD .skip) (fun _=>false) mixed Tryz.func179 rfl (by kernel_rfl) ?_
    unfold Tryz.f179
    simp only [Option.getD_some]
    simp only [go_sem]
    refine acond_i (fun h=>?_) (fun h=>by simp at h)
    simp only [go_sem]
    refine cS ?_
    refine bl_ext ?_
    rw [bl_dec,Lib.decDigits_one (by omega)]
    rfl
  · intro S w vals hS hf ha
    simp only [repL,rep] at ha
    obtain ⟨y,t,rfl,⟨ad,m,c,rfl,e1,e2,e3,e4⟩,rfl⟩:=ha
    have hne:limbs bas n≠[]:=fun e=>h0 ((limbs_nil (by decide)).1 e)
    have hpos:=List.length_pos_iff.2 hne
    rw [List.length_map] at e1
    rcases e4 with e4 | ⟨b,o,sz,rfl,hro,hsz,hels⟩
    · simp only [List.map_eq_nil_iff] at e4; exact absurd e4 hne
    · subst e1
      refine (string_walk n w b o c hlen hpos (els_cell hsz hels) (hS.fz_lt b (hS.ro_fz b hro)) (tab_of fun t ht=>(hS.tabs t ht).2)).mono fun e w' ⟨he,hb⟩=>?_
      exact ⟨_,_,noRows,S,he,rfl,hS.after hb.size fun k hk=>hb.block k hk,by simp only [rep],hS.grow hb.os hb.tape hb.output hb.size fun k hk=>hb.block k hk,NewK.refl _ _⟩
theorem result_c (n:Nat) (hlen:(limbs bas n).length≤1048576):PC Tryz.prog 139 [nl n] (.tup [str (szN n).1,int (szN n).2]):=by
  refine PC.body (c:=Tryz.f139.body.getD .skip) (fun _=>false) mixed Tryz.func139 rfl (by kernel_rfl) ?_
  unfold Tryz.f139
  simp only [Option.getD_some]
  simp only [go_sem]
  refine PC.use (string_c n hlen) ?_
  simp only [go_sem]
  have hsm:=size_max n
  refine acond_i (fun h=>?_) (fun h=>?_)
  · have h:4096 < (dec n).size:=by simp at h; omega
    simp only [go_sem]
    rw [show szN n=(emp,4) from if_neg fun e=>by have:=hsm.2 e; omega]
    exact .refl _
  · have h:(dec n).size≤4096:=by simp at h; omega
    simp only [go_sem]
    rw [szN_ok (hsm.1 h)]
    exact .refl _
end Go.Proofs.YtpddaldlebngaaaGreatDoor.Nu
end
