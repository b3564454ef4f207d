/- Texts joined by a program: MaL, MaM, MaR, MaS, MaT, MaU, EndMP. -/
import Derived.Test.YtpddaldlebngaaaGreatDoorZp30
import Derived.Test.YtpddaldlebngaaaGreatDoorZp36
import Derived.Test.YtpddaldlebngaaaGreatDoorZp37

section
set_option linter.unusedSimpArgs false
set_option linter.unusedVariables false
namespace Go.Proofs.YtpddaldlebngaaaGreatDoor.Nu
open Go.Aw Go.Aw.D Go.Proofs Ty Go.Nu
open Dec (chkR knownR allowsR forbidsR decB hasN)
set_option maxRecDepth 100000
def smO:Order:=⟨⟨#[111,97]⟩,[1],⟨-1,0,0,0⟩,⟨0,0,50,0⟩,0,50,1,-1,-1,false⟩
def smT:VType:=⟨⟨#[118,97,110]⟩,2,0,0,[5],0,0,0,100,50,0,0,0,0⟩
def smX:Instance:=⟨⟨[⟨#[104,117,98]⟩],[]⟩,[smT],[smO],[],[]⟩
def smC:Column:=⟨0,1,7,⟨0,0,[],[⟨0,true⟩]⟩⟩
def smA:Go.Aw.D.Ask:=⟨smX,[smC],[],[]⟩
abbrev ordR (o:Order):Row:=⟨84,16,[encOrder o]⟩
abbrev typR (t:VType):Row:=⟨86,14,[encVType t]⟩
abbrev insR (x:Instance):Row:=⟨30,6,[encInstance x]⟩
abbrev askR (a:Go.Aw.D.Ask):Row:=⟨35,9,[encAsk a]⟩
def zA:Go.Aw.D.Ask:=⟨⟨⟨[],[]⟩,[],[],[],[]⟩,[],[],[]⟩
theorem simple_c:PC Tryz.prog 12 [] (.agg (encAsk smA)):=by
  refine PC.body (c:=Tryz.f12.body.getD .skip) (fun _=>false) mixed Tryz.func12 rfl (by kernel_rfl) ?_
  unfold Tryz.f12
  simp only [Option.getD_some]
  simp only [go_sem]
  refine anew_i fun i0 hi00=>?_
  generalize hGi0:updH _ i0 _=HGi0
  have R0:HGi0 i0=some (askR zA):=by rw [← hGi0,updH_same]; rfl
  clear hGi0 hi00
  simp only [go_sem,R0]
  refine anew_i fun i1 hi10=>?_
  have ne_i0_i1:i0≠i1:=ne_new R0 hi10
  simp only [go_sem,R0]
  refine wputE_n (updH_same _ _ _) (by simp) ?_
  generalize hGi1:updH (updH _ i1 _) i1 _=HGi1
  replace R0:=(congrFun hGi1.symm i0).trans ((updH_ne _ _ _ _ ne_i0_i1).trans ((updH_ne _ _ _ _ ne_i0_i1).trans R0))
  have R1:HGi1 i1=some (ordR smO):=by rw [← hGi1,updH_same]; rfl
  clear hGi1 hi10
  simp only [go_sem,R1,R0]
  refine anew_i fun i2 hi20=>?_
  have ne_i0_i2:i0≠i2:=ne_new R0 hi20
  have ne_i1_i2:i1≠i2:=ne_new R1 hi20
  simp only [go_sem,R0,R1]
  refine wputE_n (updH_same _ _ _) (by simp) ?_
  generalize hGi2:updH (updH _ i2 _) i2 _=HGi2
  replace R0:=(congrFun hGi2.symm i0).trans ((updH_ne _ _ _ _ ne_i0_i2).trans ((updH_ne _ _ _ _ ne_i0_i2).trans R0))
  replace R1:=(congrFun hGi2.symm i1).trans ((updH_ne _ _ _ _ ne_i1_i2).trans ((updH_ne _ _ _ _ ne_i1_i2).trans R1))
  have R2:HGi2 i2=some (typR smT):=by rw [← hGi2,updH_same]; rfl
  clear hGi2 hi20
  simp only [go_sem,R2,R0,R1]
  refine anew_i fun i3 hi30=>?_
  have ne_i0_i3:i0≠i3:=ne_new R0 hi30
  simp only [go_sem,R0]
  refine wputE_n (updH_same _ _ _) (by simp) ?_
  generalize hGi3:updH (updH _ i3 _) i3 _=HGi3
  replace R0:=(congrFun hGi3.symm i0).trans ((updH_ne _ _ _ _ ne_i0_i3).trans ((updH_ne _ _ _ _ ne_i0_i3).trans R0))
  have R3:HGi3 i3=some (insR smX):=by rw [← hGi3,updH_same]; rfl
  clear hGi3 hi30
  simp only [go_sem,R3,R0]
  refine wputE_n R0 (by simp; decide) ?_
  simp only [go_sem]
  exact .refl _
theorem sm_loads:LoadsOk smX 1 where
  dims:=by decide
  orders:=by decide
  types:=by decide
  load:=by
    intro o ho
    simp [smX,smO] at ho
    subst ho
    simp
  cap:=by
    intro t ht
    simp [smX,smT] at ht
    subst ht
    simp
theorem sm_build:buildM smX 1 [smC] [] []=(⟨[7,838860800],[⟨[1,1],2,1⟩,⟨[1,0],1,2⟩]⟩,0):=by decide +kernel
theorem sm_reduced:reducedM smX smC [] [] [⟨#[51]⟩,⟨#[45,49]⟩]=(⟨#[53]⟩,0):=by decide +kernel
theorem sm_plan:planM smX 1 [smC] [] [] [⟨#[48]⟩,⟨#[49]⟩]=(⟨[],[0]⟩,0):=by decide +kernel
theorem sm_rows:rowsN smX [] []=2:=by decide +kernel
theorem awake30_c:PC Tryz.prog 6 [] (boo true):=by
  have hM:MIn smX [] []:=⟨by decide,by decide,by decide,by decide⟩
  have hR:RightB smX [] []:=⟨fun t ht=>(by simp [smX,smT] at ht; subst ht; unfold i64I; decide),fun q hq=>(by cases hq),fun q hq=>(by cases hq)⟩
  have hb:=build_c smX 1 [smC] [] [] sm_loads (by simp [smX]) hM (by decide) (by simp [smC]) (by simp)
  rw [sm_build] at hb
  have hr:=mReduced_c smX smC [] [] [⟨#[51]⟩,⟨#[45,49]⟩] hM ⟨by decide⟩ ⟨fun q hq=>by cases hq⟩ (by decide) (by decide) (by simp; decide)
  rw [sm_reduced] at hr
  have hp:=plan_c smX 1 [smC] [] [] [⟨#[48]⟩,⟨#[49]⟩] sm_loads (by simp [smX]) hM (by decide) (by simp [smC]) (by simp) hR ⟨by decide,by simp; decide⟩
  rw [sm_plan] at hp
  have hp0:=hp
  clear hp
  have hw:=mRows_c smX [] [] hM
  rw [sm_rows] at hw
  refine PC.body (c:=Tryz.f6.body.getD .skip) (fun _=>false) mixed Tryz.func6 rfl (by kernel_rfl) ?_
  unfold Tryz.f6
  simp only [Option.getD_some]
  simp only [go_sem]
  refine PC.use simple_c ?_
  simp only [go_sem]
  refine anew_i fun i1 hi10=>?_
  simp only [go_sem]
  refine wputE_n (updH_same _ _ _) (by simp [encAsk_len]) ?_
  generalize hGi1:updH (updH _ i1 _) i1 _=HGi1
  have R1:HGi1 i1=some (askR smA):=by rw [← hGi1,updH_same]; rfl
  clear hGi1 hi10
  simp only [go_sem,R1]
  refine PC.use hb ?_
  simp only [go_sem]
  refine anew_i fun i2 hi20=>?_
  have ne_i1_i2:i1≠i2:=ne_new R1 hi20
  simp only [go_sem,R1]
  refine wputE_n (updH_same _ _ _) (by simp [encPLin_len]) ?_
  generalize hGi2:updH (updH _ i2 _) i2 _=HGi2
  replace R1:=(congrFun hGi2.symm i1).trans ((updH_ne _ _ _ _ ne_i1_i2).trans ((updH_ne _ _ _ _ ne_i1_i2).trans R1))
  have R2:HGi2 i2=some (⟨62,2,[encPLin ⟨[7,838860800],[⟨[1,1],2,1⟩,⟨[1,0],1,2⟩]⟩]⟩):=by rw [← hGi2,updH_same]; rfl
  clear hGi2 hi20
  simp only [go_sem,R2,R1]
  refine adraw_p [i1] [(0,true),(1,true),(2,true),(3,true),(4,true),(5,true),(6,false),(7,false),(8,false),(9,true),(10,true),(11,false),(12,false)] (by simp [R1]) (by kernel_rfl) fun Hp Hr hp hq _ hr0=>?_
  have P1:=(hp i1 (by simp)).trans R1
  have m2:i2 ∉ [i1]:=by simpa using ne_i1_i2.symm
  have S2:=(hq i2 m2).trans R2
  simp only [go_sem,P1]
  refine ⟨⟨by decide,rfl⟩,by decide,?_⟩
  refine PC.use hr ?_
  simp only [go_sem]
  refine pinEnd_i fun _ Hm hm1 hm2=>?_
  have R1:Hm i1=some (askR smA):=(hm1 i1 (by simp)).trans R1
  have R2:=(hm2 i2 m2).trans S2
  clear hm1 hm2 S2 P1 hp hq hr0
  simp only [go_sem,R1]
  refine PC.use hp0 ?_
  simp only [go_sem]
  refine anew_i fun i6 hi60=>?_
  have ne_i1_i6:i1≠i6:=ne_new R1 hi60
  have ne_i2_i6:i2≠i6:=ne_new R2 hi60
  simp only [go_sem,R1,R2]
  refine wputE_n (updH_same _ _ _) (by simp [encPlan_len]) ?_
  generalize hGi6:updH (updH _ i6 _) i6 _=HGi6
  replace R1:=(congrFun hGi6.symm i1).trans ((updH_ne _ _ _ _ ne_i1_i6).trans ((updH_ne _ _ _ _ ne_i1_i6).trans R1))
  replace R2:=(congrFun hGi6.symm i2).trans ((updH_ne _ _ _ _ ne_i2_i6).trans ((updH_ne _ _ _ _ ne_i2_i6).trans R2))
  have R6:HGi6 i6=some (⟨43,2,[encPlan ⟨[],[0]⟩]⟩):=by rw [← hGi6,updH_same]; rfl
  clear hGi6 hi60
  simp only [go_sem,R6,R1,R2]
  refine ⟨fun _=>by decide,fun _=>by decide,fun _=>by decide,int 2,fun _=>hw.q rfl,?_⟩
  simp only [go_sem]
  exact cB (a:=true) (by decide)
theorem numbers_c (a b:List Int) (ha:a.length≤1048576) (hb:b.length≤1048576):PC Tryz.prog 10 [.sl (a.map encInt),.sl (b.map encInt)] (boo (a == b)):=by
  refine PC.body (c:=Tryz.f10.body.getD .skip) (fun _=>false) mixed Tryz.func10 rfl (by kernel_rfl) ?_
  unfold Tryz.f10
  simp only [Option.getD_some]
  simp only [go_sem]
  refine acond_i (fun h1=>?_) (fun h1=>?_)
  · simp only [go_sem]
    refine cB ?_
    symm
    rw [beq_eq_false_iff_ne]
    intro e
    rw [e] at h1
    simp at h1
  have hl:a.length=b.length:=by simp at h1; omega
  simp only [go_sem]
  refine ⟨fun ρ H=>∃ (k:Nat),k≤a.length∧ρ 0=.sl (a.map encInt)∧ρ 1=.sl (b.map encInt)∧ρ 5=int k∧∀ i,i < k→a[i]?=b[i]?,fun ρ _=>a.length - natOf (ρ 5),⟨0,Nat.zero_le _,by simp only [go_sem],by simp only [go_sem],(by simp only [go_sem]; rfl),fun i hi=>absurd hi (by omega)⟩,?_⟩
  rintro ρ H ⟨k,hk,e0,e1,e5,hz⟩
  simp only [go_sem,e0,e1,e5]
  refine acond_i (fun hlt=>?_) (fun hge=>?_)
  · have hlt:=ltB (by simpa using hlt)
    obtain ⟨m,hm⟩:=getIn hlt
    obtain ⟨n,hn⟩:=getIn (show k < b.length by omega)
    have b1:=inB hlt
    have b2:=inB (show k < b.length by omega)
    simp only [go_sem,e0,e1,e5]
    refine adraw_q (by rfl) (by kernel_rfl) ?_
    simp only [go_sem,e0,e1,e5,getD_map hm,b1,getD_map hn,b2]
    refine acond_i (fun hb=>?_) (fun hb=>?_)
    · simp only [go_sem]
      refine cB ?_
      symm
      rw [beq_eq_false_iff_ne]
      intro e
      rw [e,hn] at hm
      have:n=m:=Option.some.inj hm
      simp [this] at hb
    · simp only [go_sem,e0,e1,e5,wrapS (show k≤4611686018427387904 by omega)]
      refine ⟨⟨k + 1,hlt,rfl,fun i hi=>?_⟩,by simp only [natOf_int]; omega⟩
      by_cases e:i=k
      · subst e
        rw [hm,hn]
        exact congrArg some (by simpa using hb)
      · exact hz i (by omega)
  have hge:=geB hk (by simpa using hge)
  subst hge
  simp only [go_sem,e0,e1,e5]
  refine cB ?_
  symm
  rw [beq_iff_eq]
  refine List.ext_getElem? fun i=>?_
  by_cases hi:i < a.length
  · exact hz i hi
  · rw [List.getElem?_eq_none (by omega),List.getElem?_eq_none (by omega)]
def shortP (l:List ByteArray):Bool:=decide (l.length≤60) && !(l.take 61).any fun s=>decide ((s.size:Int) > 60)
theorem short_c (l:List ByteArray) (hl:l.length≤1048576):PC Tryz.prog 5 [.sl (l.map Go.Aw.D.encStr)] (boo (shortP l)):=by
  refine PC.body (c:=Tryz.f5.body.getD .skip) (fun _=>false) mixed Tryz.func5 rfl (by kernel_rfl) ?_
  unfold Tryz.f5
  simp only [Option.getD_some]
  simp only [go_sem]
  refine ⟨fun ρ H=>∃ k:Nat,k≤61∧k≤l.length∧ρ 0=.sl (l.map Go.Aw.D.encStr)∧ρ 3=int k∧∀ s∈l.take k,decide ((s.size:Int) > 60)=false,fun ρ _=>61 - natOf (ρ 3),⟨0,by omega,by omega,by simp only [go_sem],by simp only [go_sem]; rfl,by simp⟩,?_⟩
  rintro ρ H ⟨k,hk,hkl,e0,e3,hz⟩
  simp only [go_sem,e0,e3,List.length_map]
  refine acond_i (fun hlt=>?_) (fun hge=>?_)
  · have hlt:k < l.length∧k < 61:=by simp at hlt; omega
    obtain ⟨s,hs⟩:=getIn hlt.1
    have b1:=inB hlt.1
    simp only [go_sem,e0,e3,getD_map hs,b1]
    refine acond_i (fun hb=>?_) (fun hb=>?_)
    · simp only [go_sem]
      refine cB ?_
      unfold shortP
      rw [List.any_eq_true.2 ⟨s,List.mem_of_getElem? (by rw [List.getElem?_take_of_lt hlt.2]; exact hs),hb⟩]
      simp
    · simp only [go_sem,e0,e3,wrapS (show k≤4611686018427387904 by omega)]
      exact ⟨⟨k + 1,by omega,by omega,rfl,take_all' (p:=fun s:ByteArray=>decide ((s.size:Int) > 60)=false) hs hb hz⟩,by simp only [natOf_int]; omega⟩
  · have hge:¬ (k < l.length∧k < 61):=by simp at hge; omega
    simp only [go_sem,e0,e3,List.length_map]
    refine cB ?_
    unfold shortP
    have ht:l.take 61=l.take k:=by
      by_cases h:k=61
      · rw [h]
      · rw [List.take_of_length_le (by omega),List.take_of_length_le (by omega)]
    have ha:((l.take 61).any fun s=>decide ((s.size:Int) > 60))=false:=by
      rw [ht,List.any_eq_false]
      intro s hs
      rw [hz s hs]; simp
    rw [ha]
    simp
    try omega
def smallP (a:Go.Aw.D.Ask):Bool:=!(decide ((a.l.length:Int) > 40) || decide ((a.cuts.length:Int) > 12) || decide ((a.d.length:Int) > 12) || decide ((a.x.orders.length:Int) > 5) || decide (((checkR a.x).length:Int) > 0)) && !a.l.any fun c=>decide ((c.route.visits.length:Int) > 12)
theorem small_c (a:Go.Aw.D.Ask) (hx:InB a.x) (hl:a.l.length≤1048576):PC Tryz.prog 4 [.agg (encAsk a)] (boo (smallP a)):=by
  refine PC.body (c:=Tryz.f4.body.getD .skip) (fun _=>false) mixed Tryz.func4 rfl (by kernel_rfl) ?_
  unfold Tryz.f4
  simp only [Option.getD_some]
  simp only [go_sem]
  refine ⟨_,fun _=>(NC.pc (check_c a.x hx)).qn,?_⟩
  simp only [go_sem,List.length_map]
  refine acond_i (fun hb=>?_) (fun hb=>?_)
  · simp only [go_sem]
    refine cB ?_
    unfold smallP
    rw [hb]; rfl
  unfold smallP
  rw [hb]
  simp only [go_sem]
  refine ⟨fun ρ H=>∃ (k:Nat),k≤a.l.length∧ρ 1=.rp (encAsk a) 0∧ρ 3=int k∧∀ c∈a.l.take k,decide ((c.route.visits.length:Int) > 12)=false,fun ρ _=>a.l.length - natOf (ρ 3),⟨0,Nat.zero_le _,by simp only [go_sem],(by simp only [go_sem]; rfl),by simp⟩,?_⟩
  rintro ρ H ⟨k,hk,e1,e3,hz⟩
  simp only [go_sem,e1,e3]
  refine acond_i (fun hlt=>?_) (fun hge=>?_)
  · have hlt:=ltB (by simpa using hlt)
    obtain ⟨c,hc⟩:=getIn hlt
    have b1:=inB hlt
    simp only [go_sem,e1,e3,getD_map hc,b1]
    refine acond_i (fun hd=>?_) (fun hd=>?_)
    · simp only [go_sem]
      refine cB ?_
      rw [List.any_eq_true.2 ⟨c,List.mem_of_getElem? hc,hd⟩]
      rfl
    · simp only [go_sem,e1,e3,wrapS (show k≤4611686018427387904 by omega)]
      exact ⟨⟨k + 1,hlt,rfl,take_all' (p:=fun c:Column=>decide ((c.route.visits.length:Int) > 12)=false) hc hd hz⟩,by simp only [natOf_int]; omega⟩
  have hge:=geB hk (by simpa using hge)
  subst hge
  rw [List.take_length] at hz
  simp only [go_sem,e1,e3]
  refine cB ?_
  have:(a.l.any fun c=>decide ((c.route.visits.length:Int) > 12))=false:=by
    rw [List.any_eq_false]
    intro c hc
    rw [hz c hc]; simp
  rw [this]; rfl
theorem small_acc {a:Go.Aw.D.Ask} (h:smallP a=true):Acc a.x∧a.l.length≤40∧a.cuts.length≤12∧a.d.length≤12∧a.x.orders.length≤5:=by
  unfold smallP at h
  simp only [Bool.and_eq_true,Bool.not_eq_true',Bool.or_eq_false_iff,decide_eq_false_iff_not] at h
  obtain ⟨⟨⟨⟨⟨h1,h2⟩,h3⟩,h4⟩,h5⟩,_⟩:=h
  exact ⟨acc_of (List.eq_nil_of_length_eq_zero (by omega)),by omega,by omega,by omega,by omega⟩
end Go.Proofs.YtpddaldlebngaaaGreatDoor.Nu
end

section
set_option linter.unusedSimpArgs false
set_option linter.unusedVariables false
namespace Go.Proofs.YtpddaldlebngaaaGreatDoor.Nu
open Go.Aw Go.Aw.D Go.Proofs Ty Go.Nu
open Dec (chkR knownR allowsR forbidsR decB hasN)
set_option maxRecDepth 100000
end Go.Proofs.YtpddaldlebngaaaGreatDoor.Nu
end

section
set_option linter.unusedSimpArgs false
set_option linter.unusedVariables false
namespace Go.Proofs.YtpddaldlebngaaaGreatDoor.Nu
open Go.Aw Go.Aw.D Go.Proofs Ty Go.Nu
open Dec (chkR allowsR forbidsR decB hasN)
set_option maxRecDepth 100000
end Go.Proofs.YtpddaldlebngaaaGreatDoor.Nu
end

section
set_option linter.unusedSimpArgs false
set_option linter.unusedVariables false
namespace Go.Proofs.YtpddaldlebngaaaGreatDoor.Nu
open Go.Aw Go.Aw.D Go.Proofs Ty Go.Nu
open Dec (chkR allowsR forbidsR decB hasN)
set_option maxRecDepth 100000
structure AskB (a:Go.Aw.D.Ask):Prop where
  x:InB a.x
  l:a.l.length≤1048576
  set:∀ c∈a.l,i64I c.set
  cset:∀ q∈a.cuts,q.set≤9223372036854775807
  right:RightB a.x a.cuts a.d
  dec:∀ d∈a.d,decB d
def askD (a:Go.Aw.D.Ask):Nat:=(dimsR a.x.types).toNat
end Go.Proofs.YtpddaldlebngaaaGreatDoor.Nu
end

section
set_option linter.unusedSimpArgs false
set_option linter.unusedVariables false
namespace Go.Proofs.YtpddaldlebngaaaGreatDoor.Nu
open Go.Aw Go.Aw.D Go.Proofs Ty Go.Nu
open Dec (chkR allowsR forbidsR decB hasN)
set_option maxRecDepth 100000
theorem keep3 {H:Heap} {i a b j':Nat} {row:Row} {x y:Row} (h:H i=some row) (h1:i≠a) (h2:i≠b) (hj:H j'=none):updH (updH (updH H a none) j' (some x)) b (some y) i=some row:=by
  rw [updH_ne _ _ _ _ h2,updH_ne _ _ _ _ (ne_new h hj),updH_ne _ _ _ _ h1]; exact h
theorem plan30_c (x : Instance) (d : Nat) (cols : List Column) (cuts : List Cut) (ds : List Decision) (v : List ByteArray) (hlo : LoadsOk x d) (hne : x.types ≠ []) (h : MIn x cuts ds) (hl : cols.length ≤ 1048576) (hs : ∀ c ∈ cols, i64I c.set) (hq : ∀ q ∈ cuts, q.set ≤ 9223372036854775807)
    (hdb:∀ d∈ds,decB d) (hR:RightB x cuts ds) (hv:VarB v):PC Tryz.prog 8 [.agg (encInstance x),.sl (cols.map encColumn),.sl (cuts.map encCut),.sl (ds.map encDecision),.sl (v.map Go.Aw.D.encStr)] (.tup [.agg (encPlan (planM x d cols cuts ds v).1),int (planM x d cols cuts ds v).2]):=by
  have h1:=h.orders
  have h4:=h.dl
  have hv1:=hv.len
  refine PC.body (c:=Tryz.f8.body.getD .skip) (fun t=>t == 16) mixed Tryz.func8 rfl (by kernel_rfl) ?_
  unfold Tryz.f8
  simp only [Option.getD_some]
  simp only [go_sem]
  refine anew_i fun i10 h10=>?_
  have R10:=updH_same noRows i10 (some zPlan)
  generalize updH noRows i10 _=H0 at R10 ⊢
  clear h10
  simp only [go_sem]
  refine PC.use (build30_c x d cols cuts ds hlo hne h hl hs hq hdb) ?_
  have hok:=build_ok (x:=x) (d:=d) (cols:=cols) (cuts:=cuts) (ds:=ds)
  have hlin:=build_lin (x:=x) (d:=d) (cols:=cols) (cuts:=cuts) (ds:=ds)
  unfold planM
  generalize buildM x d cols cuts ds=B at *
  obtain ⟨p,e⟩:=B
  simp only at hok hlin
  simp only [go_sem]
  refine anew_i fun i12 hi120=>?_
  have ne_i10_i12:i10≠i12:=ne_new R10 hi120
  simp only [go_sem,R10]
  refine wputE_n (updH_same _ _ _) (by simp [encPLin_len]) ?_
  generalize hGi12:updH (updH _ i12 _) i12 _=HGi12
  replace R10:=(congrFun hGi12.symm i10).trans ((updH_ne _ _ _ _ ne_i10_i12).trans ((updH_ne _ _ _ _ ne_i10_i12).trans R10))
  have R12:HGi12 i12=some (⟨62,2,[encPLin p]⟩):=by rw [← hGi12,updH_same]; rfl
  clear hGi12 hi120
  simp only [go_sem,R12,R10]
  refine acond_i (fun hb=>?_) (fun hb=>?_)
  · rw [if_pos (by simpa using hb)]
    simp only [go_sem]
    refine wputE_n R10 (by simp) ?_
    simp only [go_sem]
    exact .refl _
  have he:e=0:=by simpa using hb
  obtain ⟨hw0,k1,k2,k3,k4,k5,k6⟩:=hok he hR
  obtain ⟨hck,hw2,hw3⟩:=wrong_zero hw0
  have hsb:∀ c∈cols,0≤c.set∧c.set≤9223372036854775807:=fun c hc=>⟨by have:=badC_set (hw3 c hc); omega,(hs c hc).2⟩
  have hp:=hlin he hR
  rw [if_neg (by simpa using he)]
  simp only [go_sem,R12,List.length_map]
  refine acond_i (fun hb=>?_) (fun hb=>?_)
  · rw [if_pos (by simp at hb ⊢; omega)]
    simp only [go_sem]
    refine wputE_n R10 (by simp) ?_
    simp only [go_sem]
    exact .refl _
  have hvl:v.length=p.cost.length:=by simp at hb; omega
  rw [if_neg (by simp; omega)]
  simp only [go_sem]
  refine PC.use (inside30_c x cols ds hck h1 hl h4 hdb hsb) ?_
  simp only [go_sem]
  refine PC.use (skips30_c x ds h1 h4) ?_
  generalize inM cols ds=L at *
  generalize skipsM x ds=K at *
  simp only [go_sem]
  refine anew_i fun ja h1a=>?_
  refine anew_i fun jb h2a=>?_
  refine anew_i fun i16 h3a=>?_
  have m1:=mono_new h1a (some (⟨55,4,[]⟩:Row))
  have m2:=mono_new h2a (some (⟨3,1,[]⟩:Row))
  have m3:=mono_new h3a (some (plRow ja jb))
  have S:PlS (updH (updH (updH HGi12 ja (some (⟨55,4,[]⟩:Row))) jb (some ⟨3,1,[]⟩)) i16 (some (plRow ja jb))) i10 i16 ja jb [] []:=
    ⟨m3 _ _ (m2 _ _ (m1 _ _ R10)),updH_same _ _ _,m3 _ _ (m2 _ _ (updH_same _ _ _)),m3 _ _ (updH_same _ _ _),ne_new (m2 _ _ (m1 _ _ R10)) h3a⟩
  replace R12:=m3 _ _ (m2 _ _ (m1 _ _ R12))
  generalize hG:updH (updH (updH HGi12 ja _) jb _) i16 _=G
  rw [hG] at R12
  replace S:PlS G i10 i16 ja jb [] []:=by rw [← hG]; exact S
  clear hG h1a h2a h3a R10 m1 m2 m3
  simp only [go_sem]
  refine ⟨fun ρ H=>∃ (k:Nat) (ja:Nat) (jb:Nat),k≤v.length∧ρ 4=.sl (v.map Go.Aw.D.encStr)∧ρ 10=.op i10 0 0∧ρ 12=.op i12 0 0∧ρ 14=.sl (L.map encColumn)∧ρ 15=.sl (K.map encInt)∧ρ 16=.op i16 0 0∧ρ 17=int k∧H i12=some (⟨62,2,[encPLin p]⟩:Row)∧(∀ s∈v.take k,badB s=false)∧PlS H i10 i16 ja jb ((pickTo L v 0 (min k L.length)).map fun c=>c.route) (pickTo K v L.length (k - L.length)),fun ρ _=>v.length - natOf (ρ 17),⟨0,ja,jb,Nat.zero_le _,by simp only [go_sem],by simp only [go_sem],by simp only [go_sem],by simp only [go_sem],by simp only [go_sem],by simp only [go_sem],(by simp only [go_sem]; rfl),R12,by simp,by simpa [pickTo] using S⟩,?_⟩
  rintro ρ H ⟨k,ja,jb,hk,e4,e10,e12,e14,e15,e16,e17,R12,hz,S⟩
  simp only [go_sem,e4,e10,e12,e14,e15,e16,e17]
  refine acond_i (fun hlt=>?_) (fun hge=>?_)
  · have hlt:=ltB (by simpa using hlt)
    obtain ⟨s,hs1⟩:=getIn hlt
    have b1:=inB hlt
    have hpl:=pickTo_len L v 0 (min k L.length)
    have hpk:=pickTo_len K v L.length (k - L.length)
    simp only [go_sem,e4,e10,e12,e14,e15,e16,e17,getD_map hs1,b1]
    refine acond_i (fun hb=>?_) (fun hb=>?_)
    · have hb:badB s=true:=hb
      rw [if_pos (List.any_eq_true.2 ⟨s,List.mem_of_getElem? hs1,hb⟩)]
      simp only [go_sem,e4,e10,e12,e14,e15,e16,e17]
      refine wputE_n S.r10 (by simp) ?_
      simp only [go_sem,e4,e10,e12,e14,e15,e16,e17]
      exact .refl _
    have hz':=take_all' (p:=fun s=>badB s=false) hs1 hb hz
    simp only [go_sem,e4,e10,e12,e14,e15,e16,e17,getD_map hs1,b1,List.length_map]
    refine acond_join (fun ρ' H'=>ρ' 4=.sl (v.map Go.Aw.D.encStr)∧ρ' 10=.op i10 0 0∧ρ' 12=.op i12 0 0∧ρ' 14=.sl (L.map encColumn)∧ρ' 15=.sl (K.map encInt)∧ρ' 16=.op i16 0 0∧ρ' 17=int k∧H' i12=some (⟨62,2,[encPLin p]⟩:Row)∧∃ ja',PlS H' i10 i16 ja' jb ((pickTo L v 0 (min (k + 1) L.length)).map fun c=>c.route) (pickTo K v L.length (k - L.length))) ?_ fun K' hK=>acond_i (fun hb=>?_) (fun hb=>?_)
    rotate_left
    · have hb2 : is1 s = true ∧ k < L.length := by
        simp only [Bool.and_eq_true,decide_eq_true_eq] at hb
        exact ⟨hb.1,by omega⟩
      obtain ⟨c,hc⟩:=getIn hb2.2
      have b2:=inB hb2.2
      have hpp:=pickTo_succ (off:=0) hc (by rw [Nat.zero_add]; exact hs1)
      rw [if_pos hb2.1] at hpp
      rw [show min k L.length=k by omega] at S hpl
      rw [show min (k + 1) L.length=k + 1 by omega,hpp,List.map_append] at hK
      simp only [go_sem,e4,e10,e12,e14,e15,e16,e17]
      refine adraw_t [] (.q 0 (.q 2 (.q 3 (.q 4 (.q 5 (.q 6 (.a2 1 (.a1 7 (.a1 8 (.a1 9 (.a1 10 .nil)))) 7 (.a1 1 (.a1 8 (.a1 9 (.a1 10 .nil))))))))))) (by simp) (by kernel_rfl) fun Hp Hr _ hq _ _=>?_
      replace S:=S.mono fun q row h=>(hq q (by simp)).trans h
      replace R12:=(hq i12 (by simp)).trans R12
      simp only [go_sem,e4,e10,e12,e14,e15,e16,e17,getD_map hc,b2,S.r16]
      repeat' (first | (refine amixt_2i ?_ ?_) | (simp only [go_sem,e4,e10,e12,e14,e15,e16,e17,getD_map hc,b2,S.r16]))
      all_goals
        refine wappE_i S.ra ⟨rfl,rfl⟩ ⟨rfl,trivial⟩ (by simp only [List.length_map,List.length_cons,List.length_nil]; omega) (fun ja' hj=>?_)
        have S2:=S.appA hj c.route
        have R16':=keep_app (r':=(⟨55,4,((pickTo L v 0 k).map fun c=>c.route).map encRoute ++ [encRoute c.route]⟩:Row)) S.r16 (row_ne' S.r16 S.ra rfl).symm hj
        simp only [go_sem,e4,e10,e12,e14,e15,e16,e17]
        refine wputE_1 so40 R16' ⟨by simp,rfl,by simp⟩ ?_
        exact pinEnd_i fun _ Hm _ hm2=>hK _ _ ⟨by simp only [go_sem,e4,e10,e12,e14,e15,e16,e17],by simp only [go_sem,e4,e10,e12,e14,e15,e16,e17],by simp only [go_sem,e4,e10,e12,e14,e15,e16,e17],by simp only [go_sem,e4,e10,e12,e14,e15,e16,e17],by simp only [go_sem,e4,e10,e12,e14,e15,e16,e17],by simp only [go_sem,e4,e10,e12,e14,e15,e16,e17],by simp only [go_sem,e4,e10,e12,e14,e15,e16,e17],(hm2 i12 (by simp)).trans (keep3 R12 (row_ne' R12 S.ra rfl) (row_ne' R12 S.r16 rfl) hj),ja',S2.mono fun q row h=>(hm2 q (by simp)).trans h⟩
    · have hpp : pickTo L v 0 (min (k + 1) L.length) = pickTo L v 0 (min k L.length) := by
        by_cases hkn:k < L.length
        · obtain ⟨c,hc⟩:=getIn hkn
          have hpp:=pickTo_succ (off:=0) hc (by rw [Nat.zero_add]; exact hs1)
          have hs0:¬ is1 s=true:=fun hc=>by
            have:(is1 s && decide ((k:Int) < (L.length:Int)))=false:=hb
            rw [hc,Bool.true_and,decide_eq_false_iff_not] at this
            omega
          rw [show min k L.length=k by omega,show min (k + 1) L.length=k + 1 by omega,hpp,if_neg hs0,List.append_nil]
        · rw [show min k L.length=min (k + 1) L.length by omega]
      simp only [go_sem,e4,e10,e12,e14,e15,e16,e17]
      exact hK _ _ ⟨by simp only [go_sem,e4,e10,e12,e14,e15,e16,e17],by simp only [go_sem,e4,e10,e12,e14,e15,e16,e17],by simp only [go_sem,e4,e10,e12,e14,e15,e16,e17],by simp only [go_sem,e4,e10,e12,e14,e15,e16,e17],by simp only [go_sem,e4,e10,e12,e14,e15,e16,e17],by simp only [go_sem,e4,e10,e12,e14,e15,e16,e17],by simp only [go_sem,e4,e10,e12,e14,e15,e16,e17],R12,ja,by rw [hpp]; exact S⟩
    clear S R12 e4 e10 e12 e14 e15 e16 e17
    rintro ρ H ⟨e4,e10,e12,e14,e15,e16,e17,R12,ja',S⟩
    simp only [go_sem,e4,e10,e12,e14,e15,e16,e17,getD_map hs1,b1,List.length_map]
    refine acond_i (fun hb=>?_) (fun hb=>?_)
    · have hb2 : is1 s = true ∧ L.length ≤ k := by
        simp only [Bool.and_eq_true,decide_eq_true_eq] at hb
        exact ⟨hb.1,by omega⟩
      obtain ⟨o,ho⟩:=getIn (show k - L.length < K.length by omega)
      have b2:=inB (show k - L.length < K.length by omega)
      have hpp:=pickTo_succ (off:=L.length) ho (by rw [show L.length + (k - L.length)=k by omega]; exact hs1)
      rw [if_pos hb2.1] at hpp
      have w:IntKind.i64.wrap ((k:Int) - (L.length:Int))=((k - L.length:Nat):Int):=by rw [wrap_in (by omega)]; omega
      simp only [go_sem,e4,e10,e12,e14,e15,e16,e17]
      refine adraw_t [] (.q 0 (.q 2 (.q 3 (.q 4 (.q 5 (.q 6 (.q 7 (.q 8 (.a2 1 (.a1 9 (.a1 10 (.a1 11 (.a1 12 .nil)))) 9 (.a1 1 (.a1 10 (.a1 11 (.a1 12 .nil))))))))))))) (by simp) (by kernel_rfl) fun Hp Hr _ hq _ _=>?_
      replace S:=S.mono fun q row h=>(hq q (by simp)).trans h
      replace R12:=(hq i12 (by simp)).trans R12
      simp only [go_sem,e4,e10,e12,e14,e15,e16,e17,List.length_map,w,getD_map ho,b2,S.r16]
      repeat' (first | (refine amixt_2i ?_ ?_) | (simp only [go_sem,e4,e10,e12,e14,e15,e16,e17,List.length_map,w,getD_map ho,b2,S.r16]))
      all_goals
        refine wappE_i S.rb ⟨rfl,rfl⟩ ⟨rfl,trivial⟩ (by simp only [List.length_map,List.length_cons,List.length_nil]; omega) (fun jb' hj=>?_)
        have S2:=S.appB hj o
        have R16':=keep_app (r':=(⟨3,1,(pickTo K v L.length (k - L.length)).map encInt ++ [[int o]]⟩:Row)) S.r16 (row_ne' S.r16 S.rb rfl).symm hj
        simp only [go_sem,e4,e10,e12,e14,e15,e16,e17]
        refine wputE_1 so41 R16' ⟨by simp,rfl,by simp⟩ ?_
        refine pinEnd_i fun _ Hm _ hm2=>?_
        simp only [go_sem,e4,e10,e12,e14,e15,e16,e17,wrapS (show k≤4611686018427387904 by omega)]
        refine ⟨⟨k + 1,ja',jb',hlt,rfl,(hm2 i12 (by simp)).trans (keep3 R12 (row_ne' R12 S.rb rfl) (row_ne' R12 S.r16 rfl) hj),hz',?_⟩,by simp only [natOf_int]; omega⟩
        rw [show k + 1 - L.length=k - L.length + 1 by omega,hpp]
        exact S2.mono fun q row h=>(hm2 q (by simp)).trans h
    · have hpp : pickTo K v L.length (k + 1 - L.length) = pickTo K v L.length (k - L.length) := by
        by_cases hkn:k < L.length
        · rw [show k + 1 - L.length=k - L.length by omega]
        · obtain ⟨o,ho⟩:=getIn (show k - L.length < K.length by omega)
          have hpp:=pickTo_succ (off:=L.length) ho (by rw [show L.length + (k - L.length)=k by omega]; exact hs1)
          have hs0:¬ is1 s=true:=fun hc=>by
            have:(is1 s && decide ((k:Int)≥(L.length:Int)))=false:=hb
            rw [hc,Bool.true_and,decide_eq_false_iff_not] at this
            omega
          rw [show k + 1 - L.length=k - L.length + 1 by omega,hpp,if_neg hs0,List.append_nil]
      simp only [go_sem,e4,e10,e12,e14,e15,e16,e17,wrapS (show k≤4611686018427387904 by omega)]
      exact ⟨⟨k + 1,ja',jb,hlt,rfl,R12,hz',by rw [hpp]; exact S⟩,by simp only [natOf_int]; omega⟩
  have hge:=geB hk (by simpa using hge)
  subst hge
  rw [List.take_length] at hz
  rw [if_neg (fun hc=>by obtain ⟨s,hs1,hs2⟩:=List.any_eq_true.1 hc; rw [hz s hs1] at hs2; cases hs2)]
  rw [show min v.length L.length=L.length by omega,show v.length - L.length=K.length by omega] at S
  simp only [go_sem,e4,e10,e12,e14,e15,e16,e17,R12]
  refine PC.use (fits25_c p v hp hv) ?_
  simp only [go_sem,e4,e10,e12,e14,e15,e16,e17]
  refine acond_i (fun hb=>?_) (fun hb=>?_)
  · rw [if_pos (by simpa using hb)]
    simp only [go_sem,e4,e10,e12,e14,e15,e16,e17]
    refine wputE_n S.r10 (by simp) ?_
    simp only [go_sem,e4,e10,e12,e14,e15,e16,e17]
    exact .refl _
  rw [if_neg (by simpa using hb)]
  simp only [go_sem,e4,e10,e12,e14,e15,e16,e17,S.r16]
  refine wputE_n S.r10 (by simp) ?_
  have n1:ja≠i10:=row_ne' S.ra S.r10 rfl
  have n2:jb≠i10:=row_ne' S.rb S.r10 rfl
  simp only [go_sem,e4,e10,e12,e14,e15,e16,e17]
  refine .tup _ _ (.cons _ _ _ _ (.agg _ _ (.cons _ _ _ _ (.row _ _ _ ((updH_ne _ _ _ _ n1).trans S.ra) (ConvE.refl _)) (.cons _ _ _ _ (.row _ _ _ ((updH_ne _ _ _ _ n2).trans S.rb) (ConvE.refl _)) .nil))) (.cons _ _ _ _ (.refl _) .nil))
end Go.Proofs.YtpddaldlebngaaaGreatDoor.Nu
end

section
set_option linter.unusedSimpArgs false
set_option linter.unusedVariables false
namespace Go.Proofs.YtpddaldlebngaaaGreatDoor.Nu
open Go.Aw Go.Aw.D Go.Proofs Ty Go.Nu
open Dec (chkR allowsR forbidsR decB hasN)
set_option maxRecDepth 100000
theorem eqVis (d:Visit):eqCells [0,2] (encVisit d) (encVisit d)=some true:=by simp [encVisit,eqCells,eqCell,andO]
theorem routes_c (l:List Route) (h1:l.length≤1048576) (h2:∀ r∈l,r.visits.length≤1048576):PC Tryz.prog 9 [.sl (l.map encRoute),.sl (l.map encRoute)] (boo true):=by
  refine PC.body (c:=Tryz.f9.body.getD .skip) (fun _=>false) mixed Tryz.func9 rfl (by kernel_rfl) ?_
  unfold Tryz.f9
  simp only [Option.getD_some]
  simp only [go_sem]
  refine acond_i (fun hb=>?_) (fun hb=>?_)
  · simp at hb
  simp only [go_sem]
  refine ⟨fun ρ H=>∃ (k:Nat),k≤l.length∧ρ 0=.sl (l.map encRoute)∧ρ 1=.sl (l.map encRoute)∧ρ 5=int k,fun ρ _=>l.length - natOf (ρ 5),⟨0,Nat.zero_le _,by simp only [go_sem],by simp only [go_sem],(by simp only [go_sem]; rfl)⟩,?_⟩
  rintro ρ H ⟨k,hk,e0,e1,e5⟩
  simp only [go_sem,e0,e1,e5]
  refine acond_i (fun hlt=>?_) (fun hge=>?_)
  · have hlt:=ltB (by simpa using hlt)
    obtain ⟨r,hr⟩:=getIn hlt
    have b1:=inB hlt
    have hl:=h2 r (List.mem_of_getElem? hr)
    simp only [go_sem,e0,e1,e5]
    refine adraw_m [(0,true),(1,true),(2,true),(3,true),(4,true),(5,true),(6,true),(7,true),(8,true),(9,true),(10,true),(11,true),(12,true),(13,true),(14,true),(15,true),(16,true),(17,true),(18,true),(19,true),(20,true),(21,true),(22,true),(23,true),(24,true),(25,true)] (by kernel_rfl) ?_
    simp only [go_sem,e0,e1,e5,getD_map hr,b1,List.length_map]
    refine acond_i (fun hb=>?_) (fun hb=>?_)
    · simp at hb
    simp only [go_sem,e0,e1,e5]
    generalize k=k0 at *
    refine ⟨fun ρ H=>∃ (k:Nat),k≤r.visits.length∧ρ 0=.sl (l.map encRoute)∧ρ 1=.sl (l.map encRoute)∧ρ 5=int (k0:Nat)∧ρ 6=int k,fun ρ _=>r.visits.length - natOf (ρ 6),⟨0,Nat.zero_le _,by simp only [go_sem,e0,e1,e5],by simp only [go_sem,e0,e1,e5],by simp only [go_sem,e0,e1,e5],(by simp only [go_sem,e0,e1,e5]; rfl)⟩,?_⟩
    rintro ρ H ⟨k,hk,e0,e1,e5,e6⟩
    simp only [go_sem,e0,e1,e5,e6,getD_map hr,b1,List.length_map]
    refine acond_i (fun hlt=>?_) (fun hge=>?_)
    · have hlt2:=ltB (by simpa using hlt)
      obtain ⟨w,hw⟩:=getIn hlt2
      have b2:=inB hlt2
      simp only [go_sem,e0,e1,e5,e6]
      refine adraw_m [(0,true),(1,true),(2,true),(3,true),(4,true),(5,true),(6,true),(7,true),(8,true),(9,true),(10,true),(11,true),(12,true),(13,true),(14,true),(15,true),(16,true)] (by kernel_rfl) ?_
      simp only [go_sem,e0,e1,e5,e6,getD_map hr,b1,getD_map hw,b2,eqVis]
      refine acond_i (fun hb=>by cases hb) (fun hb=>?_)
      simp only [go_sem,e0,e1,e5,e6,wrapS (show k≤4611686018427387904 by omega)]
      exact ⟨⟨k + 1,hlt2,rfl⟩,by simp only [natOf_int]; omega⟩
    have hge:=geB hk (by simpa using hge)
    subst hge
    simp only [go_sem,e0,e1,e5,e6,wrapS (show k0≤4611686018427387904 by omega)]
    exact ⟨⟨k0 + 1,by omega,rfl⟩,by simp only [natOf_int]; omega⟩
  have hge:=geB hk (by simpa using hge)
  subst hge
  simp only [go_sem,e0,e1,e5]
  exact .refl _
theorem small_visits {a:Go.Aw.D.Ask} (h:smallP a=true):∀ c∈a.l,c.route.visits.length≤12:=by
  unfold smallP at h
  simp only [Bool.and_eq_true,Bool.not_eq_true',List.any_eq_false,decide_eq_true_eq] at h
  intro c hc
  have:=h.2 c hc
  omega
theorem plan_len {x:Instance} {d:Nat} {cols:List Column} {cuts:List Cut} {ds:List Decision} {v:List ByteArray}:(planM x d cols cuts ds v).1.routes.length≤(inM cols ds).length∧(planM x d cols cuts ds v).1.unserved.length≤(skipsM x ds).length∧∀ r∈(planM x d cols cuts ds v).1.routes,∃ c∈cols,r=c.route:=by
  unfold planM
  split
  · exact ⟨Nat.zero_le _,Nat.zero_le _,fun r hr=>by cases hr⟩
  split
  · exact ⟨Nat.zero_le _,Nat.zero_le _,fun r hr=>by cases hr⟩
  split
  · exact ⟨Nat.zero_le _,Nat.zero_le _,fun r hr=>by cases hr⟩
  split
  · exact ⟨Nat.zero_le _,Nat.zero_le _,fun r hr=>by cases hr⟩
  refine ⟨by rw [List.length_map]; exact pickTo_len _ _ _ _,pickTo_len _ _ _ _,fun r hr=>?_⟩
  obtain ⟨c,hc,rfl⟩:=List.mem_map.1 hr
  unfold pickTo at hc
  obtain ⟨i,_,hi⟩:=List.mem_filterMap.1 hc
  split at hi
  · next a s ha hs=>
    split at hi
    · cases hi
      exact ⟨_,(List.mem_filter.1 (List.mem_of_getElem? ha)).1,rfl⟩
    · cases hi
  · cases hi
theorem masterPlans_c (a:Go.Aw.D.Ask) (v:List ByteArray) (hA:AskB a) (hv:VarB v):PC Tryz.prog 3 [.agg (encAsk a),.sl (v.map Go.Aw.D.encStr)] (boo true):=by
  refine PC.body (c:=Tryz.f3.body.getD .skip) (fun _=>false) mixed Tryz.func3 rfl (by kernel_rfl) ?_
  unfold Tryz.f3
  simp only [Option.getD_some]
  simp only [go_sem]
  refine PC.use (small_c a hA.x hA.l) ?_
  simp only [go_sem]
  refine ⟨_,fun _=>(short_c v hv.len).q rfl,?_⟩
  simp only [go_sem]
  refine acond_i (fun hb=>?_) (fun hb=>?_)
  · simp only [go_sem]
    refine PC.use awake30_c ?_
    simp only [go_sem]
    exact .refl _
  have hb':smallP a=true:=by simp at hb; exact hb.1
  obtain ⟨hacc,h1,h2,h3,h4⟩:=small_acc hb'
  have hvis:=small_visits hb'
  have hty:=hacc.types
  have hM:MIn a.x a.cuts a.d:=⟨by omega,by omega,by omega,by omega⟩
  obtain ⟨hlo,hne⟩:=loadsOk_of hacc
  have hP:=plan_c a.x (askD a) a.l a.cuts a.d v hlo hne hM (by omega) (fun c hc=>(hA.set c hc).2) hA.cset hA.right hv
  have hP2:=plan30_c a.x (askD a) a.l a.cuts a.d v hlo hne hM (by omega) hA.set hA.cset hA.dec hA.right hv
  have hpl:=plan_len (x:=a.x) (d:=askD a) (cols:=a.l) (cuts:=a.cuts) (ds:=a.d) (v:=v)
  have hLl:(inM a.l a.d).length≤a.l.length:=List.length_filter_le _ _
  have hsl:(skipsM a.x a.d).length≤5:=Nat.le_trans (List.length_filter_le _ _) (Nat.le_trans (ordI_len a.x) h4)
  generalize planM a.x (askD a) a.l a.cuts a.d v=Q at *
  obtain ⟨p,e⟩:=Q
  simp only at hpl hP hP2
  have hrc:=routes_c p.routes (by omega) (fun r hr=>by obtain ⟨c,hc,rfl⟩:=hpl.2.2 r hr; have:=hvis c hc; omega)
  have hnc:=numbers_c p.unserved p.unserved (by omega) (by omega)
  simp only [go_sem]
  refine PC.use hP ?_
  simp only [go_sem]
  refine anew_i fun i5 hi50=>?_
  simp only [go_sem]
  refine wputE_n (updH_same _ _ _) (by simp [encPlan_len]) ?_
  generalize hGi5:updH (updH _ i5 _) i5 _=HGi5
  have R5:HGi5 i5=some (⟨43,2,[encPlan p]⟩):=by rw [← hGi5,updH_same]; rfl
  clear hGi5 hi50
  simp only [go_sem,R5]
  refine PC.use hP2 ?_
  simp only [go_sem]
  refine anew_i fun i7 hi70=>?_
  have ne_i5_i7:i5≠i7:=ne_new R5 hi70
  simp only [go_sem,R5]
  refine wputE_n (updH_same _ _ _) (by simp [encPlan_len]) ?_
  generalize hGi7:updH (updH _ i7 _) i7 _=HGi7
  replace R5:=(congrFun hGi7.symm i5).trans ((updH_ne _ _ _ _ ne_i5_i7).trans ((updH_ne _ _ _ _ ne_i5_i7).trans R5))
  have R7:HGi7 i7=some (⟨43,2,[encPlan p]⟩):=by rw [← hGi7,updH_same]; rfl
  clear hGi7 hi70
  simp only [go_sem,R7,R5]
  refine PC.use hrc ?_
  simp only [go_sem,R5,R7]
  refine ⟨_,hnc.q rfl,?_⟩
  simp only [go_sem,R5,R7]
  refine ⟨_,fun _=>awake30_c.q rfl,?_⟩
  simp only [go_sem]
  refine cB ?_
  simp
end Go.Proofs.YtpddaldlebngaaaGreatDoor.Nu
end

section
namespace Go.Proofs.YtpddaldlebngaaaGreatDoor
open Go.Aw Go.Aw.D
theorem inB_of {x:Instance} (h:bInstance 1048576 x):InB x:=by
  obtain ⟨⟨hpl,har⟩,hty,hor,hap,hbe⟩:=h
  exact ⟨hpl.1,hpl.2,har.1,fun a ha=>⟨(har.2 a ha).2.2.2.2.1.1,(har.2 a ha).2.2.2.2.2.1⟩,hty.1,fun t ht=>⟨(hty.2 t ht).1,(hty.2 t ht).2.2.2.2.1.1⟩,hor.1,fun t ht=>⟨(hor.2 t ht).1,(hor.2 t ht).2.1.1⟩,hap.1,hbe.1⟩
theorem askB_of {a:Go.Aw.D.Ask} (h:bAsk 1048576 a):Nu.AskB a:=by
  obtain ⟨hx,hl,hc,hd⟩:=h
  exact ⟨inB_of hx,hl.1,fun c h=>(hl.2 c h).2.1,fun q h=>(hc.2 q h).2.1.2,⟨fun t h=>(hx.2.1.2 t h).2.1,fun q h=>(hc.2 q h).2.2,fun d h=>(hd.2 d h).2.2.2⟩,fun d h=>hd.2 d h⟩
theorem masterPlans_holds:Rows.MasterPlansUptoCardSaid:=masterPlans.card fun a v ha hv=>Nu.masterPlans_c a v (askB_of ha) ⟨hv.1,fun s hs=>hv.2 s hs⟩
#print axioms masterPlans_holds
end Go.Proofs.YtpddaldlebngaaaGreatDoor
end
