/- Texts joined by a program: MaK, MaN. -/
import Derived.Test.YtpddaldlebngaaaGreatDoorZp35

section
set_option linter.unusedSimpArgs false
set_option linter.unusedVariables false
namespace Go.Proofs.YtpddaldlebngaaaGreatDoor.Nu
open Go.Aw Go.Aw.D Go.Proofs Ty Go.Nu
open Dec (chkR knownR allowsR forbidsR decB hasN)
set_option maxRecDepth 100000
def is0 (s:ByteArray):Bool:=bl s == [48]
def is1 (s:ByteArray):Bool:=bl s == [49]
def pickTo {α:Type} (l:List α) (v:List ByteArray) (off k:Nat):List α:=(List.range k).filterMap fun i=>match l[i]?,v[off + i]? with
  | some a,some s=>if is1 s=true then some a else none
  | _,_=>none
theorem pickTo_succ {α:Type} {l:List α} {v:List ByteArray} {off k:Nat} {a:α} {s:ByteArray} (h:l[k]?=some a) (hv:v[off + k]?=some s):pickTo l v off (k + 1)=pickTo l v off k ++ (if is1 s=true then [a] else []):=by
  unfold pickTo
  rw [List.range_succ,List.filterMap_append]
  congr 1
  rw [List.filterMap_cons,List.filterMap_nil,h,hv]
  by_cases hs:is1 s=true
  · simp [hs]
  · simp [hs]
theorem pickTo_len {α:Type} (l:List α) (v:List ByteArray) (off k:Nat):(pickTo l v off k).length≤k:=by
  unfold pickTo
  exact Nat.le_trans (List.length_filterMap_le _ _) (by rw [List.length_range]; exact Nat.le_refl _)
def badB (s:ByteArray):Bool:=!is0 s && !is1 s
def planM (x:Instance) (d:Nat) (cols:List Column) (cuts:List Cut) (ds:List Decision) (v:List ByteArray):Plan × Int:=
  if (buildM x d cols cuts ds).2≠0 then (⟨[],[]⟩,(buildM x d cols cuts ds).2)
  else if v.length≠(buildM x d cols cuts ds).1.cost.length then (⟨[],[]⟩,2)
  else if v.any badB=true then (⟨[],[]⟩,2)
  else if fitsM (buildM x d cols cuts ds).1 v=false then (⟨[],[]⟩,24)
  else (⟨(pickTo (inM cols ds) v 0 (inM cols ds).length).map (·.route),pickTo (skipsM x ds) v (inM cols ds).length (skipsM x ds).length⟩,0)
def RowsOk (rows:List PRow):Prop:=∀ r∈rows,(∀ n∈r.coef,n=0∨n=1)∧i64I r.right
theorem addTo_ok {rows:List PRow} {col:List Int} (h:RowsOk rows) (hc:∀ n∈col,n=0∨n=1):RowsOk (addTo rows col col.length):=by
  intro r hr
  obtain ⟨i,hi,rfl⟩:=List.getElem_of_mem hr
  have hg:=List.getElem?_eq_getElem hi
  rw [addTo_get] at hg
  rw [addTo_len] at hi
  have hm:=h _ (List.getElem_mem hi)
  by_cases hlt:i < col.length
  · rw [if_pos hlt,List.getElem?_eq_getElem hi] at hg
    have e:(addTo rows col col.length)[i]'(by rw [addTo_len]; exact hi)=addR1 (rows[i]) (col.getD i 0):=(Option.some.inj hg).symm
    rw [e]
    unfold addR1
    refine ⟨fun n hn=>?_,hm.2⟩
    rcases List.mem_append.1 hn with hn | hn
    · exact hm.1 n hn
    · have e2:n=col.getD i 0:=by simpa using hn
      rw [e2,List.getD,List.getElem?_eq_getElem hlt]
      exact hc _ (List.getElem_mem hlt)
  · rw [if_neg hlt,List.getElem?_eq_getElem hi] at hg
    have e:(addTo rows col col.length)[i]'(by rw [addTo_len]; exact hi)=rows[i]:=(Option.some.inj hg).symm
    rw [e]; exact hm
structure RightB (x:Instance) (cuts:List Cut) (ds:List Decision):Prop where
  types:∀ t∈x.types,i64I t.count
  cuts:∀ q∈cuts,i64I q.n
  ds:∀ d∈ds,i64I d.n
theorem rowsM_ok {x:Instance} {cuts:List Cut} {ds:List Decision} (h:RightB x cuts ds):RowsOk (rowsM x cuts ds):=by
  intro r hr
  have h1:i64I 1:=by unfold i64I; omega
  unfold rowsM rowsO rowsT rowsC rowsD at hr
  simp only [List.mem_append,List.mem_map,List.mem_filterMap] at hr
  rcases hr with ((hr | ⟨t,ht,rfl⟩) | ⟨q,hq,rfl⟩) | ⟨d,hd,hr⟩
  · rw [List.eq_of_mem_replicate hr]; exact ⟨fun n hn=>(by cases hn),h1⟩
  · exact ⟨fun n hn=>(by cases hn),h.types t ht⟩
  · refine ⟨fun n hn=>(by cases hn),?_⟩
    show i64I (rowC q).2
    unfold rowC
    split
    · exact h1
    · split
      · exact h.cuts q hq
      · unfold i64I; omega
  · unfold rowD at hr
    split at hr
    · cases hr; exact ⟨fun n hn=>(by cases hn),h.ds d hd⟩
    · split at hr
      · cases hr; exact ⟨fun n hn=>(by cases hn),h.ds d hd⟩
      · cases hr
theorem bldA_ok {x:Instance} {cuts:List Cut} {ds:List Decision} (h:RightB x cuts ds) (l:List Column):∀ k,k≤l.length→RowsOk (bldA x cuts ds (l.take k)).2
  | 0,_=>rowsM_ok h
  | k + 1,hk=>by
    obtain ⟨c,hc⟩:=getIn (show k < l.length by omega)
    rw [bldA_succ hc]
    exact addTo_ok (bldA_ok h l k (by omega)) fun n hn=>coefsM_in hn
theorem skipCol_in {x:Instance} {o:Int} {n:Nat} {m:Int} (h:m∈skipCol x o n):m=0∨m=1:=by
  unfold skipCol at h
  rcases List.mem_append.1 h with h | h
  · obtain ⟨i,_,rfl⟩:=List.mem_map.1 h; exact bitI_in _
  · exact .inl (List.eq_of_mem_replicate h)
theorem bldB_ok {x:Instance} {n:Nat} {s0:List Int × List PRow} (h:RowsOk s0.2) (l:List Int):∀ k,k≤l.length→RowsOk (bldB x n s0 (l.take k)).2
  | 0,_=>h
  | k + 1,hk=>by
    obtain ⟨c,hc⟩:=getIn (show k < l.length by omega)
    rw [bldB_succ hc]
    exact addTo_ok (bldB_ok h l k (by omega)) fun n hn=>skipCol_in hn
theorem build_ok {x : Instance} {d : Nat} {cols : List Column} {cuts : List Cut} {ds : List Decision} (h : (buildM x d cols cuts ds).2 = 0) (hr : RightB x cuts ds) :
    wrongM x d cols cuts ds=0∧(buildM x d cols cuts ds).1.cost.length=(inM cols ds).length + (skipsM x ds).length∧(inM cols ds).length + (skipsM x ds).length≤8192∧(buildM x d cols cuts ds).1.rows.length=rowsN x cuts ds∧rowsN x cuts ds≤64 ∧
      (∀ r∈(buildM x d cols cuts ds).1.rows,r.coef.length=(inM cols ds).length + (skipsM x ds).length)∧RowsOk (buildM x d cols cuts ds).1.rows:=by
  unfold buildM at h ⊢
  split at h
  · next h1=>exact absurd h h1
  next h1=>
  split at h
  · cases h
  next h2=>
  rw [if_neg h1,if_neg h2]
  have hA:=bldA_sz x cuts ds (inM cols ds) _ (Nat.le_refl _)
  have hA2:=bldA_ok hr (inM cols ds) _ (Nat.le_refl _)
  rw [List.take_length] at hA hA2
  have hno:(ordI x).length≤rowsN x cuts ds:=by unfold rowsN; omega
  have hB:=bldB_sz x hno hA (skipsM x ds) _ (Nat.le_refl _)
  have hB2:=bldB_ok (x:=x) (n:=rowsN x cuts ds) hA2 (skipsM x ds) _ (Nat.le_refl _)
  rw [List.take_length] at hB hB2
  exact ⟨by simpa using h1,hB.1,by omega,hB.2.1,by omega,hB.2.2,hB2⟩
theorem build_lin {x:Instance} {d:Nat} {cols:List Column} {cuts:List Cut} {ds:List Decision} (h:(buildM x d cols cuts ds).2=0) (hr:RightB x cuts ds):LinB (buildM x d cols cuts ds).1:=by
  obtain ⟨_,h1,h2,h3,h4,_,h6⟩:=build_ok h hr
  exact ⟨by omega,by omega,fun r hr n hn=>by rcases (h6 r hr).1 n hn with e | e <;> unfold i64I <;> omega,fun r hr=>(h6 r hr).2⟩
abbrev zPlan:Row:=⟨43,2,[[.sl [],.sl []]]⟩
abbrev plRow (ja jb:Nat):Row:=⟨43,2,[[.os ja,.os jb]]⟩
abbrev rtRow (l:List Route):Row:=⟨55,4,l.map encRoute⟩
structure PlS (H:Heap) (i10 i16 ja jb:Nat) (rs:List Route) (us:List Int):Prop where
  r10:H i10=some zPlan
  r16:H i16=some (plRow ja jb)
  ra:H ja=some (rtRow rs)
  rb:H jb=some (iRow us)
  ne:i10≠i16
theorem PlS.mono {H H':Heap} {i10 i16 ja jb:Nat} {rs:List Route} {us:List Int} (h:PlS H i10 i16 ja jb rs us) (hm:∀ k row,H k=some row→H' k=some row):PlS H' i10 i16 ja jb rs us:=
  ⟨hm _ _ h.r10,hm _ _ h.r16,hm _ _ h.ra,hm _ _ h.rb,h.ne⟩
theorem row_ne' {H:Heap} {i j:Nat} {a b:Row} (hi:H i=some a) (hj:H j=some b) (he:(a.e == b.e)=false):i≠j:=fun e=>by
  subst e; rw [hi] at hj; rw [congrArg Row.e (Option.some.inj hj)] at he; simp at he
theorem PlS.appA {H : Heap} {i10 i16 ja jb : Nat} {rs : List Route} {us : List Int} (h : PlS H i10 i16 ja jb rs us) {ja' : Nat} (hj : H ja' = none) (r : Route) :
    PlS (updH (updH (updH H ja none) ja' (some ⟨55,4,rs.map encRoute ++ [encRoute r]⟩)) i16 (some (plRow ja' jb))) i10 i16 ja' jb (rs ++ [r]) us:=by
  have n1:i10≠ja:=row_ne' h.r10 h.ra rfl
  have n2:i16≠ja:=row_ne' h.r16 h.ra rfl
  have n3:jb≠ja:=row_ne' h.rb h.ra rfl
  have n4:jb≠i16:=row_ne' h.rb h.r16 rfl
  have m1:i10≠ja':=ne_new h.r10 hj
  have m2:i16≠ja':=ne_new h.r16 hj
  have m3:jb≠ja':=ne_new h.rb hj
  refine ⟨?_,updH_same _ _ _,?_,?_,h.ne⟩
  · rw [updH_ne _ _ _ _ h.ne,updH_ne _ _ _ _ m1,updH_ne _ _ _ _ n1]; exact h.r10
  · rw [updH_ne _ _ _ _ m2.symm,updH_same]
    exact congrArg (fun l=>some (⟨55,4,l⟩:Row)) (List.map_append (f:=encRoute) (l₁:=rs) (l₂:=[r])).symm
  · rw [updH_ne _ _ _ _ n4,updH_ne _ _ _ _ m3,updH_ne _ _ _ _ n3]; exact h.rb
theorem PlS.appB {H : Heap} {i10 i16 ja jb : Nat} {rs : List Route} {us : List Int} (h : PlS H i10 i16 ja jb rs us) {jb' : Nat} (hj : H jb' = none) (o : Int) :
    PlS (updH (updH (updH H jb none) jb' (some ⟨3,1,us.map encInt ++ [[int o]]⟩)) i16 (some (plRow ja jb'))) i10 i16 ja jb' rs (us ++ [o]):=by
  have n1:i10≠jb:=row_ne' h.r10 h.rb rfl
  have n2:i16≠jb:=row_ne' h.r16 h.rb rfl
  have n3:ja≠jb:=row_ne' h.ra h.rb rfl
  have n4:ja≠i16:=row_ne' h.ra h.r16 rfl
  have m1:i10≠jb':=ne_new h.r10 hj
  have m2:i16≠jb':=ne_new h.r16 hj
  have m3:ja≠jb':=ne_new h.ra hj
  refine ⟨?_,updH_same _ _ _,?_,?_,h.ne⟩
  · rw [updH_ne _ _ _ _ h.ne,updH_ne _ _ _ _ m1,updH_ne _ _ _ _ n1]; exact h.r10
  · rw [updH_ne _ _ _ _ n4,updH_ne _ _ _ _ m3,updH_ne _ _ _ _ n3]; exact h.ra
  · rw [updH_ne _ _ _ _ m2.symm,updH_same]
    exact congrArg (fun l=>some (⟨3,1,l⟩:Row)) (List.map_append (f:=encInt) (l₁:=us) (l₂:=[o])).symm
theorem plan_c (x : Instance) (d : Nat) (cols : List Column) (cuts : List Cut) (ds : List Decision) (v : List ByteArray) (hlo : LoadsOk x d) (hne : x.types ≠ []) (h : MIn x cuts ds) (hl : cols.length ≤ 1048576) (hs : ∀ c ∈ cols, c.set ≤ 9223372036854775807) (hq : ∀ q ∈ cuts, q.set ≤ 9223372036854775807)
    (hR:RightB x cuts ds) (hv:VarB v):PC Tryz.prog 7 [.agg (encInstance x),.sl (cols.map encColumn),.sl (cuts.map encCut),.sl (ds.map encDecision),.sl (v.map Go.Aw.D.encStr)] (.tup [.agg (encPlan (planM x d cols cuts ds v).1),int (planM x d cols cuts ds v).2]):=by
  have h1:=h.orders
  have h4:=h.dl
  have hv1:=hv.len
  refine PC.body (c:=Tryz.f7.body.getD .skip) (fun t=>t == 16) mixed Tryz.func7 rfl (by kernel_rfl) ?_
  unfold Tryz.f7
  simp only [Option.getD_some]
  simp only [go_sem]
  refine anew_i fun i10 h10=>?_
  have R10:=updH_same noRows i10 (some zPlan)
  generalize updH noRows i10 _=H0 at R10 ⊢
  clear h10
  simp only [go_sem]
  refine PC.use (build_c x d cols cuts ds hlo hne h hl hs hq) ?_
  have hok:=build_ok (x:=x) (d:=d) (cols:=cols) (cuts:=cuts) (ds:=ds)
  have hlin:=build_lin (x:=x) (d:=d) (cols:=cols) (cuts:=cuts) (ds:=ds)
  unfold planM
  generalize buildM x d cols cuts ds=B at *
  obtain ⟨p,e⟩:=B
  simp only at hok hlin
  simp only [go_sem]
  refine anew_i fun i12 hi120=>?_
  have ne_i10_i12:i10≠i12:=ne_new R10 hi120
  simp only [go_sem,R10]
  refine wputE_n (updH_same _ _ _) (by simp [encPLin_len]) ?_
  generalize hGi12:updH (updH _ i12 _) i12 _=HGi12
  replace R10:=(congrFun hGi12.symm i10).trans ((updH_ne _ _ _ _ ne_i10_i12).trans ((updH_ne _ _ _ _ ne_i10_i12).trans R10))
  have R12:HGi12 i12=some (⟨62,2,[encPLin p]⟩):=by rw [← hGi12,updH_same]; rfl
  clear hGi12 hi120
  simp only [go_sem,R12,R10]
  refine acond_i (fun hb=>?_) (fun hb=>?_)
  · rw [if_pos (by simpa using hb)]
    simp only [go_sem]
    refine wputE_n R10 (by simp) ?_
    simp only [go_sem]
    exact .refl _
  have he:e=0:=by simpa using hb
  obtain ⟨_,k1,k2,k3,k4,k5,k6⟩:=hok he hR
  have hp:=hlin he hR
  rw [if_neg (by simpa using he)]
  simp only [go_sem,R12,List.length_map]
  refine acond_i (fun hb=>?_) (fun hb=>?_)
  · rw [if_pos (by simp at hb ⊢; omega)]
    simp only [go_sem]
    refine wputE_n R10 (by simp) ?_
    simp only [go_sem]
    exact .refl _
  have hvl:v.length=p.cost.length:=by simp at hb; omega
  rw [if_neg (by simp; omega)]
  simp only [go_sem,List.length_map]
  refine ⟨fun ρ H=>∃ (k:Nat),k≤v.length∧ρ 1=.sl (cols.map encColumn)∧ρ 3=.sl (ds.map encDecision)∧ρ 4=.sl (v.map Go.Aw.D.encStr)∧ρ 5=.rp (encInstance x) 0∧ρ 10=.op i10 0 0∧ρ 12=.op i12 0 0∧ρ 40=.sl (v.map Go.Aw.D.encStr)∧ρ 41=int (v.length:Nat)∧ρ 42=int k∧H i10=some zPlan∧H i12=some (⟨62,2,[encPLin p]⟩:Row)∧∀ s∈v.take k,badB s=false,fun ρ _=>v.length - natOf (ρ 42),⟨0,Nat.zero_le _,by simp only [go_sem],by simp only [go_sem],by simp only [go_sem],by simp only [go_sem],by simp only [go_sem],by simp only [go_sem],by simp only [go_sem],by simp only [go_sem,List.length_map],(by simp only [go_sem]; rfl),R10,R12,by simp⟩,?_⟩
  rintro ρ H ⟨k,hk,e1,e3,e4,e5,e10,e12,e40,e41,e42,R10,R12,hz⟩
  simp only [go_sem,e1,e3,e4,e5,e10,e12,e40,e41,e42]
  refine acond_i (fun hlt=>?_) (fun hge=>?_)
  · have hlt:=ltB (by simpa using hlt)
    obtain ⟨s,hs1⟩:=getIn hlt
    have b1:=inB hlt
    simp only [go_sem,e1,e3,e4,e5,e10,e12,e40,e41,e42,getD_map hs1,b1]
    refine acond_i (fun hb=>?_) (fun hb=>?_)
    · rw [if_pos (List.any_eq_true.2 ⟨s,List.mem_of_getElem? hs1,hb⟩)]
      simp only [go_sem,e1,e3,e4,e5,e10,e12,e40,e41,e42]
      refine wputE_n R10 (by simp) ?_
      simp only [go_sem,e1,e3,e4,e5,e10,e12,e40,e41,e42]
      exact .refl _
    · simp only [go_sem,e1,e3,e4,e5,e10,e12,e40,e41,e42,wrapS (show k≤4611686018427387904 by omega)]
      exact ⟨⟨k + 1,hlt,rfl,R10,R12,take_all' (p:=fun s=>badB s=false) hs1 hb hz⟩,by simp only [natOf_int]; omega⟩
  have hge:=geB hk (by simpa using hge)
  subst hge
  rw [List.take_length] at hz
  rw [if_neg (fun hc=>by obtain ⟨s,hs1,hs2⟩:=List.any_eq_true.1 hc; rw [hz s hs1] at hs2; cases hs2)]
  simp only [go_sem,e1,e3,e4,e5,e10,e12,e40,e41,e42,R12]
  refine PC.use (fits_c p v hp hv) ?_
  simp only [go_sem,e1,e3,e4,e5,e10,e12,e40,e41,e42]
  refine acond_i (fun hb=>?_) (fun hb=>?_)
  · rw [if_pos (by simpa using hb)]
    simp only [go_sem,e1,e3,e4,e5,e10,e12,e40,e41,e42]
    refine wputE_n R10 (by simp) ?_
    simp only [go_sem,e1,e3,e4,e5,e10,e12,e40,e41,e42]
    exact .refl _
  rw [if_neg (by simpa using hb)]
  simp only [go_sem,e1,e3,e4,e5,e10,e12,e40,e41,e42]
  refine anew_i fun ja h1a=>?_
  refine anew_i fun jb h2a=>?_
  refine anew_i fun i16 h3a=>?_
  have S:PlS (updH (updH (updH H ja (some ⟨55,4,[]⟩)) jb (some ⟨3,1,[]⟩)) i16 (some (plRow ja jb))) i10 i16 ja jb [] []:=by
    have m1:=mono_new h1a (some (⟨55,4,[]⟩:Row))
    have m2:=mono_new h2a (some (⟨3,1,[]⟩:Row))
    have m3:=mono_new h3a (some (plRow ja jb))
    exact ⟨m3 _ _ (m2 _ _ (m1 _ _ R10)),updH_same _ _ _,m3 _ _ (m2 _ _ (updH_same _ _ _)),m3 _ _ (updH_same _ _ _),ne_new (m2 _ _ (m1 _ _ R10)) h3a⟩
  generalize hG:updH (updH (updH H ja _) jb _) i16 _=G
  replace S:PlS G i10 i16 ja jb [] []:=by rw [← hG]; exact S
  clear hG h1a h2a h3a R10 R12
  simp only [go_sem,e1,e3,e4,e5,e10,e12,e40,e41,e42]
  refine PC.use (allowed_c cols ds hl h4) ?_
  generalize inM cols ds=L at *
  simp only [go_sem,e1,e3,e4,e5,e10,e12,e40,e41,e42,List.length_map]
  refine ⟨fun ρ H=>∃ (k:Nat) (ja:Nat),k≤L.length∧ρ 1=.sl (L.map encColumn)∧ρ 3=.sl (ds.map encDecision)∧ρ 4=.sl (v.map Go.Aw.D.encStr)∧ρ 5=.rp (encInstance x) 0∧ρ 10=.op i10 0 0∧ρ 16=.op i16 0 0∧ρ 62=.sl (L.map encColumn)∧ρ 63=int (L.length:Nat)∧ρ 64=int k∧PlS H i10 i16 ja jb ((pickTo L v 0 k).map fun c=>c.route) [],fun ρ _=>L.length - natOf (ρ 64),⟨0,ja,Nat.zero_le _,by simp only [go_sem,e3,e4,e5,e10],by simp only [go_sem,e3,e4,e5,e10],by simp only [go_sem,e3,e4,e5,e10],by simp only [go_sem,e3,e4,e5,e10],by simp only [go_sem,e3,e4,e5,e10],by simp only [go_sem,e3,e4,e5,e10],by simp only [go_sem,e3,e4,e5,e10],by simp only [go_sem,List.length_map,e3,e4,e5,e10],(by simp only [go_sem,e3,e4,e5,e10]; rfl),S⟩,?_⟩
  rintro ρ H ⟨k,ja,hk,e1,e3,e4,e5,e10,e16,e62,e63,e64,S⟩
  simp only [go_sem,e1,e3,e4,e5,e10,e16,e62,e63,e64]
  refine acond_i (fun hlt=>?_) (fun hge=>?_)
  · have hlt:=ltB (by simpa using hlt)
    obtain ⟨c,hc⟩:=getIn hlt
    have b1:=inB hlt
    obtain ⟨s,hs1⟩:=getIn (show k < v.length by omega)
    have b2:=inB (show k < v.length by omega)
    have hpk:=pickTo_succ (off:=0) hc (by rw [Nat.zero_add]; exact hs1)
    have hpl:=pickTo_len L v 0 k
    simp only [go_sem,e1,e3,e4,e5,e10,e16,e62,e63,e64,getD_map hc,b1]
    refine anew_i fun i18 h18=>?_
    simp only [go_sem,e1,e3,e4,e5,e10,e16,e62,e63,e64]
    refine wputE_n (updH_same _ _ _) (by simp [encColumn_len]) ?_
    have S1:=S.mono (mono_new2 h18 (some (⟨57,7,[[int 0,int 0,int 0,int 0,int 0,.sl [],.sl []]]⟩:Row)) (some (⟨57,7,[encColumn c]⟩:Row)))
    generalize hG:updH (updH H i18 _) i18 _=HG
    replace S1:PlS HG i10 i16 ja jb ((pickTo L v 0 k).map fun c=>c.route) []:=by rw [← hG]; exact S1
    have R18:HG i18=some (⟨57,7,[encColumn c]⟩:Row):=by rw [← hG,updH_same]; rfl
    clear hG h18
    simp only [go_sem,e1,e3,e4,e5,e10,e16,e62,e63,e64,getD_map hs1,b2]
    refine acond_i (fun hb=>?_) (fun hb=>?_)
    · have hb:is1 s=true:=hb
      rw [if_pos hb] at hpk
      simp only [go_sem,e1,e3,e4,e5,e10,e16,e62,e63,e64,S1.r16,R18]
      refine wappE_i S1.ra ⟨rfl,rfl⟩ ⟨rfl,trivial⟩ (by simp only [List.length_map,List.length_cons,List.length_nil]; omega) (fun ja' hj=>?_)
      have S2:=S1.appA hj c.route
      have R16':=keep_app (r':=(⟨55,4,((pickTo L v 0 k).map fun c=>c.route).map encRoute ++ [encRoute c.route]⟩:Row)) S1.r16 (row_ne' S1.r16 S1.ra rfl).symm hj
      simp only [go_sem,e1,e3,e4,e5,e10,e16,e62,e63,e64]
      refine wputE_1 so40 R16' ⟨by simp,rfl,by simp⟩ ?_
      simp only [go_sem,e1,e3,e4,e5,e10,e16,e62,e63,e64,wrapS (show k≤4611686018427387904 by omega)]
      refine ⟨⟨k + 1,ja',hlt,rfl,?_⟩,by simp only [natOf_int]; omega⟩
      rw [hpk,List.map_append]
      exact S2
    · have hb:is1 s=false:=hb
      rw [if_neg (by rw [hb]; simp),List.append_nil] at hpk
      simp only [go_sem,e1,e3,e4,e5,e10,e16,e62,e63,e64,wrapS (show k≤4611686018427387904 by omega)]
      exact ⟨⟨k + 1,ja,hlt,rfl,by rw [hpk]; exact S1⟩,by simp only [natOf_int]; omega⟩
  have hge:=geB hk (by simpa using hge)
  subst hge
  simp only [go_sem,e1,e3,e4,e5,e10,e16,e62,e63,e64]
  refine PC.use (skips_c x ds h1 h4) ?_
  generalize skipsM x ds=K at *
  generalize (pickTo L v 0 L.length).map (fun c=>c.route)=rs at *
  simp only [go_sem,e1,e3,e4,e5,e10,e16,e62,e63,e64,List.length_map]
  refine ⟨fun ρ H=>∃ (k:Nat) (jb:Nat),k≤K.length∧ρ 1=.sl (L.map encColumn)∧ρ 4=.sl (v.map Go.Aw.D.encStr)∧ρ 10=.op i10 0 0∧ρ 16=.op i16 0 0∧ρ 84=.sl (K.map encInt)∧ρ 85=int (K.length:Nat)∧ρ 86=int k∧PlS H i10 i16 ja jb rs (pickTo K v L.length k),fun ρ _=>K.length - natOf (ρ 86),⟨0,jb,Nat.zero_le _,by simp only [go_sem,e1,e4,e10,e16],by simp only [go_sem,e1,e4,e10,e16],by simp only [go_sem,e1,e4,e10,e16],by simp only [go_sem,e1,e4,e10,e16],by simp only [go_sem,e1,e4,e10,e16],by simp only [go_sem,List.length_map,e1,e4,e10,e16],(by simp only [go_sem,e1,e4,e10,e16]; rfl),S⟩,?_⟩
  rintro ρ H ⟨k,jb,hk,e1,e4,e10,e16,e84,e85,e86,S⟩
  simp only [go_sem,e1,e4,e10,e16,e84,e85,e86]
  refine acond_i (fun hlt=>?_) (fun hge=>?_)
  · have hlt:=ltB (by simpa using hlt)
    obtain ⟨o,ho⟩:=getIn hlt
    have b1:=inB hlt
    obtain ⟨s,hs1⟩:=getIn (show L.length + k < v.length by omega)
    have b2:=inB (show L.length + k < v.length by omega)
    have hpk:=pickTo_succ (off:=L.length) ho hs1
    have hpl:=pickTo_len K v L.length k
    have w:IntKind.i64.wrap ((L.length:Int) + (k:Int))=((L.length + k:Nat):Int):=by rw [wrap_in (by omega)]; omega
    simp only [go_sem,e1,e4,e10,e16,e84,e85,e86,getD_map ho,b1,List.length_map,w,getD_map hs1,b2]
    refine acond_i (fun hb=>?_) (fun hb=>?_)
    · have hb:is1 s=true:=hb
      rw [if_pos hb] at hpk
      simp only [go_sem,e1,e4,e10,e16,e84,e85,e86,S.r16]
      refine wappE_i S.rb ⟨rfl,rfl⟩ ⟨rfl,trivial⟩ (by simp only [List.length_map,List.length_cons,List.length_nil]; omega) (fun jb' hj=>?_)
      have S2:=S.appB hj o
      have R16':=keep_app (r':=(⟨3,1,(pickTo K v L.length k).map encInt ++ [[int o]]⟩:Row)) S.r16 (row_ne' S.r16 S.rb rfl).symm hj
      simp only [go_sem,e1,e4,e10,e16,e84,e85,e86]
      refine wputE_1 so41 R16' ⟨by simp,rfl,by simp⟩ ?_
      simp only [go_sem,e1,e4,e10,e16,e84,e85,e86,wrapS (show k≤4611686018427387904 by omega)]
      refine ⟨⟨k + 1,jb',hlt,rfl,?_⟩,by simp only [natOf_int]; omega⟩
      rw [hpk]
      exact S2
    · have hb:is1 s=false:=hb
      rw [if_neg (by rw [hb]; simp),List.append_nil] at hpk
      simp only [go_sem,e1,e4,e10,e16,e84,e85,e86,wrapS (show k≤4611686018427387904 by omega)]
      exact ⟨⟨k + 1,jb,hlt,rfl,by rw [hpk]; exact S⟩,by simp only [natOf_int]; omega⟩
  have hge:=geB hk (by simpa using hge)
  subst hge
  simp only [go_sem,e1,e4,e10,e16,S.r16]
  refine wputE_n S.r10 (by simp) ?_
  have n1:ja≠i10:=row_ne' S.ra S.r10 rfl
  have n2:jb≠i10:=row_ne' S.rb S.r10 rfl
  simp only [go_sem,e1,e4,e10,e16]
  refine .tup _ _ (.cons _ _ _ _ (.agg _ _ (.cons _ _ _ _ (.row _ _ _ ((updH_ne _ _ _ _ n1).trans S.ra) (ConvE.refl _)) (.cons _ _ _ _ (.row _ _ _ ((updH_ne _ _ _ _ n2).trans S.rb) (ConvE.refl _)) .nil))) (.cons _ _ _ _ (.refl _) .nil))
end Go.Proofs.YtpddaldlebngaaaGreatDoor.Nu
end

section
set_option linter.unusedSimpArgs false
set_option linter.unusedVariables false
namespace Go.Proofs.YtpddaldlebngaaaGreatDoor.Nu
open Go.Aw Go.Aw.D Go.Proofs Ty Go.Nu
open Dec (chkR knownR allowsR forbidsR decB hasN)
set_option maxRecDepth 100000
def skipI (x:Instance) (o:Int) (k:Nat):List Int:=(List.range k).map fun i=>bitI (decide (i < (ordI x).length) && (ordI x).getD i 0 == o)
theorem skipI_eq (x:Instance) (o:Int) {n:Nat} (h:(ordI x).length≤n):skipI x o n=skipCol x o n:=by
  refine List.ext_getElem? fun i=>?_
  unfold skipI skipCol
  rw [List.getElem?_map]
  by_cases hi:i < (ordI x).length
  · rw [List.getElem?_append_left (by rw [List.length_map]; exact hi),List.getElem?_range (by omega),List.getElem?_map,List.getElem?_eq_getElem hi]
    simp [hi]
  · rw [List.getElem?_append_right (by rw [List.length_map]; omega),List.length_map,List.getElem?_replicate]
    by_cases h2:i < n
    · rw [List.getElem?_range h2,if_pos (by omega)]
      show some (bitI (decide (i < (ordI x).length) && _))=_
      rw [decide_eq_false hi]; rfl
    · rw [List.getElem?_eq_none (by rw [List.length_range]; omega),if_neg (by omega)]; rfl
theorem skip30_c (x:Instance) (o:Int) (n:Nat) (hx:x.orders.length≤62) (hn:(ordI x).length≤n) (h64:n≤1048576):PC Tryz.prog 53 [.agg (encInstance x),int o,int n] (.sl ((skipCol x o n).map encInt)):=by
  have hol:=ordI_len x
  rw [← skipI_eq x o hn]
  refine PC.body (c:=Tryz.f53.body.getD .skip) (fun t=>t == 8) mixed Tryz.func53 rfl (by kernel_rfl) ?_
  unfold Tryz.f53
  simp only [Option.getD_some]
  simp only [go_sem]
  refine PC.use (orders30_c x (by omega)) ?_
  simp only [go_sem]
  refine anew_i fun j hj0=>?_
  generalize hGj:updH _ j _=HGj
  have R:HGj j=some (iRow []):=by rw [← hGj,updH_same]; rfl
  clear hGj hj0
  simp only [go_sem,R]
  refine ⟨fun ρ H=>∃ (k:Nat) (j:Nat),k≤n∧ρ 1=int o∧ρ 2=int n∧ρ 7=.sl ((ordI x).map encInt)∧ρ 9=int k∧ρ 8=.os j∧H j=some (iRow (skipI x o k)),fun ρ _=>n - natOf (ρ 9),⟨0,j,Nat.zero_le _,by simp only [go_sem],by simp only [go_sem],by simp only [go_sem],(by simp only [go_sem]; rfl),by simp only [go_sem],R⟩,?_⟩
  rintro ρ H ⟨k,j,hk,e1,e2,e7,e9,e8,R⟩
  simp only [go_sem,e1,e2,e7,e9,e8]
  refine acond_i (fun hlt=>?_) (fun hge=>?_)
  · have hlt:=ltB (by simpa using hlt)
    have hl:(skipI x o k).length=k:=by unfold skipI; rw [List.length_map,List.length_range]
    have hs:skipI x o (k + 1)=skipI x o k ++ [bitI (decide (k < (ordI x).length) && (ordI x).getD k 0 == o)]:=by unfold skipI; rw [List.range_succ,List.map_append]; rfl
    have hdn:decide ((k:Int) < ((ordI x).length:Int))=decide (k < (ordI x).length):=by
      by_cases h:k < (ordI x).length
      · rw [decide_eq_true h,decide_eq_true (by omega)]
      · rw [decide_eq_false h,decide_eq_false (by omega)]
    by_cases hk2:k < (ordI x).length
    · obtain ⟨i,hi⟩:=getIn hk2
      have b1:=inB hk2
      simp only [go_sem,e1,e2,e7,e9,e8,List.length_map,getD_map hi,b1]
      refine PC.use (bit30_c _) ?_
      simp only [go_sem,e1,e2,e7,e9,e8]
      refine wappE_i R ⟨rfl,rfl⟩ ⟨rfl,trivial⟩ (by simp only [List.length_map,List.length_cons,List.length_nil]; omega) (fun j' hj'=>?_)
      simp only [go_sem,e1,e2,e7,e9,e8,wrapS (show k≤4611686018427387904 by omega)]
      refine ⟨⟨k + 1,j',hlt,rfl,rfl,?_⟩,by simp only [natOf_int]; omega⟩
      rw [hs,List.getD,hi,decide_eq_true hk2]
      simp only [Option.getD_some,Bool.true_and]
      exact row_appG rfl
    · have hge2:decide ((k:Int) < ((ordI x).length:Int))=false:=by rw [hdn,decide_eq_false hk2]
      have hno:(List.map encInt (ordI x)).getD k []=[]:=by rw [List.getD,List.getElem?_eq_none (by rw [List.length_map]; omega)]; rfl
      simp only [go_sem,e1,e2,e7,e9,e8,List.length_map,hge2,hno]
      refine PC.use (bit30_c _) ?_
      simp only [go_sem,e1,e2,e7,e9,e8]
      refine wappE_i R ⟨rfl,rfl⟩ ⟨rfl,trivial⟩ (by simp only [List.length_map,List.length_cons,List.length_nil]; omega) (fun j' hj'=>?_)
      simp only [go_sem,e1,e2,e7,e9,e8,wrapS (show k≤4611686018427387904 by omega)]
      refine ⟨⟨k + 1,j',hlt,rfl,rfl,?_⟩,by simp only [natOf_int]; omega⟩
      rw [hs,decide_eq_false hk2]
      simp only [Bool.false_and]
      exact row_appG rfl
  have hge:=geB hk (by simpa using hge)
  subst hge
  simp only [go_sem,e1,e2,e7,e9,e8]
  exact .row _ _ _ R (ConvE.refl _)
theorem allows_eq {x:Instance} {d:Decision} (h:Dec.knownR x d=0) (hx:x.orders.length≤62) (s:Int):allowsR d s=!forbidsR d s:=by
  have hin:∀ i:Int,Dec.orderR x i=true→Dec.hasR s i=hasN s i:=by
    intro i hi
    unfold Dec.orderR at hi
    simp only [Bool.and_eq_true,decide_eq_true_eq] at hi
    unfold Dec.hasR hasN
    rw [decide_eq_true hi.1,decide_eq_true (show i≤62 by omega)]; rfl
  unfold Dec.knownR at h
  unfold allowsR forbidsR
  by_cases h1:d.kind=1
  · rw [if_pos (.inl h1)] at h
    rw [if_pos h1,if_pos h1]
    split at h
    · next hc=>
      simp only [Bool.and_eq_true] at hc
      rw [hin d.a hc.1.1,hin d.b hc.1.2]
      cases hasN s d.a <;> cases hasN s d.b <;> rfl
    · cases h
  · by_cases h2:d.kind=2
    · rw [if_pos (.inr h2)] at h
      rw [if_neg h1,if_pos h2,if_neg h1,if_pos h2]
      split at h
      · next hc=>
        simp only [Bool.and_eq_true] at hc
        rw [hin d.a hc.1.1,hin d.b hc.1.2]
        cases hasN s d.a <;> cases hasN s d.b <;> rfl
      · cases h
    · by_cases h6:d.kind=6
      · rw [if_neg (by omega),if_pos (.inr h6)] at h
        rw [if_neg h1,if_neg h2,if_pos h6,if_neg h1,if_neg h2,if_pos h6]
        split at h
        · next hc=>rw [hin d.a hc]
        · cases h
      · rw [if_neg h1,if_neg h2,if_neg h6,if_neg h1,if_neg h2,if_neg h6]; rfl
theorem chk_all {x:Instance} {ds:List Decision} (h:chkR x ds=0):∀ d∈ds,Dec.knownR x d=0:=by
  unfold chkR at h
  split at h
  · cases h
  · exact fun d hd=>Dec.firstErr_zero h _ (List.mem_map.2 ⟨d,hd,rfl⟩)
theorem inside30_c (x : Instance) (cols : List Column) (ds : List Decision) (hck : chkR x ds = 0) (hx : x.orders.length ≤ 62) (hl : cols.length ≤ 1048576) (hd : ds.length ≤ 1048576) (hdb : ∀ d ∈ ds, decB d) (hs : ∀ c ∈ cols, 0 ≤ c.set ∧ c.set ≤ 9223372036854775807) :
    PC Tryz.prog 20 [.sl (cols.map encColumn),.sl (ds.map encDecision)] (.sl ((inM cols ds).map encColumn)):=by
  refine PC.body (c:=Tryz.f20.body.getD .skip) (fun t=>t == 5) mixed Tryz.func20 rfl (by kernel_rfl) ?_
  unfold Tryz.f20
  simp only [Option.getD_some]
  simp only [go_sem]
  refine anew_i fun j hj0=>?_
  generalize hGj:updH _ j _=HGj
  have R:HGj j=some (colRow' []):=by rw [← hGj,updH_same]; rfl
  clear hGj hj0
  simp only [go_sem,R]
  refine ⟨fun ρ H=>∃ (k:Nat) (j:Nat),k≤cols.length∧ρ 0=.sl (cols.map encColumn)∧ρ 1=.sl (ds.map encDecision)∧ρ 6=int k∧ρ 5=.os j∧H j=some (colRow' (inM (cols.take k) ds)),fun ρ _=>cols.length - natOf (ρ 6),⟨0,j,Nat.zero_le _,by simp only [go_sem],by simp only [go_sem],(by simp only [go_sem]; rfl),by simp only [go_sem],R⟩,?_⟩
  rintro ρ H ⟨k,j,hk,e0,e1,e6,e5,R⟩
  simp only [go_sem,e0,e1,e6,e5]
  refine acond_i (fun hlt=>?_) (fun hge=>?_)
  · have hlt:=ltB (by simpa using hlt)
    obtain ⟨c,hc⟩:=getIn hlt
    have b1:=inB hlt
    have hsc:=hs c (List.mem_of_getElem? hc)
    have hfs:inM (cols.take (k + 1)) ds=inM (cols.take k) ds ++ (if (ds.all fun d=>allowsR d c.set)=true then [c] else []):=filter_take (p:=fun c:Column=>ds.all fun d=>allowsR d c.set) hc
    have hln:(inM (cols.take k) ds).length≤k:=filter_tl _ _ _
    have hal:(ds.all fun d=>!forbidsR d c.set)=ds.all fun d=>allowsR d c.set:=by
      rw [Bool.eq_iff_iff,List.all_eq_true,List.all_eq_true]
      exact forall_congr' fun d=>forall_congr' fun hdm=>by rw [allows_eq (chk_all hck d hdm) hx]
    simp only [go_sem,e0,e1,e6,e5,getD_map hc,b1]
    refine PC.use (Dec.Allows29_c ds c hd hdb hsc.1 hsc.2) ?_
    rw [hal]
    simp only [go_sem,e0,e1,e6,e5]
    refine acond_i (fun hb=>?_) (fun hb=>?_)
    · rw [if_pos hb] at hfs
      simp only [go_sem,e0,e1,e6,e5,getD_map hc,b1]
      refine wappE_i R ⟨rfl,rfl⟩ ⟨rfl,trivial⟩ (by simp only [List.length_map,List.length_cons,List.length_nil]; omega) (fun j' hj'=>?_)
      simp only [go_sem,e0,e1,e6,e5,wrapS (show k≤4611686018427387904 by omega)]
      refine ⟨⟨k + 1,j',hlt,rfl,rfl,?_⟩,by simp only [natOf_int]; omega⟩
      rw [hfs]
      exact row_appG rfl
    · rw [if_neg (by rw [hb]; simp),List.append_nil] at hfs
      simp only [go_sem,e0,e1,e6,e5,wrapS (show k≤4611686018427387904 by omega)]
      exact ⟨⟨k + 1,j,hlt,rfl,rfl,by rw [hfs]; exact R⟩,by simp only [natOf_int]; omega⟩
  have hge:=geB (by omega) (by simpa using hge)
  subst hge
  rw [List.take_length] at R
  simp only [go_sem,e0,e1,e6,e5]
  exact .row _ _ _ R (ConvE.refl _)
def sumP (s:Nat) (l:List Int):Nat:=(l.map fun i=>if hasR s i=true then 2 ^ i.toNat else 0).sum
theorem sumP_succ {s:Nat} {l:List Int} {k:Nat} {i:Int} (h:l[k]?=some i):sumP s (l.take (k + 1))=sumP s (l.take k) + (if hasR s i=true then 2 ^ i.toNat else 0):=by
  unfold sumP
  rw [take_succ h,List.map_append,List.sum_append]
  simp
theorem sumP_le (s:Nat) (l:List Int) (k:Nat):sumP s (l.take k)≤sumP s l:=by
  have:sumP s l=sumP s (l.take k) + sumP s (l.drop k):=by
    unfold sumP
    rw [← List.sum_append,← List.map_append,List.take_append_drop]
  omega
theorem sumP_to (x:Instance) (s:Nat):∀ k,k≤x.orders.length→x.orders.length≤62→sumP s (ordTo x k)=bitsN (fun i=>suchB (fun _=>true) x.orders i && s.testBit i) k
  | 0,_,_=>rfl
  | k + 1,hk,h62=>by
    obtain ⟨o,ho⟩:=getIn (show k < x.orders.length by omega)
    have ih:=sumP_to x s k (by omega) h62
    rw [ordTo_succ ho,bitsN,← ih]
    have e:=suchB_at (q:=fun _=>true) ho
    unfold sumP
    rw [List.map_append,List.sum_append]
    cases hf:o.off
    · rw [if_neg (by simp),e,hf]
      simp only [List.map_cons,List.map_nil,List.sum_cons,List.sum_nil,Int.toNat_natCast,Bool.not_false,Bool.true_and,Bool.and_true,Nat.add_zero]
      rw [hasR_nat (by omega)]
    · rw [if_pos rfl,e,hf]
      simp
theorem sumP_all (x:Instance) (s:Nat) (h:x.orders.length≤62):sumP s (ordI x)=s &&& allO x:=by
  have:sumP s (ordI x)=bitsN (fun i=>suchB (fun _=>true) x.orders i && s.testBit i) x.orders.length:=sumP_to x s _ (Nat.le_refl _) h
  rw [this]
  refine Nat.eq_of_testBit_eq fun i=>?_
  have ha:(allO x).testBit i=(decide (i < x.orders.length) && suchB (fun _=>true) x.orders i):=bitsN_test _ _ _
  rw [bitsN_test,Nat.testBit_and,ha]
  cases decide (i < x.orders.length) <;> cases suchB (fun _=>true) x.orders i <;> cases s.testBit i <;> rfl
theorem has30n_c (s i:Int) (hs:s < 0):PC Tryz.prog 99 [int s,int i] (boo false):=by
  refine PC.body (c:=Tryz.f99.body.getD .skip) (fun _=>false) mixed Tryz.func99 rfl (by kernel_rfl) ?_
  unfold Tryz.f99
  simp only [Option.getD_some]
  simp only [go_sem]
  refine ⟨fun _=>by decide,?_⟩
  refine cB ?_
  rw [decide_eq_false (show ¬ s≥0 by omega)]; rfl
theorem sound30_c (x:Instance) (c:Column) (hx:x.orders.length≤62) (ht:x.types.length≤1048576) (hs:i64I c.set):PC Tryz.prog 95 [.agg (encInstance x),.agg (encColumn c)] (boo (!badC x c)):=by
  have hol:=ordI_len x
  refine PC.body (c:=Tryz.f95.body.getD .skip) (fun _=>false) mixed Tryz.func95 rfl (by kernel_rfl) ?_
  unfold Tryz.f95
  simp only [Option.getD_some]
  simp only [go_sem]
  refine PC.use (orders30_c x (by omega)) ?_
  simp only [go_sem]
  by_cases hneg:c.set < 0
  · skip
    refine ⟨fun ρ H=>∃ (k:Nat),k≤(ordI x).length∧ρ 2=.rp (encInstance x) 0∧ρ 3=.rp (encColumn c) 0∧ρ 6=.sl ((ordI x).map encInt)∧ρ 7=int k∧ρ 5=int c.set,fun ρ _=>(ordI x).length - natOf (ρ 7),⟨0,Nat.zero_le _,by simp only [go_sem],by simp only [go_sem],by simp only [go_sem],(by simp only [go_sem]; rfl),by simp only [go_sem]⟩,?_⟩
    rintro ρ H ⟨k,hk,e2,e3,e6,e7,e5⟩
    simp only [go_sem,e2,e3,e6,e7,e5]
    refine acond_i (fun hlt=>?_) (fun hge=>?_)
    · have hlt:=ltB (by simpa using hlt)
      obtain ⟨i,hi⟩:=getIn hlt
      have b1:=inB hlt
      simp only [go_sem,e2,e3,e6,e7,e5]
      refine adraw_m [(0,true),(1,true),(2,true),(3,true),(4,true),(5,true),(6,false)] (by kernel_rfl) ?_
      simp only [go_sem,e2,e3,e6,e7,e5,getD_map hi,b1]
      refine PC.use (has30n_c c.set i hneg) ?_
      simp only [go_sem,e2,e3,e6,e7,e5]
      refine acond_i (fun hb=>by cases hb) (fun hb=>?_)
      simp only [go_sem,e2,e3,e6,e7,e5,wrapS (show k≤4611686018427387904 by omega)]
      exact ⟨⟨k + 1,hlt,rfl⟩,by simp only [natOf_int]; omega⟩
    have hge:=geB hk (by simpa using hge)
    subst hge
    simp only [go_sem,e2,e3,e6,e7,e5,List.length_map]
    refine cB ?_
    unfold badC
    rw [decide_eq_false (show ¬ c.set > 0 by omega),decide_eq_true (show c.set≤0 by omega)]
    simp
  obtain ⟨s,hsn⟩:=Int.eq_ofNat_of_zero_le (show 0≤c.set by omega)
  have hs63:s < 2 ^ 63:=by have:=hs.2; omega
  have hall:=sumP_all x s hx
  have hale:s &&& allO x≤s:=Nat.and_le_left
  rw [hsn]
  refine ⟨fun ρ H=>∃ (k:Nat),k≤(ordI x).length∧ρ 2=.rp (encInstance x) 0∧ρ 3=.rp (encColumn c) 0∧ρ 6=.sl ((ordI x).map encInt)∧ρ 7=int k∧ρ 5=int ((s - sumP s ((ordI x).take k):Nat):Int),fun ρ _=>(ordI x).length - natOf (ρ 7),⟨0,Nat.zero_le _,by simp only [go_sem],by simp only [go_sem],by simp only [go_sem],(by simp only [go_sem]; rfl),by simp only [go_sem]; rfl⟩,?_⟩
  rintro ρ H ⟨k,hk,e2,e3,e6,e7,e5⟩
  simp only [go_sem,e2,e3,e6,e7,e5]
  refine acond_i (fun hlt=>?_) (fun hge=>?_)
  · have hlt:=ltB (by simpa using hlt)
    obtain ⟨i,hi⟩:=getIn hlt
    have b1:=inB hlt
    obtain ⟨n,o,rfl,hn,ho,hoff⟩:=ordI_in (List.mem_of_getElem? hi)
    have hsc:=sumP_succ (s:=s) hi
    have hle:=sumP_le s (ordI x) (k + 1)
    simp only [go_sem,e2,e3,e6,e7,e5]
    refine adraw_m [(0,true),(1,true),(2,true),(3,true),(4,true),(5,true),(6,false)] (by kernel_rfl) ?_
    simp only [go_sem,e2,e3,e6,e7,e5,getD_map hi,b1,hsn]
    refine PC.use (has30_c s _ hs63) ?_
    simp only [go_sem,e2,e3,e6,e7,e5]
    refine acond_i (fun hb=>?_) (fun hb=>?_)
    · rw [if_pos hb,Int.toNat_natCast] at hsc
      have hu:IntKind.u64.wrap ((n:Nat):Int)=((n:Nat):Int):=by
        show ((n:Nat):Int) % 18446744073709551616=_
        omega
      have hpw:2 ^ n≤2 ^ 62:=Nat.pow_le_pow_right (by decide) (by omega)
      have hw:IntKind.i64.wrap (((s - sumP s ((ordI x).take k):Nat):Int) - ((2 ^ n:Nat):Int))=((s - sumP s ((ordI x).take (k + 1)):Nat):Int):=by
        generalize 2 ^ n=P at *
        rw [wrap_in (by omega)]; omega
      simp only [go_sem,e2,e3,e6,e7,e5,getD_map hi,b1,hu,shl_in (show n≤62 by omega),hw,wrapS (show k≤4611686018427387904 by omega)]
      refine ⟨by omega,⟨k + 1,hlt,rfl,rfl⟩,by simp only [natOf_int]; omega⟩
    · rw [if_neg (by rw [hb]; simp),Nat.add_zero] at hsc
      simp only [go_sem,e2,e3,e6,e7,e5,wrapS (show k≤4611686018427387904 by omega)]
      exact ⟨⟨k + 1,hlt,rfl,by rw [hsc,Nat.add_zero]⟩,by simp only [natOf_int]; omega⟩
  have hge:=geB hk (by simpa using hge)
  subst hge
  rw [List.take_length,hall] at e5
  simp only [go_sem,e2,e3,e6,e7,e5,List.length_map]
  refine cB ?_
  unfold badC
  rw [hsn,Int.toNat_natCast]
  by_cases h0:s=0
  · subst h0; simp
  · have e1 : ((((s - (s &&& allO x) : Nat) : Int)) == 0) = decide (s &&& allO x = s) := by
      rw [Bool.eq_iff_iff,beq_iff_eq,decide_eq_true_eq]
      omega
    rw [e1]
    have e2:decide ((s:Int) > 0)=true:=by simp; omega
    have e3:decide ((s:Int)≤0)=false:=by simp; omega
    rw [e2,e3]
    by_cases ht0:c.type < 0
    · rw [decide_eq_true ht0,decide_eq_false (show ¬ c.type≥0 by omega)]; simp
    · rw [decide_eq_false ht0,decide_eq_true (show c.type≥0 by omega)]
      by_cases ht1:c.type < (x.types.length:Int)
      · rw [decide_eq_true ht1,decide_eq_false (show ¬ c.type≥(x.types.length:Int) by omega)]; simp
      · rw [decide_eq_false ht1,decide_eq_true (show c.type≥(x.types.length:Int) by omega)]; simp
end Go.Proofs.YtpddaldlebngaaaGreatDoor.Nu
end
