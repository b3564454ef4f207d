/- Texts joined by a program: CuJ, CuK, CuL, CuM, MaB, MaC, MaD. -/
import Derived.Test.YtpddaldlebngaaaGreatDoorZp27
import Derived.Test.YtpddaldlebngaaaGreatDoorZp29
import Derived.Test.YtpddaldlebngaaaGreatDoorZp31

section
set_option linter.unusedSimpArgs false
set_option linter.unusedVariables false
namespace Go.Proofs.YtpddaldlebngaaaGreatDoor.Nu
open Go.Aw Go.Aw.D Go.Proofs Ty Go.Nu Go.So Go.Sb
set_option maxRecDepth 100000
end Go.Proofs.YtpddaldlebngaaaGreatDoor.Nu
end

section
set_option linter.unusedSimpArgs false
set_option linter.unusedVariables false
namespace Go.Proofs.YtpddaldlebngaaaGreatDoor.Nu
open Go.Aw Go.Aw.D Go.Proofs Ty Go.Nu Go.So Go.Sb
set_option maxRecDepth 100000
structure ColsOk (cols:List Column) (rates:List ByteArray):Prop where
  set:∀ c∈cols,0≤c.set∧c.set≤9223372036854775807
  cl:cols.length≤1048576
  rl:rates.length≤1048576
  rs:∀ s∈rates,s.size≤1048576
end Go.Proofs.YtpddaldlebngaaaGreatDoor.Nu
end

section
set_option linter.unusedSimpArgs false
set_option linter.unusedVariables false
namespace Go.Proofs.YtpddaldlebngaaaGreatDoor.Nu
open Go.Aw Go.Aw.D Go.Proofs Ty Go.Nu Go.So Go.Sb
set_option maxRecDepth 100000
end Go.Proofs.YtpddaldlebngaaaGreatDoor.Nu
end

section
set_option linter.unusedSimpArgs false
set_option linter.unusedVariables false
namespace Go.Proofs.YtpddaldlebngaaaGreatDoor.Nu
open Go.Aw Go.Aw.D Go.Proofs Ty Go.Nu Go.So Go.Sb
set_option maxRecDepth 100000
theorem capR_of {l:List Int} {d:Int} (h:capR l d=true):1≤(l.length:Int)∧(l.length:Int)≤3∧(l.length:Int)=d∧∀ n∈l,0≤n∧n≤1000:=by
  unfold capR at h
  split at h
  · cases h
  · next h1=>
    simp only [Bool.or_eq_true,not_or,Bool.not_eq_true,Bool.not_eq_false',bne_eq_false_iff_eq] at h1
    have e:=inR_iff.1 h1.1
    exact ⟨e.1,e.2,h1.2,fun n hn=>inR_iff.1 (List.all_eq_true.1 h n hn)⟩
theorem rightL_of {l:List Int} {d:Int} (h:rightL l d=true):(l.length:Int)=d∧∀ n∈l,0≤n∧n≤1000:=by
  unfold rightL at h
  split at h
  · next h1=>
    refine ⟨h1,fun n hn=>?_⟩
    have:=List.all_eq_true.1 h n hn
    simp at this
    omega
  · cases h
theorem loadsOk_of {x:Instance} (h:Acc x):LoadsOk x (dimsR x.types).toNat∧x.types≠[]:=by
  have hne:x.types≠[]:=by
    intro h0
    have:=h.types
    rw [h0] at this
    simp at this
  obtain ⟨t,r,ht⟩:=List.exists_cons_of_ne_nil hne
  have hd:dimsR x.types=t.cap.length:=by rw [ht]; rfl
  have ht1:=capR_of (h.type t (by rw [ht]; exact List.mem_cons_self)).cap
  have e:((dimsR x.types).toNat:Int)=dimsR x.types:=by omega
  refine ⟨⟨by omega,by have:=h.orders; omega,by have:=h.types; omega,fun o ho=>?_,fun t ht=>?_⟩,hne⟩
  · have:=rightL_of (h.order o ho).load
    exact ⟨by omega,this.2⟩
  · have:=capR_of (h.type t ht).cap
    exact ⟨by omega,this.2.2.2⟩
theorem coefA_c (c:Cut) (sn:Nat) (h:0≤c.set) (hcs:c.set < 9223372036854775808) (hsl:sn < 2 ^ 63):PC Tryz.prog 72 [.agg (encCut c),int sn] (int (coefP c.kind (c.set.toNat &&& sn))):=by
  obtain ⟨k,s,n⟩:=c
  obtain ⟨m,rfl⟩:=Int.eq_ofNat_of_zero_le h
  have hcs:(m:Int) < 9223372036854775808:=hcs
  exact coef_c k n m sn (by omega) hsl
theorem coefB_c (c:Cut) (sn:Nat) (h:0≤c.set) (hcs:c.set < 9223372036854775808) (hsl:sn < 2 ^ 63):PC Tryz.prog 100 [.agg (encCut c),int sn] (int (coefP c.kind (c.set.toNat &&& sn))):=by
  obtain ⟨k,s,n⟩:=c
  obtain ⟨m,rfl⟩:=Int.eq_ofNat_of_zero_le h
  have hcs:(m:Int) < 9223372036854775808:=hcs
  exact coef28_c k n m sn (by omega) hsl
end Go.Proofs.YtpddaldlebngaaaGreatDoor.Nu
end

section
set_option linter.unusedSimpArgs false
set_option linter.unusedVariables false
namespace Go.Proofs.YtpddaldlebngaaaGreatDoor.Nu
open Go.Aw Go.Aw.D Go.Proofs Ty Go.Nu
open Dec (chkR knownR allowsR forbidsR decB hasN)
set_option maxRecDepth 100000
def ordN (x:Instance):List Nat:=(List.range x.orders.length).filter (suchB (fun _=>true) x.orders)
def ordI (x:Instance):List Int:=(ordN x).map fun i:Nat=>(i:Int)
def ordTo (x:Instance) (k:Nat):List Int:=((List.range k).filter (suchB (fun _=>true) x.orders)).map fun i:Nat=>(i:Int)
theorem ordTo_succ {x:Instance} {k:Nat} {o:Order} (h:x.orders[k]?=some o):ordTo x (k + 1)=ordTo x k ++ (if o.off=true then [] else [(k:Int)]):=by
  unfold ordTo
  rw [List.range_succ,List.filter_append,List.map_append]
  have e:=suchB_at (q:=fun _=>true) h
  rw [Bool.and_true] at e
  cases ho:o.off <;> simp [List.filter_cons,e,ho]
theorem ordTo_len (x:Instance) (k:Nat):(ordTo x k).length≤k:=by
  unfold ordTo
  rw [List.length_map]
  exact Nat.le_trans (List.length_filter_le _ _) (by rw [List.length_range]; exact Nat.le_refl _)
theorem ordI_len (x:Instance):(ordI x).length≤x.orders.length:=ordTo_len x _
theorem ordI_in {x:Instance} {i:Int} (h:i∈ordI x):∃ n o,i=(n:Nat)∧n < x.orders.length∧x.orders[n]?=some o∧o.off=false:=by
  obtain ⟨n,hn,rfl⟩:=List.mem_map.1 h
  obtain ⟨h1,h2⟩:=List.mem_filter.1 hn
  have hlt:=List.mem_range.1 h1
  obtain ⟨o,ho⟩:=getIn hlt
  rw [suchB_at ho] at h2
  exact ⟨n,o,rfl,hlt,ho,by simpa using h2⟩
theorem filter_cut {p q:Nat→Bool} {n:Nat} (h1:∀ i,i < n→p i=q i) (h2:∀ i,n≤i→p i=false):∀ m,(List.range (n + m)).filter p=(List.range n).filter q
  | 0=>List.filter_congr fun i hi=>h1 i (List.mem_range.1 hi)
  | m + 1=>by
    rw [← Nat.add_assoc,List.range_succ,List.filter_append,filter_cut h1 h2 m]
    simp [h2 (n + m) (by omega)]
theorem mem_all (x:Instance) (h:x.orders.length≤62):memS (allO x:Nat)=ordI x:=by
  unfold memS memU ordI ordN
  congr 1
  obtain ⟨m,hm⟩:∃ m,63=x.orders.length + m:=⟨63 - x.orders.length,by omega⟩
  have ht:∀ i,(allO x).testBit i=(decide (i < x.orders.length) && suchB (fun _=>true) x.orders i):=fun i=>bitsN_test _ _ _
  have h63:∀ i:Nat,hasR ((allO x:Nat):Int) (i:Int)=(decide (i < x.orders.length) && suchB (fun _=>true) x.orders i):=by
    intro i
    by_cases hi:i≤62
    · rw [hasR_nat hi,ht]
    · unfold hasR
      rw [decide_eq_false (show ¬ ((i:Int)≤62) by omega),decide_eq_false (show ¬ i < x.orders.length by omega)]
      simp
  rw [hm]
  refine filter_cut (fun i hi=>?_) (fun i hi=>?_) m
  · rw [h63,decide_eq_true hi,Bool.true_and]
  · rw [h63,decide_eq_false (by omega),Bool.false_and]
def bitI (b:Bool):Int:=if b=true then 1 else 0
def cntD (d:Decision):Bool:=d.kind == 3 || d.kind == 4
theorem cntD_len (l:List Decision) (k:Nat):((l.take k).filter cntD).length≤k:=Nat.le_trans (List.length_filter_le _ _) (by rw [List.length_take]; omega)
theorem filter_take {α:Type} {p:α→Bool} {l:List α} {k:Nat} {a:α} (h:l[k]?=some a):(l.take (k + 1)).filter p=(l.take k).filter p ++ (if p a=true then [a] else []):=by
  rw [take_succ h,List.filter_append]
  by_cases hp:p a=true
  · simp [hp]
  · simp [hp]
theorem bit30_c (b:Bool):PC Tryz.prog 98 [boo b] (int (bitI b)):=by
  refine PC.body (c:=Tryz.f98.body.getD .skip) (fun _=>false) mixed Tryz.func98 rfl (by kernel_rfl) ?_
  unfold Tryz.f98
  simp only [Option.getD_some]
  simp only [go_sem]
  refine acond_i (fun hb=>?_) (fun hb=>?_)
  · simp only [go_sem]
    subst hb
    exact .refl _
  · simp only [go_sem]
    subst hb
    exact .refl _
theorem has30_c (s:Nat) (i:Int) (hs:s < 2 ^ 63):PC Tryz.prog 99 [int s,int i] (boo (hasR s i)):=by
  refine PC.body (c:=Tryz.f99.body.getD .skip) (fun _=>false) mixed Tryz.func99 rfl (by kernel_rfl) ?_
  unfold Tryz.f99
  simp only [Option.getD_some]
  simp only [go_sem]
  refine ⟨fun _=>by decide,?_⟩
  refine cB ?_
  unfold hasR
  rw [decide_eq_true (show ((s:Nat):Int)≥0 by omega),Bool.true_and]
  by_cases h:0≤i∧i≤62
  · obtain ⟨n,rfl⟩:=Int.eq_ofNat_of_zero_le h.1
    rw [show IntKind.u64.wrap ((n:Nat):Int)=((n:Nat):Int) from by
      show ((n:Nat):Int) % 18446744073709551616=_
      omega,shr_in (by omega)]
    have e:((2:Int) ^ n)=((2 ^ n:Nat):Int):=by norm_cast
    rw [e,← Int.natCast_ediv,Int.tmod_eq_emod_of_nonneg (Int.natCast_nonneg _),Int.toNat_natCast,e,← Int.natCast_ediv]
  · have:(decide (i≥0) && decide (i≤62))=false:=by simp; omega
    rw [this]; rfl
theorem cnt30_c (d:Decision):PC Tryz.prog 101 [.agg (encDecision d)] (boo (cntD d)):=by
  refine PC.body (c:=Tryz.f101.body.getD .skip) (fun _=>false) mixed Tryz.func101 rfl (by kernel_rfl) ?_
  unfold Tryz.f101
  simp only [Option.getD_some]
  simp only [go_sem]
  exact .refl _
abbrev iRow (l:List Int):Row:=⟨3,1,l.map encInt⟩
theorem orders30_c (x:Instance) (h:x.orders.length≤1048576):PC Tryz.prog 55 [.agg (encInstance x)] (.sl ((ordI x).map encInt)):=by
  refine PC.body (c:=Tryz.f55.body.getD .skip) (fun t=>t == 3) mixed Tryz.func55 rfl (by kernel_rfl) ?_
  unfold Tryz.f55
  simp only [Option.getD_some]
  simp only [go_sem]
  refine anew_i fun j hj=>?_
  simp only [go_sem]
  refine ⟨fun ρ H=>∃ (k:Nat) (j:Nat),k≤x.orders.length∧ρ 1=.rp (encInstance x) 0∧ρ 4=int k∧ρ 3=.os j∧H j=some (iRow (ordTo x k)),fun ρ _=>x.orders.length - natOf (ρ 4),⟨0,j,Nat.zero_le _,by simp only [go_sem],(by simp only [go_sem]; rfl),by simp only [go_sem],updH_same _ _ _⟩,?_⟩
  rintro ρ H ⟨k,j,hk,e1,e4,e3,R⟩
  simp only [go_sem,e1,e4,e3]
  refine acond_i (fun hlt=>?_) (fun hge=>?_)
  · have hlt:=ltB (by simpa using hlt)
    obtain ⟨o,ho⟩:=getIn hlt
    have b1:=inB hlt
    have hl:=ordTo_len x k
    have hs:=ordTo_succ ho
    simp only [go_sem,e1,e4,e3,getD_map ho,b1]
    refine acond_i (fun hb=>?_) (fun hb=>?_)
    · rw [if_neg (by simpa using hb)] at hs
      simp only [go_sem,e1,e4,e3]
      refine wappE_i R ⟨rfl,rfl⟩ ⟨rfl,trivial⟩ (by simp only [List.length_map,List.length_cons,List.length_nil]; omega) (fun j' hj'=>?_)
      simp only [go_sem,e1,e4,e3,wrapS (show k≤4611686018427387904 by omega)]
      refine ⟨⟨k + 1,j',hlt,rfl,rfl,?_⟩,by simp only [natOf_int]; omega⟩
      rw [hs]
      exact row_appG rfl
    · rw [if_pos (by simpa using hb),List.append_nil] at hs
      simp only [go_sem,e1,e4,e3,wrapS (show k≤4611686018427387904 by omega)]
      exact ⟨⟨k + 1,j,hlt,rfl,rfl,by rw [hs]; exact R⟩,by simp only [natOf_int]; omega⟩
  have hge:=geB hk (by simpa using hge)
  subst hge
  simp only [go_sem,e1,e4,e3]
  exact .row _ _ _ R (ConvE.refl _)
def rowsN (x:Instance) (cuts:List Cut) (ds:List Decision):Nat:=(ordI x).length + x.types.length + cuts.length + (ds.filter cntD).length
structure MIn (x:Instance) (cuts:List Cut) (ds:List Decision):Prop where
  orders:x.orders.length≤62
  types:x.types.length≤1048576
  cl:cuts.length≤1048576
  dl:ds.length≤1048576
theorem rows30_c (x:Instance) (cuts:List Cut) (ds:List Decision) (h:MIn x cuts ds):PC Tryz.prog 96 [.agg (encInstance x),.sl (cuts.map encCut),.sl (ds.map encDecision)] (int (rowsN x cuts ds:Nat)):=by
  have h1:=h.orders
  have h2:=h.types
  have h3:=h.cl
  have h4:=h.dl
  have hol:=ordI_len x
  refine PC.body (c:=Tryz.f96.body.getD .skip) (fun _=>false) mixed Tryz.func96 rfl (by kernel_rfl) ?_
  unfold Tryz.f96
  simp only [Option.getD_some]
  simp only [go_sem]
  refine adraw_m [(0,true),(3,true),(4,true),(5,true),(7,true),(8,true),(1,false),(2,false),(6,false),(9,false),(10,false)] (by kernel_rfl) ?_
  simp only [go_sem,List.length_map]
  refine PC.use (orders30_c x (by omega)) ?_
  have w1:IntKind.i64.wrap (((ordI x).length:Int) + (x.types.length:Int))=(((ordI x).length + x.types.length:Nat):Int):=by rw [wrap_in (by omega)]; omega
  have w2:IntKind.i64.wrap ((((ordI x).length + x.types.length:Nat):Int) + (cuts.length:Int))=(((ordI x).length + x.types.length + cuts.length:Nat):Int):=by rw [wrap_in (by omega)]; omega
  simp only [go_sem,List.length_map,w1,w2]
  refine ⟨fun ρ H=>∃ (k:Nat),k≤ds.length∧ρ 2=.sl (ds.map encDecision)∧ρ 8=int k∧ρ 7=int ((ordI x).length + x.types.length + cuts.length + ((ds.take k).filter cntD).length:Nat),fun ρ _=>ds.length - natOf (ρ 8),⟨0,Nat.zero_le _,by simp only [go_sem],(by simp only [go_sem]; rfl),by simp only [go_sem]; rfl⟩,?_⟩
  rintro ρ H ⟨k,hk,e2,e8,e7⟩
  simp only [go_sem,e2,e8,e7]
  refine acond_i (fun hlt=>?_) (fun hge=>?_)
  · have hlt:=ltB (by simpa using hlt)
    obtain ⟨d,hd⟩:=getIn hlt
    have b1:=inB hlt
    have hs:=filter_take (p:=cntD) hd
    have hl:=cntD_len ds k
    simp only [go_sem,e2,e8,e7,getD_map hd,b1]
    refine PC.use (cnt30_c d) ?_
    simp only [go_sem,e2,e8,e7]
    refine acond_i (fun hb=>?_) (fun hb=>?_)
    · rw [if_pos hb] at hs
      have w:IntKind.i64.wrap (((((ordI x).length + x.types.length + cuts.length + ((ds.take k).filter cntD).length:Nat)):Int) + 1)=(((ordI x).length + x.types.length + cuts.length + ((ds.take (k + 1)).filter cntD).length:Nat):Int):=by
        rw [hs,List.length_append,wrap_in (by omega)]; simp; omega
      simp only [go_sem,e2,e8,e7,w,wrapS (show k≤4611686018427387904 by omega)]
      exact ⟨⟨k + 1,hlt,rfl,rfl⟩,by simp only [natOf_int]; omega⟩
    · rw [if_neg (by rw [hb]; simp),List.append_nil] at hs
      simp only [go_sem,e2,e8,e7,wrapS (show k≤4611686018427387904 by omega)]
      exact ⟨⟨k + 1,hlt,rfl,by rw [hs]⟩,by simp only [natOf_int]; omega⟩
  have hge:=geB hk (by simpa using hge)
  subst hge
  rw [List.take_length] at e7
  simp only [go_sem,e2,e8,e7]
  exact .refl _
end Go.Proofs.YtpddaldlebngaaaGreatDoor.Nu
end

section
set_option linter.unusedSimpArgs false
set_option linter.unusedVariables false
namespace Go.Proofs.YtpddaldlebngaaaGreatDoor.Nu
open Go.Aw Go.Aw.D Go.Proofs Ty Go.Nu
open Dec (chkR knownR allowsR forbidsR decB hasN)
set_option maxRecDepth 100000
def servedB (ds:List Decision) (i:Int):Bool:=ds.any fun d=>d.kind == 5 && d.a == i
theorem served_succ {ds:List Decision} {k:Nat} {d:Decision} {i:Int} (h:ds[k]?=some d):servedB (ds.take (k + 1)) i=(servedB (ds.take k) i || (d.kind == 5 && d.a == i)):=by
  unfold servedB
  rw [take_succ h,List.any_append]
  simp
def penAt (x:Instance) (i:Int):Int:=(orderAt x.orders i).penalty
def skipB (x:Instance) (ds:List Decision) (i:Int):Bool:=decide (penAt x i≥0) && !servedB ds i
def skipsM (x:Instance) (ds:List Decision):List Int:=(ordI x).filter (skipB x ds)
theorem filter_tl {α:Type} (p:α→Bool) (l:List α) (k:Nat):((l.take k).filter p).length≤k:=Nat.le_trans (List.length_filter_le _ _) (by rw [List.length_take]; omega)
theorem skips30_c (x:Instance) (ds:List Decision) (hx:x.orders.length≤62) (hd:ds.length≤1048576):PC Tryz.prog 21 [.agg (encInstance x),.sl (ds.map encDecision)] (.sl ((skipsM x ds).map encInt)):=by
  have hol:=ordI_len x
  refine PC.body (c:=Tryz.f21.body.getD .skip) (fun t=>t == 5) mixed Tryz.func21 rfl (by kernel_rfl) ?_
  unfold Tryz.f21
  simp only [Option.getD_some]
  simp only [go_sem]
  refine anew_i fun j hj=>?_
  simp only [go_sem]
  refine PC.use (orders30_c x (by omega)) ?_
  simp only [go_sem]
  refine ⟨fun ρ H=>∃ (k:Nat) (j:Nat),k≤(ordI x).length∧ρ 1=.sl (ds.map encDecision)∧ρ 2=.rp (encInstance x) 0∧ρ 6=.sl ((ordI x).map encInt)∧ρ 7=int k∧ρ 5=.os j∧H j=some (iRow (((ordI x).take k).filter (skipB x ds))),fun ρ _=>(ordI x).length - natOf (ρ 7),⟨0,j,Nat.zero_le _,by simp only [go_sem],by simp only [go_sem],by simp only [go_sem],(by simp only [go_sem]; rfl),by simp only [go_sem],updH_same _ _ _⟩,?_⟩
  rintro ρ H ⟨k,j,hk,e1,e2,e6,e7,e5,R⟩
  simp only [go_sem,e1,e2,e6,e7,e5]
  refine acond_i (fun hlt=>?_) (fun hge=>?_)
  · have hlt:=ltB (by simpa using hlt)
    obtain ⟨i,hi⟩:=getIn hlt
    have b1:=inB hlt
    obtain ⟨n,o,rfl,hn,ho,hoff⟩:=ordI_in (List.mem_of_getElem? hi)
    have b2:=inB hn
    have hs:=filter_take (p:=skipB x ds) hi
    have hl:=filter_tl (skipB x ds) (ordI x) k
    have hpen:penAt x (n:Int)=o.penalty:=by unfold penAt; rw [orderAt_get ho]
    simp only [go_sem,e1,e2,e6,e7,e5,getD_map hi,b1]
    refine adraw_q (by rfl) (by kernel_rfl) ?_
    simp only [go_sem,e1,e2,e6,e7,e5,getD_map hi,b1,getD_map ho,b2]
    generalize k=K at *
    refine ⟨fun ρ H=>∃ (k:Nat),k≤ds.length∧ρ 1=.sl (ds.map encDecision)∧ρ 2=.rp (encInstance x) 0∧ρ 6=.sl ((ordI x).map encInt)∧ρ 7=int (K:Nat)∧ρ 9=int k∧ρ 5=.os j∧ρ 8=boo (decide (penAt x (n:Int)≥0) && !servedB (ds.take k) (n:Int))∧H j=some (iRow (((ordI x).take K).filter (skipB x ds))),fun ρ _=>ds.length - natOf (ρ 9),⟨0,Nat.zero_le _,by simp only [go_sem,e1,e2,e5,e6,e7],by simp only [go_sem,e1,e2,e5,e6,e7],by simp only [go_sem,e1,e2,e5,e6,e7],by simp only [go_sem,e1,e2,e5,e6,e7],(by simp only [go_sem,e1,e2,e5,e6,e7]; rfl),by simp only [go_sem,e1,e2,e5,e6,e7],by simp only [go_sem,hpen]; simp [servedB],R⟩,?_⟩
    rintro ρ H ⟨k,hk,e1,e2,e6,e7,e9,e5,e8,R⟩
    simp only [go_sem,e1,e2,e6,e7,e9,e5,e8]
    refine acond_i (fun hlt=>?_) (fun hge=>?_)
    · have hlt:=ltB (by simpa using hlt)
      obtain ⟨d,hd⟩:=getIn hlt
      have b3:=inB hlt
      have hsv:=served_succ (i:=(n:Int)) hd
      simp only [go_sem,e1,e2,e6,e7,e9,e5,e8,getD_map hd,b3]
      refine adraw_q (by rfl) (by kernel_rfl) ?_
      simp only [go_sem,e1,e2,e6,e7,e9,e5,e8,getD_map hd,b3,getD_map hi,b1]
      simp only [wrapS (show k≤4611686018427387904 by omega)]
      refine ⟨⟨k + 1,hlt,rfl,?_,R⟩,by simp only [natOf_int]; omega⟩
      rw [hsv,Bool.not_or,Bool.and_assoc]
    have hge:=geB hk (by simpa using hge)
    subst hge
    rw [List.take_length] at e8
    change ρ 8=boo (skipB x ds (n:Int)) at e8
    simp only [go_sem,e1,e2,e6,e7,e9,e5,e8]
    refine acond_i (fun hb=>?_) (fun hb=>?_)
    · rw [if_pos hb] at hs
      simp only [go_sem,e1,e2,e6,e7,e9,e5,e8,getD_map hi,b1]
      refine wappE_i R ⟨rfl,rfl⟩ ⟨rfl,trivial⟩ (by simp only [List.length_map,List.length_cons,List.length_nil]; omega) (fun j' hj'=>?_)
      simp only [go_sem,e1,e2,e6,e7,e9,e5,e8,wrapS (show K≤4611686018427387904 by omega)]
      refine ⟨⟨K + 1,j',by omega,rfl,rfl,?_⟩,by simp only [natOf_int]; omega⟩
      rw [hs]
      exact row_appG rfl
    · rw [if_neg (by rw [hb]; simp),List.append_nil] at hs
      simp only [go_sem,e1,e2,e6,e7,e9,e5,e8,wrapS (show K≤4611686018427387904 by omega)]
      exact ⟨⟨K + 1,j,by omega,rfl,rfl,by rw [hs]; exact R⟩,by simp only [natOf_int]; omega⟩
  have hge:=geB hk (by simpa using hge)
  subst hge
  rw [List.take_length] at R
  simp only [go_sem,e1,e2,e5,e6,e7]
  exact .row _ _ _ R (ConvE.refl _)
def coefO (x:Instance) (c:Column):List Int:=(ordI x).map fun i=>bitI (hasR c.set i)
def coefT (x:Instance) (c:Column) (k:Nat):List Int:=(List.range k).map fun t:Nat=>bitI (c.type == (t:Int))
def coefC (c:Column) (cuts:List Cut):List Int:=cuts.map fun q=>coefP q.kind (q.set.toNat &&& c.set.toNat)
def coefD (c:Column) (ds:List Decision):List Int:=(ds.filter cntD).map fun d=>bitI (c.type == d.a)
def coefsM (x:Instance) (c:Column) (cuts:List Cut) (ds:List Decision):List Int:=coefO x c ++ coefT x c x.types.length ++ coefC c cuts ++ coefD c ds
structure ColB (c:Column):Prop where
  set:0≤c.set∧c.set≤9223372036854775807
structure CutsB (cuts:List Cut):Prop where
  set:∀ q∈cuts,0≤q.set∧q.set≤9223372036854775807
theorem coefsM_len (x:Instance) (c:Column) (cuts:List Cut) (ds:List Decision):(coefsM x c cuts ds).length=rowsN x cuts ds:=by
  unfold coefsM coefO coefT coefC coefD rowsN
  simp only [List.length_append,List.length_map,List.length_range]
theorem coefs30_c (x : Instance) (c : Column) (cuts : List Cut) (ds : List Decision) (h : MIn x cuts ds) (hc : ColB c) (hq : CutsB cuts) :
    PC Tryz.prog 50 [.agg (encInstance x),.agg (encColumn c),.sl (cuts.map encCut),.sl (ds.map encDecision)] (.sl ((coefsM x c cuts ds).map encInt)):=by
  have h1:=h.orders
  have h2:=h.types
  have h3:=h.cl
  have h4:=h.dl
  have hol:=ordI_len x
  obtain ⟨sn,hsn⟩:=Int.eq_ofNat_of_zero_le hc.set.1
  have hsn63:sn < 2 ^ 63:=by have:=hc.set.2; omega
  refine PC.body (c:=Tryz.f50.body.getD .skip) (fun t=>t == 9) mixed Tryz.func50 rfl (by kernel_rfl) ?_
  unfold Tryz.f50
  simp only [Option.getD_some]
  simp only [go_sem]
  refine anew_i fun j hj=>?_
  simp only [go_sem]
  refine PC.use (orders30_c x (by omega)) ?_
  simp only [go_sem]
  refine ⟨fun ρ H=>∃ (k:Nat) (j:Nat),k≤(ordI x).length∧ρ 2=.sl (cuts.map encCut)∧ρ 3=.sl (ds.map encDecision)∧ρ 4=.rp (encInstance x) 0∧ρ 5=.rp (encColumn c) 0∧ρ 10=.sl ((ordI x).map encInt)∧ρ 11=int k∧ρ 9=.os j∧H j=some (iRow (((ordI x).take k).map fun i=>bitI (hasR c.set i))),fun ρ _=>(ordI x).length - natOf (ρ 11),⟨0,j,Nat.zero_le _,by simp only [go_sem],by simp only [go_sem],by simp only [go_sem],by simp only [go_sem],by simp only [go_sem],(by simp only [go_sem]; rfl),by simp only [go_sem],updH_same _ _ _⟩,?_⟩
  rintro ρ H ⟨k,j,hk,e2,e3,e4,e5,e10,e11,e9,R⟩
  simp only [go_sem,e2,e3,e4,e5,e10,e11,e9]
  refine acond_i (fun hlt=>?_) (fun hge=>?_)
  · have hlt:=ltB (by simpa using hlt)
    obtain ⟨i,hi⟩:=getIn hlt
    have b1:=inB hlt
    simp only [go_sem,e2,e3,e4,e5,e10,e11,e9,getD_map hi,b1]
    refine adraw_m [(0,true),(1,true),(2,true),(3,true),(4,true),(5,true),(6,true),(7,false),(8,false),(9,false),(10,false),(11,false)] (by kernel_rfl) ?_
    simp only [go_sem,e2,e3,e4,e5,e10,e11,e9,getD_map hi,b1,hsn]
    refine PC.use (has30_c sn i hsn63) ?_
    simp only [go_sem,e2,e3,e4,e5,e10,e11,e9]
    refine PC.use (bit30_c _) ?_
    simp only [go_sem,e2,e3,e4,e5,e10,e11,e9]
    refine wappE_i R ⟨rfl,rfl⟩ ⟨rfl,trivial⟩ (by simp only [List.length_map,List.length_take,List.length_cons,List.length_nil]; omega) (fun j' hj'=>?_)
    simp only [go_sem,e2,e3,e4,e5,e10,e11,e9,wrapS (show k≤4611686018427387904 by omega)]
    refine ⟨⟨k + 1,j',hlt,rfl,rfl,?_⟩,by simp only [natOf_int]; omega⟩
    rw [take_succ hi,List.map_append,hsn]
    exact row_appG rfl
  have hge:=geB hk (by simpa using hge)
  subst hge
  rw [List.take_length] at R
  change H j=some (iRow (coefO x c)) at R
  simp only [go_sem,e2,e3,e4,e5,e10,e11,e9]
  refine ⟨fun ρ H=>∃ (k:Nat) (j:Nat),k≤x.types.length∧ρ 2=.sl (cuts.map encCut)∧ρ 3=.sl (ds.map encDecision)∧ρ 4=.rp (encInstance x) 0∧ρ 5=.rp (encColumn c) 0∧ρ 12=int k∧ρ 9=.os j∧H j=some (iRow (coefO x c ++ coefT x c k)),fun ρ _=>x.types.length - natOf (ρ 12),⟨0,j,Nat.zero_le _,by simp only [go_sem,e2,e3,e4,e5],by simp only [go_sem,e2,e3,e4,e5],by simp only [go_sem,e2,e3,e4,e5],by simp only [go_sem,e2,e3,e4,e5],(by simp only [go_sem,e2,e3,e4,e5]; rfl),by simp only [go_sem,e9],by simpa [coefT] using R⟩,?_⟩
  rintro ρ H ⟨k,j,hk,e2,e3,e4,e5,e12,e9,R⟩
  simp only [go_sem,e2,e3,e4,e5,e12,e9]
  refine acond_i (fun hlt=>?_) (fun hge=>?_)
  · have hlt:=ltB (by simpa using hlt)
    have hlen:(coefO x c ++ coefT x c k).length≤62 + k:=by unfold coefO coefT; simp only [List.length_append,List.length_map,List.length_range]; omega
    simp only [go_sem,e2,e3,e4,e5,e12,e9]
    refine PC.use (bit30_c _) ?_
    simp only [go_sem,e2,e3,e4,e5,e12,e9]
    refine wappE_i R ⟨rfl,rfl⟩ ⟨rfl,trivial⟩ (by simp only [List.length_map,List.length_cons,List.length_nil]; omega) (fun j' hj'=>?_)
    simp only [go_sem,e2,e3,e4,e5,e12,e9,wrapS (show k≤4611686018427387904 by omega)]
    refine ⟨⟨k + 1,j',hlt,rfl,rfl,?_⟩,by simp only [natOf_int]; omega⟩
    have:coefT x c (k + 1)=coefT x c k ++ [bitI (c.type == (k:Int))]:=by unfold coefT; rw [List.range_succ,List.map_append]; rfl
    rw [this,← List.append_assoc]
    exact row_appG rfl
  have hge:=geB hk (by simpa using hge)
  subst hge
  simp only [go_sem,e2,e3,e4,e5,e12,e9]
  refine ⟨fun ρ H=>∃ (k:Nat) (j:Nat),k≤cuts.length∧ρ 2=.sl (cuts.map encCut)∧ρ 3=.sl (ds.map encDecision)∧ρ 5=.rp (encColumn c) 0∧ρ 13=int k∧ρ 9=.os j∧H j=some (iRow (coefO x c ++ coefT x c x.types.length ++ coefC c (cuts.take k))),fun ρ _=>cuts.length - natOf (ρ 13),⟨0,j,Nat.zero_le _,by simp only [go_sem,e2,e3,e5],by simp only [go_sem,e2,e3,e5],by simp only [go_sem,e2,e3,e5],(by simp only [go_sem,e2,e3,e5]; rfl),by simp only [go_sem,e9],by simpa [coefC] using R⟩,?_⟩
  rintro ρ H ⟨k,j,hk,e2,e3,e5,e13,e9,R⟩
  simp only [go_sem,e2,e3,e5,e13,e9]
  refine acond_i (fun hlt=>?_) (fun hge=>?_)
  · have hlt:=ltB (by simpa using hlt)
    obtain ⟨q,hqq⟩:=getIn hlt
    have b1:=inB hlt
    have hqs:=hq.set q (List.mem_of_getElem? hqq)
    have hlen:(coefO x c ++ coefT x c x.types.length ++ coefC c (cuts.take k)).length≤62 + 1048576 + 1048576:=by unfold coefO coefT coefC; simp only [List.length_append,List.length_map,List.length_range,List.length_take]; omega
    simp only [go_sem,e2,e3,e5,e13,e9,getD_map hqq,b1]
    refine adraw_m [(0,true),(1,true),(2,true),(3,true),(4,true),(5,true),(6,true),(7,false),(8,false),(9,false),(10,false)] (by kernel_rfl) ?_
    simp only [go_sem,e2,e3,e5,e13,e9,getD_map hqq,b1,hsn]
    refine PC.use (coefB_c q sn hqs.1 (by omega) hsn63) ?_
    simp only [go_sem,e2,e3,e5,e13,e9]
    refine wappE_i R ⟨rfl,rfl⟩ ⟨rfl,trivial⟩ (by simp only [List.length_map,List.length_cons,List.length_nil]; omega) (fun j' hj'=>?_)
    simp only [go_sem,e2,e3,e5,e13,e9,wrapS (show k≤4611686018427387904 by omega)]
    refine ⟨⟨k + 1,j',hlt,rfl,rfl,?_⟩,by simp only [natOf_int]; omega⟩
    have:coefC c (cuts.take (k + 1))=coefC c (cuts.take k) ++ [coefP q.kind (q.set.toNat &&& sn)]:=by unfold coefC; rw [take_succ hqq,List.map_append,hsn]; rfl
    rw [this,← List.append_assoc]
    exact row_appG rfl
  have hge:=geB hk (by simpa using hge)
  subst hge
  rw [List.take_length] at R
  simp only [go_sem,e2,e3,e5,e13,e9]
  refine ⟨fun ρ H=>∃ (k:Nat) (j:Nat),k≤ds.length∧ρ 3=.sl (ds.map encDecision)∧ρ 5=.rp (encColumn c) 0∧ρ 14=int k∧ρ 9=.os j∧H j=some (iRow (coefO x c ++ coefT x c x.types.length ++ coefC c cuts ++ coefD c (ds.take k))),fun ρ _=>ds.length - natOf (ρ 14),⟨0,j,Nat.zero_le _,by simp only [go_sem,e3,e5],by simp only [go_sem,e3,e5],(by simp only [go_sem,e3,e5]; rfl),by simp only [go_sem,e9],by simpa [coefD] using R⟩,?_⟩
  rintro ρ H ⟨k,j,hk,e3,e5,e14,e9,R⟩
  simp only [go_sem,e3,e5,e14,e9]
  refine acond_i (fun hlt=>?_) (fun hge=>?_)
  · have hlt:=ltB (by simpa using hlt)
    obtain ⟨d,hd⟩:=getIn hlt
    have b1:=inB hlt
    have hs:=filter_take (p:=cntD) hd
    have hlen:(coefO x c ++ coefT x c x.types.length ++ coefC c cuts ++ coefD c (ds.take k)).length≤62 + 1048576 + 1048576 + 1048576:=by
      have:=cntD_len ds k
      unfold coefO coefT coefC coefD; simp only [List.length_append,List.length_map,List.length_range]; omega
    simp only [go_sem,e3,e5,e14,e9,getD_map hd,b1]
    refine PC.use (cnt30_c d) ?_
    simp only [go_sem,e3,e5,e14,e9]
    refine acond_i (fun hb=>?_) (fun hb=>?_)
    · rw [if_pos hb] at hs
      have:coefD c (ds.take (k + 1))=coefD c (ds.take k) ++ [bitI (d.a == c.type)]:=by
        unfold coefD
        rw [hs,List.map_append,List.map_cons,List.map_nil,show (d.a == c.type)=(c.type == d.a) from BEq.comm]
      simp only [go_sem,e3,e5,e14,e9]
      refine adraw_m [(0,true),(1,true),(2,true),(3,true),(4,true),(5,true),(6,true),(7,true),(8,true),(9,false),(10,false),(11,false),(12,false)] (by kernel_rfl) ?_
      simp only [go_sem,e3,e5,e14,e9,getD_map hd,b1]
      refine PC.use (bit30_c _) ?_
      simp only [go_sem,e3,e5,e14,e9]
      refine wappE_i R ⟨rfl,rfl⟩ ⟨rfl,trivial⟩ (by simp only [List.length_map,List.length_cons,List.length_nil]; omega) (fun j' hj'=>?_)
      simp only [go_sem,e3,e5,e14,e9,wrapS (show k≤4611686018427387904 by omega)]
      refine ⟨⟨k + 1,j',hlt,rfl,rfl,?_⟩,by simp only [natOf_int]; omega⟩
      rw [this,← List.append_assoc]
      exact row_appG rfl
    · rw [if_neg (by rw [hb]; simp),List.append_nil] at hs
      simp only [go_sem,e3,e5,e14,e9,wrapS (show k≤4611686018427387904 by omega)]
      refine ⟨⟨k + 1,j,hlt,rfl,rfl,?_⟩,by simp only [natOf_int]; omega⟩
      have:coefD c (ds.take (k + 1))=coefD c (ds.take k):=by unfold coefD; rw [hs]
      rw [this]; exact R
  have hge:=geB hk (by simpa using hge)
  subst hge
  rw [List.take_length] at R
  simp only [go_sem,e3,e5,e14,e9]
  exact .row _ _ _ R (ConvE.refl _)
end Go.Proofs.YtpddaldlebngaaaGreatDoor.Nu
end

section
set_option linter.unusedSimpArgs false
set_option linter.unusedVariables false
namespace Go.Proofs.YtpddaldlebngaaaGreatDoor.Nu
open Go.Aw Go.Aw.D Go.Proofs Ty Go.Nu
open Dec (chkR knownR allowsR forbidsR decB hasN)
set_option maxRecDepth 100000
theorem getM_put (m:List (Int × Int)) (o v q:Int):getM (putM m o v) q=if q=o then v else getM m q:=by
  unfold getM putM idxM
  induction m with
  | nil=>
    by_cases h:q=o
    · subst h; simp
    · have h2:(o == q)=false:=by simpa using fun e=>h e.symm
      simp [h,h2]
  | cons p m ih=>
    rw [List.findIdx?_cons]
    cases hp:p.1 == o with
    | true=>
      have hpe:p.1=o:=by simpa using hp
      simp only [if_true,List.set_cons_zero,List.find?_cons]
      by_cases h:q=o
      · subst h; simp
      · have h2:(o == q)=false:=by simpa using fun e=>h e.symm
        have h3:(p.1 == q)=false:=by rw [hpe]; exact h2
        simp [h,h2,h3]
    | false=>
      have hpe:p.1≠o:=by simpa using hp
      cases hi:m.findIdx? (fun p=>p.1 == o) with
      | none=>
        rw [hi] at ih
        simp only [Bool.false_eq_true,if_false,Option.map_none,List.cons_append,List.find?_cons]
        cases hq:p.1 == q with
        | true=>
          have:q≠o:=fun e=>hpe ((by simpa using hq:p.1=q).trans e)
          simp [this]
        | false=>simpa using ih
      | some j=>
        rw [hi] at ih
        simp only [Bool.false_eq_true,if_false,Option.map_some,List.set_cons_succ,List.find?_cons]
        cases hq:p.1 == q with
        | true=>
          have:q≠o:=fun e=>hpe ((by simpa using hq:p.1=q).trans e)
          simp [this]
        | false=>simpa using ih
theorem mcnt_c (d:Decision):PC Tryz.prog 73 [.agg (encDecision d)] (boo (cntD d)):=by
  refine PC.body (c:=Tryz.f73.body.getD .skip) (fun _=>false) mixed Tryz.func73 rfl (by kernel_rfl) ?_
  unfold Tryz.f73
  simp only [Option.getD_some]
  simp only [go_sem]
  exact .refl _
theorem one_c (b:Bool):PC Tryz.prog 35 [boo b] (int (bitI b)):=by
  refine PC.body (c:=Tryz.f35.body.getD .skip) (fun _=>false) mixed Tryz.func35 rfl (by kernel_rfl) ?_
  unfold Tryz.f35
  simp only [Option.getD_some]
  simp only [go_sem]
  refine acond_i (fun hb=>?_) (fun hb=>?_)
  · simp only [go_sem]
    subst hb
    exact .refl _
  · simp only [go_sem]
    subst hb
    exact .refl _
theorem coefs_c (x : Instance) (c : Column) (cuts : List Cut) (ds : List Decision) (h : MIn x cuts ds) (hc : ColB c) (hq : CutsB cuts) :
    PC Tryz.prog 32 [.agg (encInstance x),.agg (encColumn c),.sl (cuts.map encCut),.sl (ds.map encDecision)] (.sl ((coefsM x c cuts ds).map encInt)):=by
  have h1:=h.orders
  have h2:=h.types
  have h3:=h.cl
  have h4:=h.dl
  have hol:=ordI_len x
  obtain ⟨sn,hsn⟩:=Int.eq_ofNat_of_zero_le hc.set.1
  have hsn63:sn < 2 ^ 63:=by have:=hc.set.2; omega
  refine PC.body (c:=Tryz.f32.body.getD .skip) (fun t=>t == 9) mixed Tryz.func32 rfl (by kernel_rfl) ?_
  unfold Tryz.f32
  simp only [Option.getD_some]
  simp only [go_sem]
  refine anew_i fun j hj0=>?_
  generalize hGj:updH _ j _=HGj
  have R:HGj j=some (iRow []):=by rw [← hGj,updH_same]; rfl
  clear hGj hj0
  simp only [go_sem,R]
  refine PC.use (all_c x h1) ?_
  simp only [go_sem]
  refine PC.use (members_c _) ?_
  rw [mem_all x h1]
  simp only [go_sem]
  refine ⟨fun ρ H=>∃ (k:Nat) (j:Nat),k≤(ordI x).length∧ρ 2=.sl (cuts.map encCut)∧ρ 3=.sl (ds.map encDecision)∧ρ 4=.rp (encInstance x) 0∧ρ 5=.rp (encColumn c) 0∧ρ 19=.sl ((ordI x).map encInt)∧ρ 20=int ((ordI x).length:Nat)∧ρ 21=int k∧ρ 9=.os j∧H j=some (iRow (((ordI x).take k).map fun i=>bitI (hasR c.set i))),fun ρ _=>(ordI x).length - natOf (ρ 21),⟨0,j,Nat.zero_le _,by simp only [go_sem],by simp only [go_sem],by simp only [go_sem],by simp only [go_sem],by simp only [go_sem],by simp only [go_sem,List.length_map],(by simp only [go_sem]; rfl),by simp only [go_sem],R⟩,?_⟩
  rintro ρ H ⟨k,j,hk,e2,e3,e4,e5,e19,e20,e21,e9,R⟩
  simp only [go_sem,e2,e3,e4,e5,e19,e20,e21,e9]
  refine acond_i (fun hlt=>?_) (fun hge=>?_)
  · have hlt:=ltB (by simpa using hlt)
    obtain ⟨i,hi⟩:=getIn hlt
    have b1:=inB hlt
    simp only [go_sem,e2,e3,e4,e5,e19,e20,e21,e9,getD_map hi,b1]
    refine PC.use (sHas_c _ i) ?_
    simp only [go_sem,e2,e3,e4,e5,e19,e20,e21,e9]
    refine PC.use (one_c _) ?_
    simp only [go_sem,e2,e3,e4,e5,e19,e20,e21,e9]
    refine wappE_i R ⟨rfl,rfl⟩ ⟨rfl,trivial⟩ (by simp only [List.length_map,List.length_take,List.length_cons,List.length_nil]; omega) (fun j' hj'=>?_)
    simp only [go_sem,e2,e3,e4,e5,e19,e20,e21,e9,wrapS (show k≤4611686018427387904 by omega)]
    refine ⟨⟨k + 1,j',hlt,rfl,rfl,?_⟩,by simp only [natOf_int]; omega⟩
    rw [take_succ hi,List.map_append]
    exact row_appG rfl
  have hge:=geB hk (by simpa using hge)
  subst hge
  rw [List.take_length] at R
  change H j=some (iRow (coefO x c)) at R
  simp only [go_sem,e2,e3,e4,e5,e19,e20,e21,e9,List.length_map]
  refine ⟨fun ρ H=>∃ (k:Nat) (j:Nat),k≤x.types.length∧ρ 2=.sl (cuts.map encCut)∧ρ 3=.sl (ds.map encDecision)∧ρ 5=.rp (encColumn c) 0∧ρ 36=int (x.types.length:Nat)∧ρ 37=int k∧ρ 9=.os j∧H j=some (iRow (coefO x c ++ coefT x c k)),fun ρ _=>x.types.length - natOf (ρ 37),⟨0,j,Nat.zero_le _,by simp only [go_sem,e2,e3,e5],by simp only [go_sem,e2,e3,e5],by simp only [go_sem,e2,e3,e5],by simp only [go_sem,List.length_map,e2,e3,e5],(by simp only [go_sem,e2,e3,e5]; rfl),by simp only [go_sem,e9],by simpa [coefT] using R⟩,?_⟩
  rintro ρ H ⟨k,j,hk,e2,e3,e5,e36,e37,e9,R⟩
  simp only [go_sem,e2,e3,e5,e36,e37,e9]
  refine acond_i (fun hlt=>?_) (fun hge=>?_)
  · have hlt:=ltB (by simpa using hlt)
    have hlen:(coefO x c ++ coefT x c k).length≤62 + k:=by unfold coefO coefT; simp only [List.length_append,List.length_map,List.length_range]; omega
    simp only [go_sem,e2,e3,e5,e36,e37,e9]
    refine PC.use (one_c _) ?_
    simp only [go_sem,e2,e3,e5,e36,e37,e9]
    refine wappE_i R ⟨rfl,rfl⟩ ⟨rfl,trivial⟩ (by simp only [List.length_map,List.length_cons,List.length_nil]; omega) (fun j' hj'=>?_)
    simp only [go_sem,e2,e3,e5,e36,e37,e9,wrapS (show k≤4611686018427387904 by omega)]
    refine ⟨⟨k + 1,j',hlt,rfl,rfl,?_⟩,by simp only [natOf_int]; omega⟩
    have:coefT x c (k + 1)=coefT x c k ++ [bitI (c.type == (k:Int))]:=by unfold coefT; rw [List.range_succ,List.map_append]; rfl
    rw [this,← List.append_assoc]
    exact row_appG rfl
  have hge:=geB hk (by simpa using hge)
  subst hge
  simp only [go_sem,e2,e3,e5,e36,e37,e9,List.length_map]
  refine ⟨fun ρ H=>∃ (k:Nat) (j:Nat),k≤cuts.length∧ρ 3=.sl (ds.map encDecision)∧ρ 5=.rp (encColumn c) 0∧ρ 49=.sl (cuts.map encCut)∧ρ 50=int (cuts.length:Nat)∧ρ 51=int k∧ρ 9=.os j∧H j=some (iRow (coefO x c ++ coefT x c x.types.length ++ coefC c (cuts.take k))),fun ρ _=>cuts.length - natOf (ρ 51),⟨0,j,Nat.zero_le _,by simp only [go_sem,e3,e5],by simp only [go_sem,e3,e5],by simp only [go_sem,e3,e5],by simp only [go_sem,List.length_map,e3,e5],(by simp only [go_sem,e3,e5]; rfl),by simp only [go_sem,e9],by simpa [coefC] using R⟩,?_⟩
  rintro ρ H ⟨k,j,hk,e3,e5,e49,e50,e51,e9,R⟩
  simp only [go_sem,e3,e5,e49,e50,e51,e9]
  refine acond_i (fun hlt=>?_) (fun hge=>?_)
  · have hlt:=ltB (by simpa using hlt)
    obtain ⟨q,hqq⟩:=getIn hlt
    have b1:=inB hlt
    have hqs:=hq.set q (List.mem_of_getElem? hqq)
    have hlen:(coefO x c ++ coefT x c x.types.length ++ coefC c (cuts.take k)).length≤62 + 1048576 + 1048576:=by unfold coefO coefT coefC; simp only [List.length_append,List.length_map,List.length_range,List.length_take]; omega
    simp only [go_sem,e3,e5,e49,e50,e51,e9,getD_map hqq,b1]
    refine anew_i fun i14 hi140=>?_
    have ne_j_i14:j≠i14:=ne_new R hi140
    simp only [go_sem,e3,e5,e49,e50,e51,e9,R]
    refine wputE_n (updH_same _ _ _) (by simp [encCut_len]) ?_
    generalize hGi14:updH (updH _ i14 _) i14 _=HGi14
    replace R:=(congrFun hGi14.symm j).trans ((updH_ne _ _ _ _ ne_j_i14).trans ((updH_ne _ _ _ _ ne_j_i14).trans R))
    have R14:HGi14 i14=some (⟨126,3,[encCut q]⟩):=by rw [← hGi14,updH_same]; rfl
    clear hGi14 hi140
    simp only [go_sem,e3,e5,e49,e50,e51,e9,R14,R]
    rw [hsn]
    refine PC.use (coefA_c q sn hqs.1 (by omega) hsn63) ?_
    simp only [go_sem,e3,e5,e49,e50,e51,e9]
    refine wappE_i R ⟨rfl,rfl⟩ ⟨rfl,trivial⟩ (by simp only [List.length_map,List.length_cons,List.length_nil]; omega) (fun j' hj'=>?_)
    simp only [go_sem,e3,e5,e49,e50,e51,e9,wrapS (show k≤4611686018427387904 by omega)]
    refine ⟨⟨k + 1,j',hlt,rfl,rfl,?_⟩,by simp only [natOf_int]; omega⟩
    have:coefC c (cuts.take (k + 1))=coefC c (cuts.take k) ++ [coefP q.kind (q.set.toNat &&& sn)]:=by unfold coefC; rw [take_succ hqq,List.map_append,hsn]; rfl
    rw [this,← List.append_assoc]
    exact row_appG rfl
  have hge:=geB hk (by simpa using hge)
  subst hge
  rw [List.take_length] at R
  simp only [go_sem,e3,e5,e49,e50,e51,e9,List.length_map]
  refine ⟨fun ρ H=>∃ (k:Nat) (j:Nat),k≤ds.length∧ρ 5=.rp (encColumn c) 0∧ρ 63=.sl (ds.map encDecision)∧ρ 64=int (ds.length:Nat)∧ρ 65=int k∧ρ 9=.os j∧H j=some (iRow (coefO x c ++ coefT x c x.types.length ++ coefC c cuts ++ coefD c (ds.take k))),fun ρ _=>ds.length - natOf (ρ 65),⟨0,j,Nat.zero_le _,by simp only [go_sem,e5],by simp only [go_sem,e5],by simp only [go_sem,List.length_map,e5],(by simp only [go_sem,e5]; rfl),by simp only [go_sem,e9],by simpa [coefD] using R⟩,?_⟩
  rintro ρ H ⟨k,j,hk,e5,e63,e64,e65,e9,R⟩
  simp only [go_sem,e5,e63,e64,e65,e9]
  refine acond_i (fun hlt=>?_) (fun hge=>?_)
  · have hlt:=ltB (by simpa using hlt)
    obtain ⟨d,hd⟩:=getIn hlt
    have b1:=inB hlt
    have hs:=filter_take (p:=cntD) hd
    have hlen:(coefO x c ++ coefT x c x.types.length ++ coefC c cuts ++ coefD c (ds.take k)).length≤62 + 1048576 + 1048576 + 1048576:=by
      have:=cntD_len ds k
      unfold coefO coefT coefC coefD; simp only [List.length_append,List.length_map,List.length_range]; omega
    simp only [go_sem,e5,e63,e64,e65,e9,getD_map hd,b1]
    refine anew_i fun i16 hi160=>?_
    have ne_j_i16:j≠i16:=ne_new R hi160
    simp only [go_sem,e5,e63,e64,e65,e9,R]
    refine wputE_n (updH_same _ _ _) (by simp [encDecision_len]) ?_
    generalize hGi16:updH (updH _ i16 _) i16 _=HGi16
    replace R:=(congrFun hGi16.symm j).trans ((updH_ne _ _ _ _ ne_j_i16).trans ((updH_ne _ _ _ _ ne_j_i16).trans R))
    have R16:HGi16 i16=some (⟨110,4,[encDecision d]⟩):=by rw [← hGi16,updH_same]; rfl
    clear hGi16 hi160
    simp only [go_sem,e5,e63,e64,e65,e9,R16,R]
    refine PC.use (mcnt_c d) ?_
    simp only [go_sem,e5,e63,e64,e65,e9]
    refine acond_i (fun hb=>?_) (fun hb=>?_)
    · rw [if_pos hb] at hs
      have:coefD c (ds.take (k + 1))=coefD c (ds.take k) ++ [bitI (c.type == d.a)]:=by
        unfold coefD
        rw [hs,List.map_append,List.map_cons,List.map_nil]
      simp only [go_sem,e5,e63,e64,e65,e9,R16]
      refine PC.use (one_c _) ?_
      simp only [go_sem,e5,e63,e64,e65,e9]
      refine wappE_i R ⟨rfl,rfl⟩ ⟨rfl,trivial⟩ (by simp only [List.length_map,List.length_cons,List.length_nil]; omega) (fun j' hj'=>?_)
      simp only [go_sem,e5,e63,e64,e65,e9,wrapS (show k≤4611686018427387904 by omega)]
      refine ⟨⟨k + 1,j',hlt,rfl,rfl,?_⟩,by simp only [natOf_int]; omega⟩
      rw [this,← List.append_assoc]
      exact row_appG rfl
    · rw [if_neg (by rw [hb]; simp),List.append_nil] at hs
      simp only [go_sem,e5,e63,e64,e65,e9,wrapS (show k≤4611686018427387904 by omega)]
      refine ⟨⟨k + 1,j,hlt,rfl,rfl,?_⟩,by simp only [natOf_int]; omega⟩
      have:coefD c (ds.take (k + 1))=coefD c (ds.take k):=by unfold coefD; rw [hs]
      rw [this]; exact R
  have hge:=geB hk (by simpa using hge)
  subst hge
  rw [List.take_length] at R
  simp only [go_sem,e5,e63,e64,e65,e9]
  exact .row _ _ _ R (ConvE.refl _)
def inM (cols:List Column) (ds:List Decision):List Column:=cols.filter fun c=>ds.all fun d=>allowsR d c.set
abbrev colRow' (l:List Column):Row:=⟨57,7,l.map encColumn⟩
theorem allowed_c (cols:List Column) (ds:List Decision) (hl:cols.length≤1048576) (hd:ds.length≤1048576):PC Tryz.prog 17 [.sl (cols.map encColumn),.sl (ds.map encDecision)] (.sl ((inM cols ds).map encColumn)):=by
  refine PC.body (c:=Tryz.f17.body.getD .skip) (fun t=>t == 5) mixed Tryz.func17 rfl (by kernel_rfl) ?_
  unfold Tryz.f17
  simp only [Option.getD_some]
  simp only [go_sem]
  refine anew_i fun j hj0=>?_
  generalize hGj:updH _ j _=HGj
  have R:HGj j=some (colRow' []):=by rw [← hGj,updH_same]; rfl
  clear hGj hj0
  simp only [go_sem,R]
  refine ⟨fun ρ H=>∃ (k:Nat) (j:Nat),k≤cols.length∧ρ 1=.sl (ds.map encDecision)∧ρ 8=.sl (cols.map encColumn)∧ρ 9=int (cols.length:Nat)∧ρ 10=int k∧ρ 5=.os j∧H j=some (colRow' (inM (cols.take k) ds)),fun ρ _=>cols.length - natOf (ρ 10),⟨0,j,Nat.zero_le _,by simp only [go_sem],by simp only [go_sem],by simp only [go_sem,List.length_map],(by simp only [go_sem]; rfl),by simp only [go_sem],R⟩,?_⟩
  rintro ρ H ⟨k,j,hk,e1,e8,e9,e10,e5,R⟩
  simp only [go_sem,e1,e8,e9,e10,e5]
  refine acond_i (fun hlt=>?_) (fun hge=>?_)
  · have hlt:=ltB (by simpa using hlt)
    obtain ⟨c,hc⟩:=getIn hlt
    have b1:=inB hlt
    have hs:inM (cols.take (k + 1)) ds=inM (cols.take k) ds ++ (if (ds.all fun d=>allowsR d c.set)=true then [c] else []):=filter_take (p:=fun c:Column=>ds.all fun d=>allowsR d c.set) hc
    have hln:(inM (cols.take k) ds).length≤k:=filter_tl _ _ _
    simp only [go_sem,e1,e8,e9,e10,e5,getD_map hc,b1]
    refine anew_i fun i7 hi70=>?_
    have ne_j_i7:j≠i7:=ne_new R hi70
    simp only [go_sem,e1,e8,e9,e10,e5,R]
    refine wputE_n (updH_same _ _ _) (by simp [encColumn_len]) ?_
    generalize hGi7:updH (updH _ i7 _) i7 _=HGi7
    replace R:=(congrFun hGi7.symm j).trans ((updH_ne _ _ _ _ ne_j_i7).trans ((updH_ne _ _ _ _ ne_j_i7).trans R))
    have R7:HGi7 i7=some (⟨57,7,[encColumn c]⟩):=by rw [← hGi7,updH_same]; rfl
    clear hGi7 hi70
    simp only [go_sem,e1,e8,e9,e10,e5,R7,R]
    refine PC.use (Dec.Allows_c ds c hd) ?_
    simp only [go_sem,e1,e8,e9,e10,e5]
    refine acond_i (fun hb=>?_) (fun hb=>?_)
    · rw [if_pos hb] at hs
      simp only [go_sem,e1,e8,e9,e10,e5,R7]
      refine wappE_i R ⟨rfl,rfl⟩ ⟨rfl,trivial⟩ (by simp only [List.length_map,List.length_cons,List.length_nil]; omega) (fun j' hj'=>?_)
      simp only [go_sem,e1,e8,e9,e10,e5,wrapS (show k≤4611686018427387904 by omega)]
      refine ⟨⟨k + 1,j',hlt,rfl,rfl,?_⟩,by simp only [natOf_int]; omega⟩
      rw [hs]
      exact row_appG rfl
    · rw [if_neg (by rw [hb]; simp),List.append_nil] at hs
      simp only [go_sem,e1,e8,e9,e10,e5,wrapS (show k≤4611686018427387904 by omega)]
      exact ⟨⟨k + 1,j,hlt,rfl,rfl,by rw [hs]; exact R⟩,by simp only [natOf_int]; omega⟩
  have hge:=geB hk (by simpa using hge)
  subst hge
  rw [List.take_length] at R
  simp only [go_sem,e1,e8,e9,e10,e5]
  exact .row _ _ _ R (ConvE.refl _)
end Go.Proofs.YtpddaldlebngaaaGreatDoor.Nu
end
