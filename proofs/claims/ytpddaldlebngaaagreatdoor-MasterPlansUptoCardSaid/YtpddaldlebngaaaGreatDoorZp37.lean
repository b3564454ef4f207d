/- Texts joined by a program: MaO, MaP, MaQ. -/
import Derived.Test.YtpddaldlebngaaaGreatDoorZp36

section
set_option linter.unusedSimpArgs false
set_option linter.unusedVariables false
namespace Go.Proofs.YtpddaldlebngaaaGreatDoor.Nu
open Go.Aw Go.Aw.D Go.Proofs Ty Go.Nu
open Dec (chkR allowsR forbidsR decB hasN)
set_option maxRecDepth 100000
abbrev rwRow (l:List PRow):Row:=⟨68,3,l.map encPRow⟩
theorem bare30_c (x : Instance) (cuts : List Cut) (ds : List Decision) (h : MIn x cuts ds) :
    PC Tryz.prog 48 [.agg (encInstance x),.sl (cuts.map encCut),.sl (ds.map encDecision)] (.sl ((rowsM x cuts ds).map encPRow)):=by
  have h1:=h.orders
  have h2:=h.types
  have h3:=h.cl
  have h4:=h.dl
  have hol:=ordI_len x
  unfold rowsM
  refine PC.body (c:=Tryz.f48.body.getD .skip) (fun t=>t == 7) mixed Tryz.func48 rfl (by kernel_rfl) ?_
  unfold Tryz.f48
  simp only [Option.getD_some]
  simp only [go_sem]
  refine anew_i fun j hj0=>?_
  generalize hGj:updH _ j _=HGj
  have R:HGj j=some (rwRow []):=by rw [← hGj,updH_same]; rfl
  clear hGj hj0
  simp only [go_sem,R]
  refine ⟨fun ρ H=>∃ (k j:Nat),k≤(ordI x).length∧ρ 1=.sl (cuts.map encCut)∧ρ 2=.sl (ds.map encDecision)∧ρ 3=.rp (encInstance x) 0∧ρ 8=int k∧ρ 7=.os j∧H j=some (rwRow (rowsO k)),fun ρ _=>(ordI x).length - natOf (ρ 8),⟨0,j,Nat.zero_le _,by simp only [go_sem],by simp only [go_sem],by simp only [go_sem],by simp only [go_sem]; rfl,by simp only [go_sem],R⟩,?_⟩
  rintro ρ H ⟨k,j,hk,e1,e2,e3,e8,e7,R⟩
  simp only [go_sem,e1,e2,e3,e7,e8]
  refine PC.use (orders30_c x (by omega)) ?_
  simp only [go_sem,e1,e2,e3,e7,e8,List.length_map]
  refine acond_i (fun hlt=>?_) (fun hge=>?_)
  · have hlt:=ltB (by simpa using hlt)
    simp only [go_sem,e1,e2,e3,e7,e8]
    refine wappE_i R ⟨rfl,rfl⟩ ⟨rfl,trivial⟩ (by simp only [rowsO,List.length_map,List.length_replicate,List.length_cons,List.length_nil]; omega) (fun j' hj'=>?_)
    simp only [go_sem,e1,e2,e3,e7,e8,wrapS (show k≤4611686018427387904 by omega)]
    refine ⟨⟨k + 1,j',hlt,rfl,rfl,?_⟩,by simp only [natOf_int]; omega⟩
    rw [show rowsO (k + 1)=rowsO k ++ [⟨[],2,1⟩] from List.replicate_succ']
    exact row_appG rfl
  have hge:=geB hk (by simpa using hge)
  subst hge
  simp only [go_sem,e1,e2,e3,e7,e8]
  generalize hB:rowsO (ordI x).length=B at R
  have hBl:B.length≤62:=by rw [← hB]; unfold rowsO; rw [List.length_replicate]; omega
  refine ⟨fun ρ H=>∃ (k:Nat) (j:Nat),k≤x.types.length∧ρ 1=.sl (cuts.map encCut)∧ρ 2=.sl (ds.map encDecision)∧ρ 3=.rp (encInstance x) 0∧ρ 9=int k∧ρ 7=.os j∧H j=some (rwRow (B ++ rowsT (x.types.take k))),fun ρ _=>x.types.length - natOf (ρ 9),⟨0,j,Nat.zero_le _,by simp only [go_sem,e1,e2,e3],by simp only [go_sem,e1,e2,e3],by simp only [go_sem,e1,e2,e3],(by simp only [go_sem,e1,e2,e3]; rfl),by simp only [go_sem,e7],by simpa [rowsT] using R⟩,?_⟩
  rintro ρ H ⟨k,j,hk,e1,e2,e3,e9,e7,R⟩
  simp only [go_sem,e1,e2,e3,e9,e7]
  refine acond_i (fun hlt=>?_) (fun hge=>?_)
  · have hlt:=ltB (by simpa using hlt)
    obtain ⟨t,ht⟩:=getIn hlt
    have b1:=inB hlt
    have hlen:(B ++ rowsT (x.types.take k)).length≤62 + k:=by unfold rowsT; simp only [List.length_append,List.length_map,List.length_take]; omega
    simp only [go_sem,e1,e2,e3,e9,e7,getD_map ht,b1]
    refine wappE_i R ⟨rfl,rfl⟩ ⟨rfl,trivial⟩ (by simp only [List.length_map,List.length_cons,List.length_nil]; omega) (fun j' hj'=>?_)
    have e:B ++ rowsT (x.types.take (k + 1))=B ++ rowsT (x.types.take k) ++ [⟨[],1,t.count⟩]:=by unfold rowsT; rw [take_succ ht,List.map_append,List.append_assoc]; rfl
    simp only [go_sem,e1,e2,e3,e9,e7,wrapS (show k≤4611686018427387904 by omega)]
    refine ⟨⟨k + 1,j',hlt,rfl,rfl,?_⟩,by simp only [natOf_int]; omega⟩
    rw [e]
    exact row_appG rfl
  have hge:=geB hk (by simpa using hge)
  subst hge
  rw [List.take_length] at R
  simp only [go_sem,e1,e2,e3,e9,e7]
  generalize hB2:B ++ rowsT x.types=B2 at R
  have hBl2:B2.length≤62 + 1048576:=by rw [← hB2]; unfold rowsT; rw [List.length_append,List.length_map]; omega
  refine ⟨fun ρ H=>∃ (k:Nat) (j:Nat),k≤cuts.length∧ρ 1=.sl (cuts.map encCut)∧ρ 2=.sl (ds.map encDecision)∧ρ 10=int k∧ρ 7=.os j∧H j=some (rwRow (B2 ++ rowsC (cuts.take k))),fun ρ _=>cuts.length - natOf (ρ 10),⟨0,j,Nat.zero_le _,by simp only [go_sem,e1,e2],by simp only [go_sem,e1,e2],(by simp only [go_sem,e1,e2]; rfl),by simp only [go_sem,e7],by simpa [rowsC] using R⟩,?_⟩
  rintro ρ H ⟨k,j,hk,e1,e2,e10,e7,R⟩
  simp only [go_sem,e1,e2,e10,e7]
  refine acond_i (fun hlt=>?_) (fun hge=>?_)
  · have hlt:=ltB (by simpa using hlt)
    obtain ⟨q,hq⟩:=getIn hlt
    have b1:=inB hlt
    have hlen:(B2 ++ rowsC (cuts.take k)).length≤62 + 1048576 + k:=by unfold rowsC; simp only [List.length_append,List.length_map,List.length_take]; omega
    simp only [go_sem,e1,e2,e10,e7,getD_map hq,b1]
    refine PC.use (row28_c q) ?_
    simp only [go_sem,e1,e2,e10,e7]
    refine wappE_i R ⟨rfl,rfl⟩ ⟨rfl,trivial⟩ (by simp only [List.length_map,List.length_cons,List.length_nil]; omega) (fun j' hj'=>?_)
    have e:B2 ++ rowsC (cuts.take (k + 1))=B2 ++ rowsC (cuts.take k) ++ [⟨[],(rowC q).1,(rowC q).2⟩]:=by unfold rowsC; rw [take_succ hq,List.map_append,List.append_assoc]; rfl
    simp only [go_sem,e1,e2,e10,e7,wrapS (show k≤4611686018427387904 by omega)]
    refine ⟨⟨k + 1,j',hlt,rfl,rfl,?_⟩,by simp only [natOf_int]; omega⟩
    rw [e]
    exact row_appG rfl
  have hge:=geB hk (by simpa using hge)
  subst hge
  rw [List.take_length] at R
  simp only [go_sem,e1,e2,e10,e7]
  generalize hB3:B2 ++ rowsC cuts=B3 at R
  have hBl3:B3.length≤62 + 1048576 + 1048576:=by rw [← hB3]; unfold rowsC; rw [List.length_append,List.length_map]; omega
  refine ⟨fun ρ H=>∃ (k:Nat) (j:Nat),k≤ds.length∧ρ 2=.sl (ds.map encDecision)∧ρ 13=int k∧ρ 7=.os j∧H j=some (rwRow (B3 ++ rowsD (ds.take k))),fun ρ _=>ds.length - natOf (ρ 13),⟨0,j,Nat.zero_le _,by simp only [go_sem,e2],(by simp only [go_sem,e2]; rfl),by simp only [go_sem,e7],by simpa [rowsD] using R⟩,?_⟩
  rintro ρ H ⟨k,j,hk,e2,e13,e7,R⟩
  simp only [go_sem,e2,e13,e7]
  refine acond_i (fun hlt=>?_) (fun hge=>?_)
  · have hlt:=ltB (by simpa using hlt)
    obtain ⟨d,hd⟩:=getIn hlt
    have b1:=inB hlt
    have hs:=filterMap_take hd
    have hlen:(B3 ++ rowsD (ds.take k)).length≤62 + 1048576 + 1048576 + k:=by
      have:=cntD_len ds k
      rw [List.length_append,rowsD_len]; omega
    simp only [go_sem,e2,e13,e7,getD_map hd,b1]
    refine acond_i (fun hb=>?_) (fun hb=>?_)
    · have h3:d.kind=3:=by simpa using hb
      rw [show rowD d=some ⟨[],1,d.n⟩ from if_pos h3] at hs
      have e:B3 ++ rowsD (ds.take (k + 1))=B3 ++ rowsD (ds.take k) ++ [⟨[],1,d.n⟩]:=by rw [hs,List.append_assoc]; rfl
      simp only [go_sem,e2,e13,e7,getD_map hd,b1]
      refine wappE_i R ⟨rfl,rfl⟩ ⟨rfl,trivial⟩ (by simp only [List.length_map,List.length_cons,List.length_nil]; omega) (fun j' hj'=>?_)
      simp only [go_sem,e2,e13,e7,getD_map hd,b1]
      refine acond_i (fun hb=>?_) (fun hb=>?_)
      · simp at hb; omega
      simp only [go_sem,e2,e13,e7,wrapS (show k≤4611686018427387904 by omega)]
      refine ⟨⟨k + 1,j',hlt,rfl,rfl,?_⟩,by simp only [natOf_int]; omega⟩
      rw [e]
      exact row_appG rfl
    have h3:d.kind≠3:=by simpa using hb
    simp only [go_sem,e2,e13,e7,getD_map hd,b1]
    refine acond_i (fun hb=>?_) (fun hb=>?_)
    · have h4:d.kind=4:=by simpa using hb
      rw [show rowD d=some ⟨[],3,d.n⟩ from (if_neg h3).trans (if_pos h4)] at hs
      have e:B3 ++ rowsD (ds.take (k + 1))=B3 ++ rowsD (ds.take k) ++ [⟨[],3,d.n⟩]:=by rw [hs,List.append_assoc]; rfl
      simp only [go_sem,e2,e13,e7,getD_map hd,b1]
      refine wappE_i R ⟨rfl,rfl⟩ ⟨rfl,trivial⟩ (by simp only [List.length_map,List.length_cons,List.length_nil]; omega) (fun j' hj'=>?_)
      simp only [go_sem,e2,e13,e7,wrapS (show k≤4611686018427387904 by omega)]
      refine ⟨⟨k + 1,j',hlt,rfl,rfl,?_⟩,by simp only [natOf_int]; omega⟩
      rw [e]
      exact row_appG rfl
    have h4:d.kind≠4:=by simpa using hb
    rw [show rowD d=none from (if_neg h3).trans (if_neg h4)] at hs
    simp only [go_sem,e2,e13,e7,wrapS (show k≤4611686018427387904 by omega)]
    refine ⟨⟨k + 1,j,hlt,rfl,rfl,?_⟩,by simp only [natOf_int]; omega⟩
    rw [hs]
    simpa using R
  have hge:=geB hk (by simpa using hge)
  subst hge
  rw [List.take_length] at R
  simp only [go_sem,e2,e13,e7]
  exact .row _ _ _ R (ConvE.refl _)
def check30M (x:Instance) (d:Nat) (cols:List Column) (cuts:List Cut) (ds:List Decision):Int:=
  if wrongM x d cols cuts ds≠0 then wrongM x d cols cuts ds else if rowsN x cuts ds > 64∨(inM cols ds).length + (skipsM x ds).length > 8192 then 4 else 0
theorem check30_c (x : Instance) (d : Nat) (cols : List Column) (cuts : List Cut) (ds : List Decision) (hlo : LoadsOk x d) (hne : x.types ≠ []) (h : MIn x cuts ds) (hl : cols.length ≤ 1048576) (hs : ∀ c ∈ cols, i64I c.set) (hq : ∀ q ∈ cuts, q.set ≤ 9223372036854775807) (hdb : ∀ d ∈ ds, decB d) :
    PC Tryz.prog 47 [.agg (encInstance x),.sl (cols.map encColumn),.sl (cuts.map encCut),.sl (ds.map encDecision)] (int (check30M x d cols cuts ds)):=by
  have h1:=h.orders
  have h2:=h.types
  have h3:=h.cl
  have h4:=h.dl
  have hol:=ordI_len x
  unfold check30M wrongM
  refine PC.body (c:=Tryz.f47.body.getD .skip) (fun _=>false) mixed Tryz.func47 rfl (by kernel_rfl) ?_
  unfold Tryz.f47
  simp only [Option.getD_some]
  simp only [go_sem]
  refine PC.use (Dec.chk29_c x ds h4) ?_
  simp only [go_sem]
  refine acond_i (fun hb=>?_) (fun hb=>?_)
  · have hb:chkR x ds≠0:=by simpa using hb
    rw [if_pos hb,if_pos hb]
    simp only [go_sem]
    exact .refl _
  have hck:chkR x ds=0:=by simpa using hb
  rw [if_neg (show ¬ chkR x ds≠0 by simp [hck])]
  simp only [go_sem]
  refine ⟨fun ρ H=>∃ (k:Nat),k≤cuts.length∧ρ 1=.sl (cols.map encColumn)∧ρ 2=.sl (cuts.map encCut)∧ρ 3=.sl (ds.map encDecision)∧ρ 4=.rp (encInstance x) 0∧ρ 10=int k∧∀ e∈(cuts.map (rightC x d)).take k,e=0,fun ρ _=>cuts.length - natOf (ρ 10),⟨0,Nat.zero_le _,by simp only [go_sem],by simp only [go_sem],by simp only [go_sem],by simp only [go_sem],(by simp only [go_sem]; rfl),by simp⟩,?_⟩
  rintro ρ H ⟨k,hk,e1,e2,e3,e4,e10,hz⟩
  simp only [go_sem,e1,e2,e3,e4,e10]
  refine acond_i (fun hlt=>?_) (fun hge=>?_)
  · have hlt:=ltB (by simpa using hlt)
    obtain ⟨q,hqq⟩:=getIn hlt
    have b1:=inB hlt
    have hm:(cuts.map (rightC x d))[k]?=some (rightC x d q):=by rw [List.getElem?_map,hqq]; rfl
    have hqs:=hq q (List.mem_of_getElem? hqq)
    simp only [go_sem,e1,e2,e3,e4,e10]
    refine adraw_m [(0,true),(1,true),(2,true),(3,true),(4,true),(5,false),(6,false)] (by kernel_rfl) ?_
    simp only [go_sem,e1,e2,e3,e4,e10,getD_map hqq,b1]
    refine PC.use (right28_c x d q hlo hne (by omega)) ?_
    simp only [go_sem,e1,e2,e3,e4,e10]
    refine acond_i (fun hb=>?_) (fun hb=>?_)
    · have he:=Dec.firstErr_hit hz hm hb
      have hn:rightC x d q≠0:=by simpa using hb
      rw [he,if_pos hn,if_pos hn]
      simp only [go_sem]
      exact .refl _
    · simp only [go_sem,e1,e2,e3,e4,e10,wrapS (show k≤4611686018427387904 by omega)]
      exact ⟨⟨k + 1,hlt,rfl,take_all' (p:=fun e:Int=>e=0) hm (by simpa using hb) hz⟩,by simp only [natOf_int]; omega⟩
  have hge:=geB hk (by simpa using hge)
  subst hge
  rw [List.take_of_length_le (by rw [List.length_map]; exact Nat.le_refl _)] at hz
  rw [Dec.firstErr_none hz,if_neg (show ¬ (0:Int)≠0 by simp)]
  simp only [go_sem,e1,e2,e3,e4,e10]
  refine ⟨fun ρ H=>∃ (k:Nat),k≤cols.length∧ρ 1=.sl (cols.map encColumn)∧ρ 2=.sl (cuts.map encCut)∧ρ 3=.sl (ds.map encDecision)∧ρ 4=.rp (encInstance x) 0∧ρ 12=int k∧∀ c∈cols.take k,badC x c=false,fun ρ _=>cols.length - natOf (ρ 12),⟨0,Nat.zero_le _,by simp only [go_sem,e1,e2,e3,e4],by simp only [go_sem,e1,e2,e3,e4],by simp only [go_sem,e1,e2,e3,e4],by simp only [go_sem,e1,e2,e3,e4],(by simp only [go_sem,e1,e2,e3,e4]; rfl),by simp⟩,?_⟩
  rintro ρ H ⟨k,hk,e1,e2,e3,e4,e12,hz⟩
  simp only [go_sem,e1,e2,e3,e4,e12]
  refine acond_i (fun hlt=>?_) (fun hge=>?_)
  · have hlt:=ltB (by simpa using hlt)
    obtain ⟨c,hc⟩:=getIn hlt
    have b1:=inB hlt
    simp only [go_sem,e1,e2,e3,e4,e12]
    refine adraw_m [(0,true),(1,true),(2,true),(3,true),(4,true),(5,false),(6,false)] (by kernel_rfl) ?_
    simp only [go_sem,e1,e2,e3,e4,e12,getD_map hc,b1]
    refine PC.use (sound30_c x c h1 h2 (hs c (List.mem_of_getElem? hc))) ?_
    simp only [go_sem,e1,e2,e3,e4,e12]
    refine acond_i (fun hb=>?_) (fun hb=>?_)
    · have hb:badC x c=true:=by simpa using hb
      have ha:cols.any (badC x)=true:=List.any_eq_true.2 ⟨c,List.mem_of_getElem? hc,hb⟩
      rw [if_pos ha]
      simp only [go_sem]
      exact .refl _
    · have hb:badC x c=false:=by simpa using hb
      simp only [go_sem,e1,e2,e3,e4,e12,wrapS (show k≤4611686018427387904 by omega)]
      exact ⟨⟨k + 1,hlt,rfl,take_all' (p:=fun c=>badC x c=false) hc hb hz⟩,by simp only [natOf_int]; omega⟩
  have hge:=geB hk (by simpa using hge)
  subst hge
  rw [List.take_length] at hz
  have hany:¬ cols.any (badC x)=true:=by
    intro hc
    obtain ⟨c,hc1,hc2⟩:=List.any_eq_true.1 hc
    rw [hz c hc1] at hc2; cases hc2
  rw [if_neg hany,if_neg (show ¬ (0:Int)≠0 by simp)]
  have hin:=inside30_c x cols ds hck h1 hl h4 hdb fun c hc=>by
    have:=badC_set (hz c hc)
    have:=(hs c hc).2
    omega
  have hLl:(inM cols ds).length≤cols.length:=List.length_filter_le _ _
  have hSl:(skipsM x ds).length≤(ordI x).length:=List.length_filter_le _ _
  have hsk:=skips30_c x ds h1 h4
  generalize inM cols ds=L at *
  generalize skipsM x ds=K at *
  have w:IntKind.i64.wrap ((L.length:Int) + (K.length:Int))=((L.length + K.length:Nat):Int):=by rw [wrap_in (by omega)]; omega
  simp only [go_sem,e1,e2,e3,e4,e12]
  refine adraw_m [(0,true),(1,true),(2,true),(3,true),(4,true),(5,true),(6,true),(7,true),(10,true),(11,true),(8,false),(9,true),(12,false),(13,false),(14,false),(15,false),(16,false)] (by kernel_rfl) ?_
  simp only [go_sem,e1,e2,e3,e4,e12]
  refine ⟨_,(rows30_c x cuts ds h).q rfl,?_⟩
  simp only [go_sem,e1,e2,e3,e4,e12]
  refine ⟨_,fun _=>hin.qn,?_⟩
  simp only [go_sem,e1,e2,e3,e4,e12,List.length_map]
  refine ⟨_,fun _=>hsk.qn,?_⟩
  simp only [go_sem,e1,e2,e3,e4,e12,List.length_map,w]
  refine acond_i (fun hb=>?_) (fun hb=>?_)
  · rw [if_pos (by simp at hb; omega)]
    simp only [go_sem]
    exact .refl _
  · rw [if_neg (by simp at hb; omega)]
    simp only [go_sem]
    exact .refl _
end Go.Proofs.YtpddaldlebngaaaGreatDoor.Nu
end

section
set_option linter.unusedSimpArgs false
set_option linter.unusedVariables false
namespace Go.Proofs.YtpddaldlebngaaaGreatDoor.Nu
open Go.Aw Go.Aw.D Go.Proofs Ty Go.Nu
open Dec (chkR allowsR forbidsR decB hasN)
set_option maxRecDepth 100000
def withR (rows:List PRow) (col:List Int):List PRow:=rows.mapIdx fun i r=>addR1 r (col.getD i 0)
theorem withR_eq (rows:List PRow) (col:List Int):withR rows col=addTo rows col rows.length:=by
  refine List.ext_getElem? fun i=>?_
  unfold withR
  rw [List.getElem?_mapIdx,addTo_get]
  by_cases h:i < rows.length
  · rw [if_pos h]
  · rw [if_neg h,List.getElem?_eq_none (by omega)]; rfl
theorem withR_succ {rows:List PRow} {col:List Int} {k:Nat} {r:PRow} (h:rows[k]?=some r):withR (rows.take (k + 1)) col=withR (rows.take k) col ++ [addR1 r (col.getD k 0)]:=by
  unfold withR
  rw [take_succ h,List.mapIdx_append]
  have:=(List.getElem?_eq_some_iff.1 h).1
  rw [List.length_take,Nat.min_eq_left (by omega)]
  simp
theorem int_all:∀ l:List Int,allLen 1 (l.map encInt)
  | []=>trivial
  | _ :: r=>⟨rfl,int_all r⟩
theorem with30_c (rows : List PRow) (col : List Int) (hr : rows.length ≤ 1048576) (hc : rows.length ≤ col.length) (hcl : ∀ r ∈ rows, r.coef.length ≤ 1048576) :
    PC Tryz.prog 49 [.sl (rows.map encPRow),.sl (col.map encInt)] (.sl ((withR rows col).map encPRow)):=by
  refine PC.body (c:=Tryz.f49.body.getD .skip) (fun t=>t == 5 || t == 18 || t == 30) mixed Tryz.func49 rfl (by kernel_rfl) ?_
  unfold Tryz.f49
  simp only [Option.getD_some]
  simp only [go_sem]
  refine anew_i fun j hj0=>?_
  generalize hGj:updH _ j _=HGj
  have R:HGj j=some (rwRow []):=by rw [← hGj,updH_same]; rfl
  clear hGj hj0
  simp only [go_sem,R]
  refine ⟨fun ρ H=>∃ (k:Nat) (j:Nat),k≤rows.length∧ρ 0=.sl (rows.map encPRow)∧ρ 1=.sl (col.map encInt)∧ρ 6=int k∧ρ 5=.os j∧H j=some (rwRow (withR (rows.take k) col)),fun ρ _=>rows.length - natOf (ρ 6),⟨0,j,Nat.zero_le _,by simp only [go_sem],by simp only [go_sem],(by simp only [go_sem]; rfl),by simp only [go_sem],R⟩,?_⟩
  rintro ρ H ⟨k,j,hk,e0,e1,e6,e5,R⟩
  simp only [go_sem,e0,e1,e6,e5]
  refine acond_i (fun hlt=>?_) (fun hge=>?_)
  · have hlt:=ltB (by simpa using hlt)
    obtain ⟨r,hrr⟩:=getIn hlt
    obtain ⟨m,hm⟩:=getIn (show k < col.length by omega)
    have b1:=inB hlt
    have b2:=inB (show k < col.length by omega)
    have hs:=withR_succ (col:=col) hrr
    simp only [go_sem,e0,e1,e6,e5,getD_map hrr,b1]
    refine anew_i fun i7 hi70=>?_
    have ne_j_i7:j≠i7:=ne_new R hi70
    simp only [go_sem,e0,e1,e6,e5,R]
    refine wputE_n (updH_same _ _ _) (by simp [encPRow_len]) ?_
    generalize hGi7:updH (updH _ i7 _) i7 _=HGi7
    replace R:=(congrFun hGi7.symm j).trans ((updH_ne _ _ _ _ ne_j_i7).trans ((updH_ne _ _ _ _ ne_j_i7).trans R))
    have R7:HGi7 i7=some (⟨68,3,[encPRow r]⟩):=by rw [← hGi7,updH_same]; rfl
    clear hGi7 hi70
    simp only [go_sem,e0,e1,e6,e5,R7,R]
    have hrc:=hcl r (List.mem_of_getElem? hrr)
    refine adraw_join (fun ρ' H'=>ρ' 0=.sl (rows.map encPRow)∧ρ' 1=.sl (col.map encInt)∧ρ' 5=.os j∧ρ' 6=int k∧ρ' 7=.op i7 0 0∧H' j=some (rwRow (withR (rows.take k) col))∧∃ j',H' i7=some (⟨68,3,[[.os j',int r.kind,int r.right]]⟩:Row)∧H' j'=some (iRow (r.coef ++ [m]))) ?_ fun K hK=>?_
    rotate_left
    · refine adraw_t [] (.q 1 (.q 4 (.q 5 (.q 6 (.q 7 (.a3 0 (.a2 2 (.a2 3 (.a1 8 (.a1 9 (.a1 10 (.a1 11 .nil)))) 8 (.a1 3 (.a1 9 (.a1 10 (.a1 11 .nil))))) 8 (.a1 2 (.a1 3 (.a1 9 (.a1 10 (.a1 11 .nil)))))) 2 (.a2 0 (.a2 3 (.a1 8 (.a1 9 (.a1 10 (.a1 11 .nil)))) 8 (.a1 3 (.a1 9 (.a1 10 (.a1 11 .nil))))) 8 (.a1 0 (.a1 3 (.a1 9 (.a1 10 (.a1 11 .nil)))))) 8 (.a2 0 (.a1 2 (.a1 3 (.a1 9 (.a1 10 (.a1 11 .nil))))) 2 (.a1 0 (.a1 3 (.a1 9 (.a1 10 (.a1 11 .nil)))))))))))) (by simp) (by kernel_rfl) fun Hp Hr _ hq _ _=>?_
      replace R:=(hq j (by simp)).trans R
      replace R7:=(hq i7 (by simp)).trans R7
      simp only [go_sem,e0,e1,e6,e5,getD_map hm,b2,R7]
      repeat' (first | (refine amixt_3i ?_ ?_ ?_) | (refine amixt_2i ?_ ?_) | (refine anew_i fun i18 h18=>?_; have n18:=ne_new R7 h18; have nj:=ne_new R h18; generalize hG:updH Hr i18 _=G; have R':G j=some _:=by { rw [← hG,updH_ne _ _ _ _ nj]; exact R }; have R7':G i7=some _:=by { rw [← hG,updH_ne _ _ _ _ n18]; exact R7 }; have R18:G i18=some (iRow []):=by { rw [← hG,updH_same]; rfl }; clear hG) | (simp only [go_sem,e0,e1,e6,e5,getD_map hm,b2,R7',encPRow]) | (simp only [go_sem,e0,e1,e6,e5,getD_map hm,b2,R7,encPRow]))
      all_goals
        refine wappE_i R18 ⟨rfl,rfl⟩ (int_all _) (by simp only [List.length_map,List.length_cons,List.length_nil]; omega) (fun i21 h21=>?_)
        have R2:=keep_app (r':=(⟨3,1,(iRow []).es ++ r.coef.map encInt⟩:Row)) R' nj.symm h21
        have R72:=keep_app (r':=(⟨3,1,(iRow []).es ++ r.coef.map encInt⟩:Row)) R7' n18.symm h21
        have n21:=ne_new (j:=i21) R7' h21
        have nj2:=ne_new (j:=i21) R' h21
        generalize hG:updH (updH G i18 none) i21 _=G2
        rw [hG] at R2 R72
        have R21:G2 i21=some (iRow r.coef):=by rw [← hG,updH_same]; rfl
        clear hG
        simp only [go_sem,e0,e1,e6,e5,getD_map hm,b2]
        refine wappE_i R21 ⟨rfl,rfl⟩ ⟨rfl,trivial⟩ (by simp only [List.length_map,List.length_cons,List.length_nil]; omega) (fun i27 h27=>?_)
        have R3:=keep_app (r':=(⟨3,1,(iRow r.coef).es ++ [encInt m]⟩:Row)) R2 nj2.symm h27
        have R73:=keep_app (r':=(⟨3,1,(iRow r.coef).es ++ [encInt m]⟩:Row)) R72 n21.symm h27
        have n27:=ne_new (j:=i27) R72 h27
        simp only [go_sem,e0,e1,e6,e5]
        refine wputE_1 so41 R73 ⟨by simp,rfl,by simp⟩ ?_
        refine pinEnd_i fun _ Hm _ hm2=>hK _ _ ⟨by simp only [go_sem,e0,e1,e6,e5],by simp only [go_sem,e0,e1,e6,e5],by simp only [go_sem,e0,e1,e6,e5],by simp only [go_sem,e0,e1,e6,e5],by simp only [go_sem],(hm2 j (by simp)).trans ((updH_ne _ _ _ _ ne_j_i7).trans R3),i27,(hm2 i7 (by simp)).trans (updH_same _ _ _),(hm2 i27 (by simp)).trans ((updH_ne _ _ _ _ n27.symm).trans ((updH_same _ _ _).trans ?_))⟩
        exact congrArg (fun l=>some (⟨3,1,l⟩:Row)) (List.map_append (f:=encInt) (l₁:=r.coef) (l₂:=[m])).symm
    rintro ρ H ⟨e0,e1,e5,e6,e7,R,j',R7,R'⟩
    have njj:j≠j':=row_ne' R R' rfl
    simp only [go_sem,e0,e1,e5,e6,e7,R7]
    refine athaw_i [j'] (encPRow (addR1 r m)) ⟨.inr ⟨j',_,by simp,rfl,R',rfl⟩,.inl rfl,.inl rfl,trivial⟩ fun Hq _ hq1=>?_
    replace R:=(hq1 j (by simpa using njj)).trans R
    have hwl:(withR (rows.take k) col).length=k:=by unfold withR; rw [List.length_mapIdx,List.length_take]; omega
    simp only [go_sem,e0,e1,e5,e6,e7]
    refine wappE_i R ⟨rfl,rfl⟩ ⟨encPRow_len _,trivial⟩ (by simp only [List.length_map,List.length_cons,List.length_nil]; omega) (fun j2 hj2=>?_)
    simp only [go_sem,e0,e1,e5,e6,e7,wrapS (show k≤4611686018427387904 by omega)]
    refine ⟨⟨k + 1,j2,hlt,rfl,rfl,?_⟩,by simp only [natOf_int]; omega⟩
    rw [hs,List.getD,hm]
    exact row_appG rfl
  have hge:=geB hk (by simpa using hge)
  subst hge
  rw [List.take_length] at R
  simp only [go_sem,e0,e1,e6,e5]
  exact .row _ _ _ R (ConvE.refl _)
end Go.Proofs.YtpddaldlebngaaaGreatDoor.Nu
end

section
set_option linter.unusedSimpArgs false
set_option linter.unusedVariables false
namespace Go.Proofs.YtpddaldlebngaaaGreatDoor.Nu
open Go.Aw Go.Aw.D Go.Proofs Ty Go.Nu
open Dec (chkR allowsR forbidsR decB hasN)
set_option maxRecDepth 100000
abbrev spRow (jc:Nat) (rows:List PRow):Row:=⟨62,2,[[.os jc,.sl (rows.map encPRow)]]⟩
structure SpS (H:Heap) (i8 i11 jc:Nat) (cost:List Int) (rows:List PRow):Prop where
  r8:H i8=some zLin
  p:H i11=some (spRow jc rows)
  c:H jc=some (iRow cost)
  ne:i8≠i11
theorem SpS.mono {H H':Heap} {i8 i11 jc:Nat} {cost:List Int} {rows:List PRow} (h:SpS H i8 i11 jc cost rows) (hm:∀ k row,H k=some row→H' k=some row):SpS H' i8 i11 jc cost rows:=
  ⟨hm _ _ h.r8,hm _ _ h.p,hm _ _ h.c,h.ne⟩
theorem SpS.app {H : Heap} {i8 i11 jc : Nat} {cost : List Int} {rows : List PRow} (h : SpS H i8 i11 jc cost rows) {j' : Nat} (hj : H j' = none) (n : Int) :
    SpS (updH (updH (updH H jc none) j' (some ⟨3,1,cost.map encInt ++ [[int n]]⟩)) i11 (some (spRow j' rows))) i8 i11 j' (cost ++ [n]) rows:=by
  have n1:i8≠jc:=row_ne' h.r8 h.c rfl
  have n2:i11≠jc:=row_ne' h.p h.c rfl
  have m1:i8≠j':=ne_new h.r8 hj
  have m2:i11≠j':=ne_new h.p hj
  refine ⟨?_,updH_same _ _ _,?_,h.ne⟩
  · rw [updH_ne _ _ _ _ h.ne,updH_ne _ _ _ _ m1,updH_ne _ _ _ _ n1]; exact h.r8
  · rw [updH_ne _ _ _ _ m2.symm,updH_same]
    exact congrArg (fun l=>some (⟨3,1,l⟩:Row)) (List.map_append (f:=encInt) (l₁:=cost) (l₂:=[n])).symm
theorem SpS.put {H:Heap} {i8 i11 jc:Nat} {cost:List Int} {rows:List PRow} (h:SpS H i8 i11 jc cost rows) (rows':List PRow):SpS (updH H i11 (some (spRow jc rows'))) i8 i11 jc cost rows':=
  ⟨by rw [updH_ne _ _ _ _ h.ne]; exact h.r8,updH_same _ _ _,by rw [updH_ne _ _ _ _ (row_ne' h.p h.c rfl).symm]; exact h.c,h.ne⟩
theorem check30M_eq (x : Instance) (d : Nat) (cols : List Column) (cuts : List Cut) (ds : List Decision) : buildM x d cols cuts ds = if check30M x d cols cuts ds ≠ 0 then (⟨[], []⟩, check30M x d cols cuts ds) else
    (⟨(bldB x (rowsN x cuts ds) (bldA x cuts ds (inM cols ds)) (skipsM x ds)).1,(bldB x (rowsN x cuts ds) (bldA x cuts ds (inM cols ds)) (skipsM x ds)).2⟩,0):=by
  unfold buildM check30M
  by_cases h1:wrongM x d cols cuts ds≠0
  · rw [if_pos h1,if_pos h1,if_pos h1]
  · rw [if_neg h1,if_neg h1]
    by_cases h2:rowsN x cuts ds > 64∨(inM cols ds).length + (skipsM x ds).length > 8192
    · rw [if_pos h2,if_pos h2,if_pos (by decide)]
    · rw [if_neg h2,if_neg h2,if_neg (by decide)]
theorem check30_zero {x:Instance} {d:Nat} {cols:List Column} {cuts:List Cut} {ds:List Decision} (h:check30M x d cols cuts ds=0):wrongM x d cols cuts ds=0∧rowsN x cuts ds≤64∧(inM cols ds).length + (skipsM x ds).length≤8192:=by
  unfold check30M at h
  split at h
  · next h1=>exact absurd h h1
  next h1=>
  split at h
  · cases h
  next h2=>exact ⟨by simpa using h1,by omega,by omega⟩
theorem addCols_with {p:List Int × List PRow} {cost:Int} {col:List Int} (h:col.length=p.2.length):withR p.2 col=(addCols p cost col).2:=by
  rw [withR_eq]; unfold addCols; rw [h]
theorem build30_c (x : Instance) (d : Nat) (cols : List Column) (cuts : List Cut) (ds : List Decision) (hlo : LoadsOk x d) (hne : x.types ≠ []) (h : MIn x cuts ds) (hl : cols.length ≤ 1048576) (hs : ∀ c ∈ cols, i64I c.set) (hq : ∀ q ∈ cuts, q.set ≤ 9223372036854775807) (hdb : ∀ d ∈ ds, decB d) :
    PC Tryz.prog 19 [.agg (encInstance x),.sl (cols.map encColumn),.sl (cuts.map encCut),.sl (ds.map encDecision)] (.tup [.agg (encPLin (buildM x d cols cuts ds).1),int (buildM x d cols cuts ds).2]):=by
  have h1:=h.orders
  have h2:=h.types
  have h3:=h.cl
  have h4:=h.dl
  have hol:=ordI_len x
  refine PC.body (c:=Tryz.f19.body.getD .skip) (fun t=>t == 33) mixed Tryz.func19 rfl (by kernel_rfl) ?_
  unfold Tryz.f19
  simp only [Option.getD_some]
  simp only [go_sem]
  refine anew_i fun i8 h8=>?_
  have R8:=updH_same noRows i8 (some zLin)
  generalize updH noRows i8 _=HGi8 at R8 ⊢
  clear h8
  simp only [go_sem]
  refine PC.use (check30_c x d cols cuts ds hlo hne h hl hs hq hdb) ?_
  rw [check30M_eq]
  simp only [go_sem]
  refine acond_i (fun hb=>?_) (fun hb=>?_)
  · rw [if_pos (by simpa using hb)]
    simp only [go_sem]
    refine wputE_n R8 (by simp) ?_
    simp only [go_sem]
    exact .refl _
  rw [if_neg (by simpa using hb)]
  obtain ⟨hw0,hz1,hz2⟩:=check30_zero (show check30M x d cols cuts ds=0 by simpa using hb)
  obtain ⟨hck,hw2,hw3⟩:=wrong_zero hw0
  have hcb:CutsB cuts:=⟨fun q hqm=>⟨rightC_set (hw2 q hqm),hq q hqm⟩⟩
  have hsb:∀ c∈cols,0≤c.set∧c.set≤9223372036854775807:=fun c hc=>⟨by have:=badC_set (hw3 c hc); omega,(hs c hc).2⟩
  have hno:(ordI x).length≤rowsN x cuts ds:=by unfold rowsN; omega
  simp only [go_sem]
  refine PC.use (bare30_c x cuts ds h) ?_
  simp only [go_sem]
  refine anew_i fun ia ha=>?_
  refine anew_i fun ib hb2=>?_
  refine anew_i fun i11 h11=>?_
  simp only [go_sem]
  refine wputE_n (updH_same _ _ _) (by simp) ?_
  have S:SpS (updH (updH (updH (updH HGi8 ia (some (⟨3,1,[]⟩:Row))) ib (some ⟨68,3,[]⟩)) i11 (some zLin)) i11 (some (spRow ia (rowsM x cuts ds)))) i8 i11 ia [] (rowsM x cuts ds):=by
    have m1:=mono_new ha (some (⟨3,1,[]⟩:Row))
    have m2:=mono_new hb2 (some (⟨68,3,[]⟩:Row))
    have m3:=mono_new2 h11 (some zLin) (some (spRow ia (rowsM x cuts ds)))
    refine ⟨m3 _ _ (m2 _ _ (m1 _ _ R8)),updH_same _ _ _,m3 _ _ (m2 _ _ (updH_same _ _ _)),fun e=>?_⟩
    have:=m2 _ _ (m1 _ _ R8)
    rw [e,h11] at this; cases this
  generalize hG:updH (updH (updH (updH HGi8 ia _) ib _) i11 _) i11 _=G
  replace S:SpS G i8 i11 ia [] (rowsM x cuts ds):=by rw [← hG]; exact S
  clear hG h11 hb2 ha R8
  simp only [go_sem]
  refine PC.use (inside30_c x cols ds hck h1 hl h4 hdb hsb) ?_
  simp only [go_sem]
  have hLl:(inM cols ds).length≤cols.length:=List.length_filter_le _ _
  have hSl:(skipsM x ds).length≤(ordI x).length:=List.length_filter_le _ _
  have hLm:∀ c∈inM cols ds,c∈cols:=fun c hc=>(List.mem_filter.1 hc).1
  have hskip:=skips30_c x ds h1 h4
  generalize inM cols ds=L at *
  generalize skipsM x ds=K at *
  refine ⟨fun ρ H=>∃ (k:Nat) (jc:Nat),k≤L.length∧ρ 2=.sl (cuts.map encCut)∧ρ 3=.sl (ds.map encDecision)∧ρ 4=.rp (encInstance x) 0∧ρ 8=.op i8 0 0∧ρ 11=.op i11 0 0∧ρ 12=.sl (L.map encColumn)∧ρ 13=int k∧SpS H i8 i11 jc (bldA x cuts ds (L.take k)).1 (bldA x cuts ds (L.take k)).2,fun ρ _=>L.length - natOf (ρ 13),⟨0,ia,Nat.zero_le _,by simp only [go_sem],by simp only [go_sem],by simp only [go_sem],by simp only [go_sem],by simp only [go_sem],by simp only [go_sem],(by simp only [go_sem]; rfl),S⟩,?_⟩
  rintro ρ H ⟨k,jc,hk,e2,e3,e4,e8,e11,e12,e13,S⟩
  simp only [go_sem,e2,e3,e4,e8,e11,e12,e13]
  refine acond_i (fun hlt=>?_) (fun hge=>?_)
  · have hlt:=ltB (by simpa using hlt)
    obtain ⟨c,hc⟩:=getIn hlt
    have b1:=inB hlt
    have hcm:=hLm c (List.mem_of_getElem? hc)
    have hz:=bldA_sz x cuts ds L k (by omega)
    have hsu:=bldA_succ (x:=x) (cuts:=cuts) (ds:=ds) hc
    generalize bldA x cuts ds (L.take k)=p at *
    have hcl:=coefsM_len x c cuts ds
    have hco:=coefs30_c x c cuts ds h ⟨(hsb c hcm).1,(hsb c hcm).2⟩ hcb
    generalize coefsM x c cuts ds=C at *
    have hw:=addCols_with (p:=p) (cost:=c.price) (show C.length=p.2.length by rw [hcl,hz.2.1])
    simp only [go_sem,e2,e3,e4,e8,e11,e12,e13]
    refine adraw_join (fun ρ' H'=>ρ' 2=.sl (cuts.map encCut)∧ρ' 3=.sl (ds.map encDecision)∧ρ' 4=.rp (encInstance x) 0∧ρ' 8=.op i8 0 0∧ρ' 11=.op i11 0 0∧ρ' 12=.sl (L.map encColumn)∧ρ' 13=int k∧∃ jc',SpS H' i8 i11 jc' (p.1 ++ [c.price]) p.2) ?_ fun K hK=>?_
    rotate_left
    · refine adraw_t [] (.q 0 (.q 2 (.q 3 (.q 4 (.q 5 (.q 6 (.a2 1 (.a1 7 (.a1 8 (.a1 9 (.a1 10 .nil)))) 7 (.a1 1 (.a1 8 (.a1 9 (.a1 10 .nil))))))))))) (by simp) (by kernel_rfl) fun Hp Hr _ hq _ _=>?_
      replace S:=S.mono fun q row h=>(hq q (by simp)).trans h
      simp only [go_sem,e2,e3,e4,e8,e11,e12,e13,getD_map hc,b1,S.p]
      repeat' (first | (refine amixt_2i ?_ ?_) | (simp only [go_sem,e2,e3,e4,e8,e11,e12,e13,getD_map hc,b1,S.p]))
      all_goals
        refine wappE_i S.c ⟨rfl,rfl⟩ ⟨rfl,trivial⟩ (by simp only [List.length_map,List.length_cons,List.length_nil]; rw [hz.1]; omega) (fun j' hj'=>?_)
        have S2:=S.app hj' c.price
        have P2:=keep_app (r':=(⟨3,1,p.1.map encInt ++ [[int c.price]]⟩:Row)) S.p (row_ne' S.p S.c rfl).symm hj'
        simp only [go_sem,e2,e3,e4,e8,e11,e12,e13]
        refine wputE_1 so41 P2 ⟨by simp,rfl,by simp⟩ ?_
        exact pinEnd_i fun _ Hm _ hm2=>hK _ _ ⟨by simp only [go_sem,e2,e3,e4,e8,e11,e12,e13],by simp only [go_sem,e2,e3,e4,e8,e11,e12,e13],by simp only [go_sem,e2,e3,e4,e8,e11,e12,e13],by simp only [go_sem,e2,e3,e4,e8,e11,e12,e13],by simp only [go_sem,e2,e3,e4,e8,e11,e12,e13],by simp only [go_sem,e2,e3,e4,e8,e11,e12,e13],by simp only [go_sem,e2,e3,e4,e8,e11,e12,e13],j',S2.mono fun q row h=>(hm2 q (by simp)).trans h⟩
    clear S e2 e3 e4 e8 e11 e12 e13
    rintro ρ H ⟨e2,e3,e4,e8,e11,e12,e13,jc',S⟩
    simp only [go_sem,e2,e3,e4,e8,e11,e12,e13]
    refine adraw_t [] (.q 0 (.q 2 (.q 3 (.q 4 (.q 5 (.q 6 (.q 7 (.q 8 (.a2 1 (.a1 9 (.a1 10 (.a1 11 (.a1 12 .nil)))) 9 (.a1 1 (.a1 10 (.a1 11 (.a1 12 .nil))))))))))))) (by simp) (by kernel_rfl) fun Hp Hr _ hq _ _=>?_
    replace S:=S.mono fun q row h=>(hq q (by simp)).trans h
    simp only [go_sem,e2,e3,e4,e8,e11,e12,e13,getD_map hc,b1,S.p]
    repeat' (first | (refine amixt_2i ?_ ?_) | (refine PC.use hco ?_) | (refine PC.use (with30_c p.2 C (by rw [hz.2.1]; omega) (by rw [hcl,hz.2.1]; exact Nat.le_refl _) (fun r hr=>by rw [hz.2.2 r hr]; omega)) ?_) | (simp only [go_sem,e2,e3,e4,e8,e11,e12,e13,getD_map hc,b1,S.p]))
    all_goals
      refine wputE_1 so60 S.p ⟨by simp,rfl,by simp⟩ ?_
      have S2:=S.put (withR p.2 C)
      refine pinEnd_i fun _ Hm _ hm2=>?_
      replace S2:=S2.mono fun q row h=>(hm2 q (by simp)).trans h
      simp only [go_sem,e2,e3,e4,e8,e11,e12,e13,wrapS (show k≤4611686018427387904 by omega)]
      refine ⟨⟨k + 1,jc',hlt,rfl,?_⟩,by simp only [natOf_int]; omega⟩
      rw [hsu,← hw]
      exact S2
  have hge:=geB hk (by simpa using hge)
  subst hge
  rw [List.take_length] at S
  have hz:=bldA_sz x cuts ds L L.length (Nat.le_refl _)
  rw [List.take_length] at hz
  simp only [go_sem,e2,e3,e4,e8,e11,e12,e13]
  refine PC.use hskip ?_
  simp only [go_sem,e2,e3,e4,e8,e11,e12,e13]
  generalize bldA x cuts ds L=s1 at *
  refine ⟨fun ρ H=>∃ (k:Nat) (jc:Nat),k≤K.length∧ρ 4=.rp (encInstance x) 0∧ρ 8=.op i8 0 0∧ρ 11=.op i11 0 0∧ρ 14=.sl (K.map encInt)∧ρ 15=int k∧SpS H i8 i11 jc (bldB x (rowsN x cuts ds) s1 (K.take k)).1 (bldB x (rowsN x cuts ds) s1 (K.take k)).2,fun ρ _=>K.length - natOf (ρ 15),⟨0,jc,Nat.zero_le _,by simp only [go_sem,e4,e8,e11],by simp only [go_sem,e4,e8,e11],by simp only [go_sem,e4,e8,e11],by simp only [go_sem,e4,e8,e11],(by simp only [go_sem,e4,e8,e11]; rfl),S⟩,?_⟩
  rintro ρ H ⟨k,jc,hk,e4,e8,e11,e14,e15,S⟩
  simp only [go_sem,e4,e8,e11,e14,e15]
  refine acond_i (fun hlt=>?_) (fun hge=>?_)
  · have hlt:=ltB (by simpa using hlt)
    obtain ⟨o,ho⟩:=getIn hlt
    have b1:=inB hlt
    have hz2:=bldB_sz x hno hz K k (by omega)
    have hsu:=bldB_succ (x:=x) (n:=rowsN x cuts ds) (s0:=s1) ho
    generalize bldB x (rowsN x cuts ds) s1 (K.take k)=p at *
    have hcl:=skipCol_len x o hno
    have hsk:=skip30_c x o (rowsN x cuts ds) h1 hno (by omega)
    generalize skipCol x o (rowsN x cuts ds)=C at *
    generalize rowsN x cuts ds=N at *
    have hw:=addCols_with (p:=p) (cost:=weightM x o) (show C.length=p.2.length by rw [hcl,hz2.2.1])
    have hwm:weightM x o=(weightP (unserved20 x o).1).1:=rfl
    have hun:=unserved20_c x o
    have hwe:=weight20_c (unserved20 x o).1
    rw [← hwm] at hwe
    generalize weightM x o=W at *
    generalize unserved20 x o=U at *
    simp only [go_sem,e4,e8,e11,e14,e15]
    refine adraw_m [(0,true),(1,true),(2,true),(3,true),(4,true),(5,true),(6,true),(7,true),(8,true),(9,false),(10,false),(11,false)] (by kernel_rfl) ?_
    simp only [go_sem,e4,e8,e11,e14,e15,getD_map ho,b1]
    refine ⟨_,hun.q rfl,?_⟩
    simp only [go_sem,e4,e8,e11,e14,e15]
    refine anew_i fun i16 h16=>?_
    simp only [go_sem,e4,e8,e11,e14,e15]
    refine wputE_n (updH_same _ _ _) (by simp [encScore_len]) ?_
    replace S:=S.mono (mono_new2 h16 (some (⟨95,4,[[int 0,int 0,int 0,int 0]]⟩:Row)) (some (⟨95,4,[encScore U.1]⟩:Row)))
    generalize hG:updH (updH H i16 _) i16 _=HG
    replace S:SpS HG i8 i11 jc p.1 p.2:=by rw [← hG]; exact S
    have R16:HG i16=some (⟨95,4,[encScore U.1]⟩:Row):=by rw [← hG,updH_same]; rfl
    clear hG h16
    simp only [go_sem,e4,e8,e11,e14,e15,R16]
    refine PC.use hwe ?_
    simp only [go_sem,e4,e8,e11,e14,e15,S.p]
    refine wappE_i S.c ⟨rfl,rfl⟩ ⟨rfl,trivial⟩ (by simp only [List.length_map,List.length_cons,List.length_nil]; rw [hz2.1]; omega) (fun j' hj'=>?_)
    have S2:=S.app hj' W
    have P2:=keep_app (r':=(⟨3,1,p.1.map encInt ++ [[int W]]⟩:Row)) S.p (row_ne' S.p S.c rfl).symm hj'
    simp only [go_sem,e4,e8,e11,e14,e15]
    refine wputE_1 so41 P2 ⟨by simp,rfl,by simp⟩ ?_
    replace S2:SpS _ i8 i11 j' (p.1 ++ [W]) p.2:=S2
    generalize hG:updH _ i11 _=HG2
    replace S2:SpS HG2 i8 i11 j' (p.1 ++ [W]) p.2:=by rw [← hG]; exact S2
    clear hG P2 S R16
    simp only [go_sem,e4,e8,e11,e14,e15]
    refine adraw_t [] (.q 0 (.q 2 (.q 3 (.q 4 (.q 5 (.q 6 (.q 7 (.a2 1 (.a1 8 (.q 9 (.a1 10 (.a1 11 (.a1 12 (.a1 13 .nil)))))) 8 (.q 9 (.a2 1 (.a1 10 (.a1 11 (.a1 12 (.a1 13 .nil)))) 10 (.a1 1 (.a1 11 (.a1 12 (.a1 13 .nil)))))))))))))) (by simp) (by kernel_rfl) fun Hp Hr _ hq _ _=>?_
    replace S2:=S2.mono fun q row h=>(hq q (by simp)).trans h
    have hpl:p.2.length=N:=hz2.2.1
    simp only [go_sem,e4,e8,e11,e14,e15,getD_map ho,b1,S2.p,List.length_map,hpl]
    repeat' (first | (refine amixt_2i ?_ ?_) | (refine PC.use hsk ?_) | (refine PC.use (with30_c p.2 C (by omega) (by omega) (fun r hr=>by rw [hz2.2.2 r hr]; omega)) ?_) | (simp only [go_sem,e4,e8,e11,e14,e15,getD_map ho,b1,S2.p,List.length_map,hpl]))
    all_goals
      refine wputE_1 so60 S2.p ⟨by simp,rfl,by simp⟩ ?_
      have S3:=S2.put (withR p.2 C)
      refine pinEnd_i fun _ Hm _ hm2=>?_
      replace S3:=S3.mono fun q row h=>(hm2 q (by simp)).trans h
      simp only [go_sem,e4,e8,e11,e14,e15,wrapS (show k≤4611686018427387904 by omega)]
      refine ⟨⟨k + 1,j',hlt,rfl,?_⟩,by simp only [natOf_int]; omega⟩
      rw [hsu,← hw]
      exact S3
  have hge:=geB hk (by simpa using hge)
  subst hge
  rw [List.take_length] at S
  generalize bldB x (rowsN x cuts ds) s1 K=s2 at *
  simp only [go_sem,e4,e8,e11,S.p]
  refine wputE_n S.r8 (by simp) ?_
  have hjc:jc≠i8:=row_ne' S.c S.r8 rfl
  simp only [go_sem,e4,e8,e11]
  refine .tup _ _ (.cons _ _ _ _ (.agg _ _ (.cons _ _ _ _ (.row _ _ _ (by rw [updH_ne _ _ _ _ hjc]; exact S.c) (ConvE.refl _)) (.cons _ _ _ _ (.refl _) .nil))) (.cons _ _ _ _ (.refl _) .nil))
end Go.Proofs.YtpddaldlebngaaaGreatDoor.Nu
end
