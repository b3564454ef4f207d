/- Texts joined by a program: MaI, MaJ. -/
import Derived.Test.YtpddaldlebngaaaGreatDoorZp33
import Derived.Test.YtpddaldlebngaaaGreatDoorZp34

section
set_option linter.unusedSimpArgs false
set_option linter.unusedVariables false
namespace Go.Proofs.YtpddaldlebngaaaGreatDoor.Nu
open Go.Aw Go.Aw.D Go.Proofs Ty Go.Nu
open Dec (chkR knownR allowsR forbidsR decB hasN)
set_option maxRecDepth 100000
abbrev zLin:Row:=⟨62,2,[[.sl [],.sl []]]⟩
structure BldS (H:Heap) (i8 i11 jc jr:Nat) (f:Nat→Nat) (cost:List Int) (rows:List PRow):Prop where
  r8:H i8=some zLin
  p:H i11=some (pRow jc jr)
  c:H jc=some (iRow cost)
  lin:LinH H jr f rows
  fc:∀ i,i < rows.length→f i≠jc
  ne:i8≠i11
theorem LinH.mono {H H':Heap} {jr:Nat} {f:Nat→Nat} {rows:List PRow} (h:LinH H jr f rows) (hm:∀ k row,H k=some row→H' k=some row):LinH H' jr f rows:=
  ⟨hm _ _ h.row,fun i r hr=>hm _ _ (h.coef i r hr),h.inj⟩
theorem BldS.mono {H H':Heap} {i8 i11 jc jr:Nat} {f:Nat→Nat} {cost:List Int} {rows:List PRow} (h:BldS H i8 i11 jc jr f cost rows) (hm:∀ k row,H k=some row→H' k=some row):BldS H' i8 i11 jc jr f cost rows:=
  ⟨hm _ _ h.r8,hm _ _ h.p,hm _ _ h.c,h.lin.mono hm,h.fc,h.ne⟩
theorem mono_new {H:Heap} {i:Nat} (hi:H i=none) (a:Option Row):∀ k row,H k=some row→updH H i a k=some row:=fun k row hk=>by
  rw [updH_ne _ _ _ _ (fun e=>by subst e; rw [hi] at hk; cases hk)]; exact hk
theorem mono_new2 {H:Heap} {i:Nat} (hi:H i=none) (a b:Option Row):∀ k row,H k=some row→updH (updH H i a) i b k=some row:=fun k row hk=>by
  rw [updH_ne _ _ _ _ (fun e=>by subst e; rw [hi] at hk; cases hk)]; exact mono_new hi a k row hk
theorem BldS.add {H Hn : Heap} {i8 i11 jc jr : Nat} {f : Nat → Nat} {cost : List Int} {rows : List PRow} (h : BldS H i8 i11 jc jr f cost rows) {jc' : Nat} {f' : Nat → Nat} {cost' : List Int} {rows' : List PRow} {k : Nat}
    (S:AddS H Hn i11 jc jr f rows.length jc' f' cost' rows' k):BldS Hn i8 i11 jc' jr f' cost' rows':=by
  refine ⟨S.keep i8 _ h.ne (fun e=>?_) (fun e=>?_) (fun i hi e=>?_) h.r8,S.p,S.c,S.lin,S.fc,h.ne⟩
  · have h1:=h.r8
    rw [e,h.c] at h1
    have h2:(iRow cost).e=zLin.e:=congrArg Row.e (Option.some.inj h1)
    exact absurd (show (3:Nat)=62 from h2) (by decide)
  · have h1:=h.r8
    rw [e,h.lin.row] at h1
    have h2:(linRow f rows).e=zLin.e:=congrArg Row.e (Option.some.inj h1)
    exact absurd (show (68:Nat)=62 from h2) (by decide)
  · have h1:=h.r8
    obtain ⟨r,hr⟩:=getIn hi
    rw [e,h.lin.coef i r hr] at h1
    have h2:(iRow r.coef).e=zLin.e:=congrArg Row.e (Option.some.inj h1)
    exact absurd (show (3:Nat)=62 from h2) (by decide)
def addCols (p:List Int × List PRow) (cost:Int) (col:List Int):List Int × List PRow:=(p.1 ++ [cost],addTo p.2 col col.length)
def skipTo (x:Instance) (o:Int) (n k:Nat):List Int:=((ordI x).take k).map (fun i=>bitI (i == o)) ++ List.replicate (n - k) 0
def skipCol (x:Instance) (o:Int) (n:Nat):List Int:=(ordI x).map (fun i=>bitI (i == o)) ++ List.replicate (n - (ordI x).length) 0
def weightM (x:Instance) (o:Int):Int:=(weightP (unserved20 x o).1).1
def bldA (x:Instance) (cuts:List Cut) (ds:List Decision) (l:List Column):List Int × List PRow:=l.foldl (fun s c=>addCols s c.price (coefsM x c cuts ds)) ([],rowsM x cuts ds)
def bldB (x:Instance) (n:Nat) (s0:List Int × List PRow) (l:List Int):List Int × List PRow:=l.foldl (fun s o=>addCols s (weightM x o) (skipCol x o n)) s0
def buildM (x:Instance) (d:Nat) (cols:List Column) (cuts:List Cut) (ds:List Decision):PLin × Int:=
  if wrongM x d cols cuts ds≠0 then (⟨[],[]⟩,wrongM x d cols cuts ds)
  else if rowsN x cuts ds > 64∨(inM cols ds).length + (skipsM x ds).length > 8192 then (⟨[],[]⟩,4)
  else (⟨(bldB x (rowsN x cuts ds) (bldA x cuts ds (inM cols ds)) (skipsM x ds)).1,(bldB x (rowsN x cuts ds) (bldA x cuts ds (inM cols ds)) (skipsM x ds)).2⟩,0)
theorem addCols_len (p:List Int × List PRow) (cost:Int) (col:List Int):(addCols p cost col).2.length=p.2.length∧(addCols p cost col).1.length=p.1.length + 1:=by
  unfold addCols
  exact ⟨addTo_len _ _ _,by simp⟩
def Sz (p:List Int × List PRow) (n k:Nat):Prop:=p.1.length=k∧p.2.length=n∧∀ r∈p.2,r.coef.length=k
theorem Sz.add {p:List Int × List PRow} {n k:Nat} (h:Sz p n k) (cost:Int) {col:List Int} (hc:col.length=n):Sz (addCols p cost col) n (k + 1):=by
  obtain ⟨h1,h2,h3⟩:=h
  refine ⟨by rw [(addCols_len p cost col).2,h1],by rw [(addCols_len p cost col).1,h2],fun r hr=>?_⟩
  obtain ⟨i,hi,rfl⟩:=List.getElem_of_mem hr
  have hg:=List.getElem?_eq_getElem hi
  unfold addCols at hg hi
  rw [addTo_get] at hg
  rw [addTo_len] at hi
  rw [if_pos (by omega),List.getElem?_eq_getElem (by omega)] at hg
  have:(addCols p cost col).2[i]=addR1 (p.2[i]'(by omega)) (col.getD i 0):=(Option.some.inj hg).symm
  rw [this]
  unfold addR1
  rw [List.length_append,h3 _ (List.getElem_mem _)]; rfl
theorem rowsM_sz (x:Instance) (cuts:List Cut) (ds:List Decision):Sz ([],rowsM x cuts ds) (rowsN x cuts ds) 0:=by
  refine ⟨rfl,rowsM_len x cuts ds,fun r hr=>?_⟩
  unfold rowsM rowsO rowsT rowsC rowsD at hr
  simp only [List.mem_append,List.mem_map,List.mem_filterMap] at hr
  rcases hr with ((h | ⟨t,_,rfl⟩) | ⟨t,_,rfl⟩) | ⟨t,_,h⟩
  · rw [List.eq_of_mem_replicate h]; rfl
  · rfl
  · rfl
  · unfold rowD at h
    split at h
    · cases h; rfl
    · split at h
      · cases h; rfl
      · cases h
theorem bldA_succ {x:Instance} {cuts:List Cut} {ds:List Decision} {l:List Column} {k:Nat} {c:Column} (h:l[k]?=some c):bldA x cuts ds (l.take (k + 1))=addCols (bldA x cuts ds (l.take k)) c.price (coefsM x c cuts ds):=by
  unfold bldA; rw [take_succ h,List.foldl_append]; rfl
theorem bldB_succ {x:Instance} {n:Nat} {s0:List Int × List PRow} {l:List Int} {k:Nat} {o:Int} (h:l[k]?=some o):bldB x n s0 (l.take (k + 1))=addCols (bldB x n s0 (l.take k)) (weightM x o) (skipCol x o n):=by
  unfold bldB; rw [take_succ h,List.foldl_append]; rfl
theorem bldA_sz (x:Instance) (cuts:List Cut) (ds:List Decision) (l:List Column):∀ k,k≤l.length→Sz (bldA x cuts ds (l.take k)) (rowsN x cuts ds) k
  | 0,_=>rowsM_sz x cuts ds
  | k + 1,hk=>by
    obtain ⟨c,hc⟩:=getIn (show k < l.length by omega)
    rw [bldA_succ hc]
    exact (bldA_sz x cuts ds l k (by omega)).add _ (coefsM_len x c cuts ds)
theorem skipCol_len (x:Instance) (o:Int) {n:Nat} (h:(ordI x).length≤n):(skipCol x o n).length=n:=by
  unfold skipCol
  rw [List.length_append,List.length_map,List.length_replicate]; omega
theorem bldB_sz (x:Instance) {n m:Nat} {s0:List Int × List PRow} (hn:(ordI x).length≤n) (h0:Sz s0 n m) (l:List Int):∀ k,k≤l.length→Sz (bldB x n s0 (l.take k)) n (m + k)
  | 0,_=>h0
  | k + 1,hk=>by
    obtain ⟨c,hc⟩:=getIn (show k < l.length by omega)
    rw [bldB_succ hc]
    exact (bldB_sz x hn h0 l k (by omega)).add _ (skipCol_len x c hn)
theorem conv_rows {H:Heap} (f:Nat→Nat) (rows:List PRow) (h:∀ (i:Nat) (r:PRow),rows[i]?=some r→H (f i)=some (iRow r.coef)):ConvE H (rows.mapIdx (cellF f)) (rows.map encPRow):=by
  induction rows generalizing f with
  | nil=>exact .nil
  | cons r l ih=>
    rw [List.mapIdx_cons,List.map_cons]
    refine .cons _ _ _ _ (.cons _ _ _ _ (.row _ _ _ (h 0 r rfl) (ConvE.refl _)) (ConvL.refl _)) ?_
    exact ih (fun i=>f (i + 1)) fun i r2 h2=>h (i + 1) r2 (by rw [List.getElem?_cons_succ]; exact h2)
theorem wrong_zero {x:Instance} {d:Nat} {cols:List Column} {cuts:List Cut} {ds:List Decision} (h:wrongM x d cols cuts ds=0):chkR x ds=0∧(∀ q∈cuts,rightC x d q=0)∧∀ c∈cols,badC x c=false:=by
  unfold wrongM at h
  split at h
  · next h1=>exact absurd h h1
  next h1=>
  split at h
  · next h2=>exact absurd h h2
  next h2=>
  split at h
  · cases h
  next h3=>
  refine ⟨by simpa using h1,fun q hq=>Dec.firstErr_zero (by simpa using h2) _ (List.mem_map.2 ⟨q,hq,rfl⟩),fun c hc=>?_⟩
  exact Bool.eq_false_iff.2 fun hb=>h3 (List.any_eq_true.2 ⟨c,hc,hb⟩)
theorem rightC_set {x:Instance} {d:Nat} {q:Cut} (h:rightC x d q=0):0≤q.set:=by
  unfold rightC existP at h
  refine Decidable.byContradiction fun hn=>?_
  rw [decide_eq_false (show ¬ q.set≥0 by omega)] at h
  simp at h
  split at h
  · cases h
  · split at h
    · cases h
    · cases h
theorem badC_set {x:Instance} {c:Column} (h:badC x c=false):0 < c.set:=by
  unfold badC at h
  simp only [Bool.or_eq_false_iff,decide_eq_false_iff_not] at h
  omega
theorem set_mid {α:Type} (a b:α) (R:List α):∀ A:List α,(A ++ a :: R).set A.length b=A ++ b :: R
  | []=>rfl
  | c :: A=>by rw [List.cons_append,List.length_cons,List.set_cons_succ,set_mid a b R A]; rfl
theorem skipTo_succ {x:Instance} {o:Int} {n k:Nat} {i:Int} (h:(ordI x)[k]?=some i) (hk:k < n):skipTo x o n (k + 1)=(skipTo x o n k).set k (bitI (i == o)):=by
  have hlt:=(List.getElem?_eq_some_iff.1 h).1
  unfold skipTo
  rw [take_succ h,List.map_append,show n - k=(n - (k + 1)) + 1 by omega,List.replicate_succ,List.append_assoc]
  have:=set_mid (0:Int) (bitI (i == o)) (List.replicate (n - (k + 1)) 0) (((ordI x).take k).map fun i=>bitI (i == o))
  rw [List.length_map,List.length_take,show min k (ordI x).length=k by omega] at this
  rw [this]; rfl
theorem skipTo_len {x:Instance} {o:Int} {n k:Nat} (h:k≤(ordI x).length) (hn:(ordI x).length≤n):(skipTo x o n k).length=n:=by
  unfold skipTo
  rw [List.length_append,List.length_map,List.length_take,List.length_replicate]; omega
theorem updH_off (H:Heap) (i:Nat) (a:Option Row) (h:H i=none):updH (updH H i a) i none=H:=by
  funext k
  by_cases e:k=i
  · subst e; rw [updH_same,h]
  · rw [updH_ne _ _ _ _ e,updH_ne _ _ _ _ e]
theorem updH_on (H:Heap) (i:Nat) (a b:Option Row):updH (updH H i a) i b=updH H i b:=by
  funext k
  by_cases e:k=i
  · subst e; rw [updH_same,updH_same]
  · rw [updH_ne _ _ _ _ e,updH_ne _ _ _ _ e,updH_ne _ _ _ _ e]
theorem build_c (x : Instance) (d : Nat) (cols : List Column) (cuts : List Cut) (ds : List Decision) (hlo : LoadsOk x d) (hne : x.types ≠ []) (h : MIn x cuts ds) (hl : cols.length ≤ 1048576) (hs : ∀ c ∈ cols, c.set ≤ 9223372036854775807) (hq : ∀ q ∈ cuts, q.set ≤ 9223372036854775807) :
    PC Tryz.prog 13 [.agg (encInstance x),.sl (cols.map encColumn),.sl (cuts.map encCut),.sl (ds.map encDecision)] (.tup [.agg (encPLin (buildM x d cols cuts ds).1),int (buildM x d cols cuts ds).2]):=by
  have h1:=h.orders
  have h2:=h.types
  have h3:=h.cl
  have h4:=h.dl
  have hol:=ordI_len x
  refine PC.body (c:=Tryz.f13.body.getD .skip) (fun t=>t == 39) mixed Tryz.func13 rfl (by kernel_rfl) ?_
  unfold Tryz.f13
  simp only [Option.getD_some]
  simp only [go_sem]
  refine anew_i fun i8 h8=>?_
  have R8:=updH_same noRows i8 (some zLin)
  generalize updH noRows i8 _=HGi8 at R8 ⊢
  clear h8
  simp only [go_sem]
  refine PC.use (wrong_c x d cols cuts ds hlo hne h hl hs) ?_
  unfold buildM
  simp only [go_sem]
  refine acond_i (fun hb=>?_) (fun hb=>?_)
  · rw [if_pos (by simpa using hb)]
    simp only [go_sem]
    refine wputE_n R8 (by simp) ?_
    simp only [go_sem]
    exact .refl _
  rw [if_neg (by simpa using hb)]
  simp only [go_sem]
  refine mrows_c x cuts ds h _ _ fun jr f H1 S=>?_
  have R8:=S.keep i8 _ R8
  have Sl:=S.lin
  have hrl:=rowsM_len x cuts ds
  simp only [go_sem]
  refine anew_i fun ia ha=>?_
  refine anew_i fun ib hb2=>?_
  refine anew_i fun i11 h11=>?_
  simp only [go_sem]
  refine wputE_n (updH_same _ _ _) (by simp) ?_
  have B:BldS (updH (updH (updH (updH H1 ia (some (⟨3,1,[]⟩:Row))) ib (some ⟨68,3,[]⟩)) i11 (some zLin)) i11 (some (pRow ia jr))) i8 i11 ia jr f [] (rowsM x cuts ds):=by
    have m1:=mono_new ha (some (⟨3,1,[]⟩:Row))
    have m2:=mono_new hb2 (some (⟨68,3,[]⟩:Row))
    have m3:=mono_new2 h11 (some zLin) (some (pRow ia jr))
    refine ⟨m3 _ _ (m2 _ _ (m1 _ _ R8)),updH_same _ _ _,m3 _ _ (m2 _ _ (updH_same _ _ _)),((Sl.mono m1).mono m2).mono m3,fun i hi e=>?_,fun e=>?_⟩
    · obtain ⟨r,hr⟩:=getIn hi
      have:=Sl.coef i r hr
      rw [e,ha] at this; cases this
    · have:=m2 _ _ (m1 _ _ R8)
      rw [e,h11] at this; cases this
  generalize hG:updH (updH (updH (updH H1 ia _) ib _) i11 _) i11 _=G
  replace B:BldS G i8 i11 ia jr f [] (rowsM x cuts ds):=by rw [← hG]; exact B
  clear hG h11 hb2 ha Sl R8 S
  simp only [go_sem]
  refine PC.use (allowed_c cols ds hl h4) ?_
  simp only [go_sem]
  refine PC.use (skips_c x ds h1 h4) ?_
  have hLl:(inM cols ds).length≤cols.length:=List.length_filter_le _ _
  have hSl:(skipsM x ds).length≤(ordI x).length:=List.length_filter_le _ _
  have hLm:∀ c∈inM cols ds,c∈cols:=fun c hc=>(List.mem_filter.1 hc).1
  obtain ⟨_,hw2,hw3⟩:=wrong_zero (show wrongM x d cols cuts ds=0 by simpa using hb)
  have hcb:CutsB cuts:=⟨fun q hqm=>⟨rightC_set (hw2 q hqm),hq q hqm⟩⟩
  have hSm:∀ o∈skipsM x ds,o∈ordI x:=fun o ho=>(List.mem_filter.1 ho).1
  generalize inM cols ds=L at *
  generalize skipsM x ds=K at *
  have w:IntKind.i64.wrap ((L.length:Int) + (K.length:Int))=((L.length + K.length:Nat):Int):=by rw [wrap_in (by omega)]; omega
  simp only [go_sem,B.p,B.lin.row,List.length_mapIdx,List.length_map,hrl,w]
  refine acond_i (fun hb=>?_) (fun hb=>?_)
  · rw [if_pos (by simp at hb; omega)]
    simp only [go_sem]
    refine wputE_n B.r8 (by simp) ?_
    simp only [go_sem]
    exact .refl _
  have hsz:rowsN x cuts ds≤64∧L.length + K.length≤8192:=by simp at hb; omega
  rw [if_neg (by omega)]
  have hno:(ordI x).length≤rowsN x cuts ds:=by unfold rowsN; omega
  simp only [go_sem]
  refine ⟨fun ρ H=>∃ (k:Nat) (jc:Nat) (f:Nat→Nat),k≤L.length∧ρ 2=.sl (cuts.map encCut)∧ρ 3=.sl (ds.map encDecision)∧ρ 4=.rp (encInstance x) 0∧ρ 8=.op i8 0 0∧ρ 11=.op i11 0 0∧ρ 12=.sl (K.map encInt)∧ρ 13=.fn 31 [.op i11 0 0]∧ρ 60=.sl (L.map encColumn)∧ρ 61=int (L.length:Nat)∧ρ 62=int k∧BldS H i8 i11 jc jr f (bldA x cuts ds (L.take k)).1 (bldA x cuts ds (L.take k)).2,fun ρ _=>L.length - natOf (ρ 62),⟨0,ia,f,Nat.zero_le _,by simp only [go_sem],by simp only [go_sem],by simp only [go_sem],by simp only [go_sem],by simp only [go_sem],by simp only [go_sem],by simp only [go_sem],by simp only [go_sem],by simp only [go_sem,List.length_map],(by simp only [go_sem]; rfl),B⟩,?_⟩
  rintro ρ H ⟨k,jc,f,hk,e2,e3,e4,e8,e11,e12,e13,e60,e61,e62,B⟩
  simp only [go_sem,e2,e3,e4,e8,e11,e12,e13,e60,e61,e62]
  refine acond_i (fun hlt=>?_) (fun hge=>?_)
  · have hlt:=ltB (by simpa using hlt)
    obtain ⟨c,hc⟩:=getIn hlt
    have b1:=inB hlt
    have hcm:=hLm c (List.mem_of_getElem? hc)
    have hz:=bldA_sz x cuts ds L k (by omega)
    have hsu:=bldA_succ (x:=x) (cuts:=cuts) (ds:=ds) hc
    generalize bldA x cuts ds (L.take k)=p at *
    simp only [go_sem,e2,e3,e4,e8,e11,e12,e13,e60,e61,e62,getD_map hc,b1]
    refine anew_i fun i15 h15=>?_
    simp only [go_sem,e2,e3,e4,e8,e11,e12,e13,e60,e61,e62]
    refine wputE_n (updH_same _ _ _) (by simp [encColumn_len]) ?_
    have B1:=B.mono (mono_new2 h15 (some (⟨57,7,[[int 0,int 0,int 0,int 0,int 0,.sl [],.sl []]]⟩:Row)) (some (⟨57,7,[encColumn c]⟩:Row)))
    generalize hG:updH (updH H i15 _) i15 _=HG
    replace B1:BldS HG i8 i11 jc jr f p.1 p.2:=by rw [← hG]; exact B1
    have R15:HG i15=some (⟨57,7,[encColumn c]⟩:Row):=by rw [← hG,updH_same]; rfl
    have m15:∀ q row,H q=some row→q≠i15∧HG q=some row:=fun q row hqr=>⟨(fun e=>by subst e; rw [h15] at hqr; cases hqr),(by rw [← hG]; exact mono_new2 h15 _ _ q row hqr)⟩
    clear hG h15
    simp only [go_sem,e2,e3,e4,e8,e11,e12,e13,e60,e61,e62]
    refine adraw_p [i15] [(0,true),(1,true),(2,true),(3,true),(4,true),(5,true),(6,true),(7,false),(8,false)] (by simp [R15]) (by kernel_rfl) fun Hp Hr hp hqq _ hr0=>?_
    have Pp:=(hp i15 (by simp)).trans R15
    simp only [go_sem,e2,e3,e4,e8,e11,e12,e13,e60,e61,e62,Pp]
    refine PC.use (coefs_c x c cuts ds h ⟨by have:=badC_set (hw3 c hcm); omega,hs c hcm⟩ hcb) ?_
    have B2:BldS Hr i8 i11 jc jr f p.1 p.2:=B.mono fun q row hqr=>(hqq q (by simpa using (m15 q row hqr).1)).trans (m15 q row hqr).2
    have hcl:=coefsM_len x c cuts ds
    generalize coefsM x c cuts ds=C at *
    simp only [go_sem,e2,e3,e4,e8,e11,e12,e13,e60,e61,e62]
    refine add_c c.price C i11 jc jr f p.1 p.2 Hr _ B2.p B2.c B2.lin B2.fc (by rw [hcl,hz.2.1]) (by omega) (by rw [hz.1]; omega) (fun r hr=>by rw [hz.2.2 r hr]; omega) fun a jc' f' Hn S=>?_
    have B3:=B2.add S
    simp only [go_sem,e2,e3,e4,e8,e11,e12,e13,e60,e61,e62]
    refine pinEnd_i fun hd Hm _ hm2=>?_
    have B4:BldS Hm i8 i11 jc' jr f' (p.1 ++ [c.price]) (addTo p.2 C C.length):=B3.mono fun q row hqr=>by
      have:q≠i15:=fun e=>by subst e; rw [hd q (by simp)] at hqr; cases hqr
      rw [hm2 q (by simpa using this)]; exact hqr
    simp only [go_sem,e2,e3,e4,e8,e11,e12,e13,e60,e61,e62,wrapS (show k≤4611686018427387904 by omega)]
    refine ⟨⟨k + 1,jc',f',hlt,rfl,?_⟩,by simp only [natOf_int]; omega⟩
    rw [hsu]
    exact B4
  have hge:=geB hk (by simpa using hge)
  subst hge
  rw [List.take_length] at B
  have hz:=bldA_sz x cuts ds L L.length (Nat.le_refl _)
  rw [List.take_length] at hz
  generalize bldA x cuts ds L=s1 at *
  simp only [go_sem,e2,e3,e4,e8,e11,e12,e13,e60,e61,e62]
  refine PC.use (all_c x h1) ?_
  simp only [go_sem,e2,e3,e4,e8,e11,e12,e13,e60,e61,e62]
  refine PC.use (members_c _) ?_
  rw [mem_all x h1]
  simp only [go_sem,e2,e3,e4,e8,e11,e12,e13,e60,e61,e62,List.length_map]
  refine ⟨fun ρ H=>∃ (k:Nat) (jc:Nat) (f:Nat→Nat),k≤K.length∧ρ 4=.rp (encInstance x) 0∧ρ 8=.op i8 0 0∧ρ 11=.op i11 0 0∧ρ 13=.fn 31 [.op i11 0 0]∧ρ 16=.sl ((ordI x).map encInt)∧ρ 79=.sl (K.map encInt)∧ρ 80=int (K.length:Nat)∧ρ 81=int k∧BldS H i8 i11 jc jr f (bldB x (rowsN x cuts ds) s1 (K.take k)).1 (bldB x (rowsN x cuts ds) s1 (K.take k)).2,fun ρ _=>K.length - natOf (ρ 81),⟨0,jc,f,Nat.zero_le _,by simp only [go_sem,e4,e8,e11,e13],by simp only [go_sem,e4,e8,e11,e13],by simp only [go_sem,e4,e8,e11,e13],by simp only [go_sem,e4,e8,e11,e13],by simp only [go_sem,e4,e8,e11,e13],by simp only [go_sem,e4,e8,e11,e13],by simp only [go_sem,List.length_map,e4,e8,e11,e13],(by simp only [go_sem,e4,e8,e11,e13]; rfl),B⟩,?_⟩
  rintro ρ H ⟨k,jc,f,hk,e4,e8,e11,e13,e16,e79,e80,e81,B⟩
  simp only [go_sem,e4,e8,e11,e13,e16,e79,e80,e81]
  refine acond_i (fun hlt=>?_) (fun hge=>?_)
  · have hlt:=ltB (by simpa using hlt)
    obtain ⟨o,ho⟩:=getIn hlt
    have b1:=inB hlt
    have hz2:=bldB_sz x hno hz K k (by omega)
    have hsu:=bldB_succ (x:=x) (n:=rowsN x cuts ds) (s0:=s1) ho
    generalize bldB x (rowsN x cuts ds) s1 (K.take k)=p at *
    simp only [go_sem,e4,e8,e11,e13,e16,e79,e80,e81,getD_map ho,b1,B.p,B.lin.row,List.length_mapIdx,hz2.2.1]
    refine ⟨by omega,anew_i fun i19 h19=>?_⟩
    have R19:updH H i19 (some (⟨3,1,List.replicate (rowsN x cuts ds) [int 0]⟩:Row)) i19=some (iRow (skipTo x o (rowsN x cuts ds) 0)):=by
      rw [updH_same]
      exact congrArg (fun l=>some (⟨3,1,l⟩:Row)) (by unfold skipTo; rw [List.take_zero,List.map_nil,List.nil_append,Nat.sub_zero,List.map_replicate]; rfl)
    have B1:BldS (updH (updH H i19 (some (⟨3,1,List.replicate (rowsN x cuts ds) [int 0]⟩:Row))) i19 none) i8 i11 jc jr f p.1 p.2:=by rw [updH_off _ _ _ h19]; exact B
    generalize updH H i19 (some _)=HG at R19 B1 ⊢
    generalize hnn:rowsN x cuts ds=N at *
    clear h19
    simp only [go_sem,e4,e8,e11,e13,e16,e79,e80,e81,List.length_map]
    generalize k=k0 at *
    refine ⟨fun ρ H=>∃ (k:Nat),k≤(ordI x).length∧ρ 4=.rp (encInstance x) 0∧ρ 8=.op i8 0 0∧ρ 11=.op i11 0 0∧ρ 13=.fn 31 [.op i11 0 0]∧ρ 16=.sl ((ordI x).map encInt)∧ρ 18=int o∧ρ 19=.os i19∧ρ 79=.sl (K.map encInt)∧ρ 80=int (K.length:Nat)∧ρ 81=int (k0:Nat)∧ρ 89=.sl ((ordI x).map encInt)∧ρ 90=int ((ordI x).length:Nat)∧ρ 91=int k∧H i19=some (iRow (skipTo x o N k))∧BldS (updH H i19 none) i8 i11 jc jr f p.1 p.2,fun ρ _=>(ordI x).length - natOf (ρ 91),⟨0,Nat.zero_le _,by simp only [go_sem,e4,e8,e11,e13,e16,e79,e80,e81],by simp only [go_sem,e4,e8,e11,e13,e16,e79,e80,e81],by simp only [go_sem,e4,e8,e11,e13,e16,e79,e80,e81],by simp only [go_sem,e4,e8,e11,e13,e16,e79,e80,e81],by simp only [go_sem,e4,e8,e11,e13,e16,e79,e80,e81],by simp only [go_sem,e4,e8,e11,e13,e16,e79,e80,e81],by simp only [go_sem,e4,e8,e11,e13,e16,e79,e80,e81],by simp only [go_sem,e4,e8,e11,e13,e16,e79,e80,e81],by simp only [go_sem,e4,e8,e11,e13,e16,e79,e80,e81],by simp only [go_sem,e4,e8,e11,e13,e16,e79,e80,e81],by simp only [go_sem,e4,e8,e11,e13,e16,e79,e80,e81],by simp only [go_sem,List.length_map,e4,e8,e11,e13,e16,e79,e80,e81],(by simp only [go_sem,e4,e8,e11,e13,e16,e79,e80,e81]; rfl),R19,B1⟩,?_⟩
    rintro ρ H ⟨k,hk,e4,e8,e11,e13,e16,e18,e19,e79,e80,e81,e89,e90,e91,R,B⟩
    simp only [go_sem,e4,e8,e11,e13,e16,e18,e19,e79,e80,e81,e89,e90,e91]
    refine acond_i (fun hlt=>?_) (fun hge=>?_)
    · have hlt:=ltB (by simpa using hlt)
      obtain ⟨i,hi⟩:=getIn hlt
      have b2:=inB hlt
      have hsl:=skipTo_len (x:=x) (o:=o) hk hno
      simp only [go_sem,e4,e8,e11,e13,e16,e18,e19,e79,e80,e81,e89,e90,e91,getD_map hi,b2]
      refine PC.use (one_c _) ?_
      simp only [go_sem,e4,e8,e11,e13,e16,e18,e19,e79,e80,e81,e89,e90,e91,R,List.length_map]
      have hcell:((skipTo x o N k).map encInt).set k (setAt (((skipTo x o N k).map encInt).getD k []) 0 [int (bitI (i == o))])=(skipTo x o N (k + 1)).map encInt:=by
        obtain ⟨v,hv⟩:=getIn (l:=skipTo x o N k) (k:=k) (by omega)
        rw [getD_map hv,skipTo_succ hi (by omega),List.map_set]; rfl
      refine ⟨by omega,wputE_1 so3 R ⟨by rw [List.length_map]; omega,rfl,by simp⟩ ?_⟩
      have R2:updH H i19 (some (⟨3,1,((skipTo x o N k).map encInt).set k (setAt (((skipTo x o N k).map encInt).getD k []) 0 [int (bitI (i == o))])⟩:Row)) i19=some (iRow (skipTo x o N (k + 1))):=by rw [updH_same,hcell]
      have B2:BldS (updH (updH H i19 (some (⟨3,1,((skipTo x o N k).map encInt).set k (setAt (((skipTo x o N k).map encInt).getD k []) 0 [int (bitI (i == o))])⟩:Row))) i19 none) i8 i11 jc jr f p.1 p.2:=by rw [updH_on]; exact B
      simp only [go_sem,e4,e8,e11,e13,e16,e18,e19,e79,e80,e81,e89,e90,e91,wrapS (show k≤4611686018427387904 by omega)]
      exact ⟨⟨k + 1,hlt,rfl,(updH_same _ _ _).symm.trans R2,B2⟩,by simp only [natOf_int]; omega⟩
    have hge:=geB hk (by simpa using hge)
    subst hge
    have hco:skipTo x o N (ordI x).length=skipCol x o N:=by unfold skipTo skipCol; rw [List.take_length]
    rw [hco] at R
    have hcl:=skipCol_len x o hno
    generalize skipCol x o N=C at *
    simp only [go_sem,e4,e8,e11,e13,e16,e18,e19,e79,e80,e81,e89,e90,e91]
    refine PC.use (pUnserved_c x o) ?_
    have hwt:(weightP (unserved20 x o).1).1=weightM x o:=rfl
    generalize unserved20 x o=U at *
    obtain ⟨U,eU⟩:=U
    simp only [go_sem,e4,e8,e11,e13,e16,e18,e19,e79,e80,e81,e89,e90,e91]
    refine anew_i fun i22 h22=>?_
    simp only [go_sem,e4,e8,e11,e13,e16,e18,e19,e79,e80,e81,e89,e90,e91]
    refine wputE_n (updH_same _ _ _) (by simp [encScore_len]) ?_
    have ne22:i19≠i22:=ne_new R h22
    have m22:∀ a b:Option Row,updH (updH (updH H i22 a) i22 b) i19 none=updH (updH (updH H i19 none) i22 a) i22 b:=by
      intro a b
      funext q
      simp only [updH]
      by_cases e1:q=i19
      · subst e1; rw [if_pos rfl,if_neg ne22,if_neg ne22,if_pos rfl]
      · rw [if_neg e1,if_neg e1]
    have h22':updH H i19 none i22=none:=by rw [updH_ne _ _ _ _ ne22.symm]; exact h22
    have B1:BldS (updH (updH (updH H i22 (some (⟨95,4,[[int 0,int 0,int 0,int 0]]⟩:Row))) i22 (some (⟨95,4,[encScore U]⟩:Row))) i19 none) i8 i11 jc jr f p.1 p.2:=by
      rw [m22]; exact B.mono (mono_new2 h22' _ _)
    generalize hG:updH (updH H i22 _) i22 _=HG
    have R1:HG i19=some (iRow C):=by rw [← hG,updH_ne _ _ _ _ ne22,updH_ne _ _ _ _ ne22]; exact R
    replace B1:BldS (updH HG i19 none) i8 i11 jc jr f p.1 p.2:=by rw [← hG]; exact B1
    have R22:HG i22=some (⟨95,4,[encScore U]⟩:Row):=by rw [← hG,updH_same]; rfl
    clear hG h22 h22' m22
    simp only [go_sem,e4,e8,e11,e13,e16,e18,e19,e79,e80,e81,e89,e90,e91,R22]
    refine PC.use (pWeight_c U) ?_
    rw [hwt]
    simp only [go_sem,e4,e8,e11,e13,e16,e18,e19,e79,e80,e81,e89,e90,e91]
    refine FCalls.frz [i19] (args':=[int (weightM x o),.sl (C.map encInt),.op i11 0 0]) (.cons _ _ _ _ (.refl _) (.cons _ _ _ _ (.row _ _ _ (by simp; exact R1) (ConvE.refl _)) (.cons _ _ _ _ (.refl _) .nil))) ?_
    rw [show (fun q=>if q∈[i19] then none else HG q)=updH HG i19 none from funext fun q=>by simp only [updH,List.mem_singleton]]
    refine add_c (weightM x o) C i11 jc jr f p.1 p.2 _ _ B1.p B1.c B1.lin B1.fc (by rw [hcl,hz2.2.1]) (by omega) (by rw [hz2.1]; omega) (fun r hr=>by rw [hz2.2.2 r hr]; omega) fun a jc' f' Hn S=>?_
    have B3:=B1.add S
    simp only [go_sem,e4,e8,e11,e13,e16,e18,e19,e79,e80,e81,e89,e90,e91,wrapS (show k0≤4611686018427387904 by omega)]
    refine ⟨⟨k0 + 1,jc',f',by omega,rfl,?_⟩,by simp only [natOf_int]; omega⟩
    rw [hsu]
    exact B3
  have hge:=geB hk (by simpa using hge)
  subst hge
  rw [List.take_length] at B
  generalize bldB x (rowsN x cuts ds) s1 K=s2 at *
  simp only [go_sem,e4,e8,e11,e13,B.p]
  refine wputE_n B.r8 (by simp) ?_
  have hjc:jc≠i8:=fun e=>by
    have h1:=B.r8
    rw [← e,B.c] at h1
    have h2:(iRow s2.1).e=zLin.e:=congrArg Row.e (Option.some.inj h1)
    exact absurd (show (3:Nat)=62 from h2) (by decide)
  have hjr:jr≠i8:=fun e=>by
    have h1:=B.r8
    rw [← e,B.lin.row] at h1
    have h2:(linRow f s2.2).e=zLin.e:=congrArg Row.e (Option.some.inj h1)
    exact absurd (show (68:Nat)=62 from h2) (by decide)
  have hfi:∀ (i:Nat) (r:PRow),s2.2[i]?=some r→f i≠i8:=fun i r hr e=>by
    have h1:=B.r8
    rw [← e,B.lin.coef i r hr] at h1
    have h2:(iRow r.coef).e=zLin.e:=congrArg Row.e (Option.some.inj h1)
    exact absurd (show (3:Nat)=62 from h2) (by decide)
  simp only [go_sem,e4,e8,e11,e13]
  refine .tup _ _ (.cons _ _ _ _ (.agg _ _ (.cons _ _ _ _ (.row _ _ _ (by rw [updH_ne _ _ _ _ hjc]; exact B.c) (ConvE.refl _)) (.cons _ _ _ _ (.row _ _ _ (by rw [updH_ne _ _ _ _ hjr]; exact B.lin.row) (conv_rows f s2.2 fun i r hr=>(updH_ne _ _ _ _ (hfi i r hr)).trans (B.lin.coef i r hr))) .nil))) (.cons _ _ _ _ (.refl _) .nil))
end Go.Proofs.YtpddaldlebngaaaGreatDoor.Nu
end

section
set_option linter.unusedSimpArgs false
set_option linter.unusedVariables false
namespace Go.Proofs.YtpddaldlebngaaaGreatDoor.Nu
open Go.Aw Go.Aw.D Go.Proofs Ty Go.Nu
set_option maxRecDepth 100000
def i64I (n:Int):Prop:=-9223372036854775808≤n∧n≤9223372036854775807
structure LinB (p:PLin):Prop where
  rows:p.rows.length≤1048576
  cost:p.cost.length≤1048576
  coef:∀ r∈p.rows,∀ n∈r.coef,i64I n
  right:∀ r∈p.rows,i64I r.right
structure VarB (v:List ByteArray):Prop where
  len:v.length≤1048576
  size:∀ s∈v,s.size≤1048576
def holdM (k c:Int):Bool:=if k=1 then decide (c≤0) else if k=3 then decide (c≥0) else c == 0
def rowFits (v:List ByteArray) (r:PRow):Bool:=(timesR r.coef v).2 == 0 && holdM r.kind (cmpR (timesR r.coef v).1 (zed r.right))
def badV (s:ByteArray):Bool:=!rightR s || decide (signR s < 0)
def fitsM (p:PLin) (v:List ByteArray):Bool:=if v.length≠p.cost.length then false else if v.any badV=true then false else p.rows.all (rowFits v)
theorem times_size {ns:List Int} {xs:List ByteArray}:(timesR ns xs).1.size≤8194:=by
  by_cases h:(timesR ns xs).2=0
  · exact right_size' (times_right h)
  · have : (timesR ns xs).1 = emp := by
      unfold timesR at h ⊢
      split
      · rfl
      · split
        · rfl
        · next h1 h2=>
          rw [if_neg h1,if_neg h2] at h
          have:∀ (l:List (Int × ByteArray)) (t:ByteArray),(timesF l t).2≠0→(timesF l t).1=emp:=by
            intro l
            induction l with
            | nil=>intro t h; exact absurd rfl h
            | cons p l ih=>
              intro t h
              unfold timesF at h ⊢
              split
              · rfl
              · next h3=>
                rw [if_neg h3] at h
                split
                · rfl
                · next h4=>rw [if_neg h4] at h; exact ih _ h
          exact this _ _ h
    rw [this]; decide
theorem holds_c (k:Int) (a b:ByteArray) (ha:a.size≤1048576) (hb:b.size≤1048576):PC Tryz.prog 44 [int k,str a,str b] (boo (holdM k (cmpR a b))):=by
  unfold holdM
  refine PC.body (c:=Tryz.f44.body.getD .skip) (fun _=>false) mixed Tryz.func44 rfl (by kernel_rfl) ?_
  unfold Tryz.f44
  simp only [Option.getD_some]
  simp only [go_sem]
  refine PC.use (rCompare_c a b ha hb) ?_
  simp only [go_sem]
  refine acond_i (fun h1=>?_) (fun h1=>?_)
  · rw [if_pos (by simpa using h1)]
    simp only [go_sem]
    exact .refl _
  rw [if_neg (by simpa using h1)]
  simp only [go_sem]
  refine acond_i (fun h1=>?_) (fun h1=>?_)
  · rw [if_pos (by simpa using h1)]
    simp only [go_sem]
    exact .refl _
  rw [if_neg (by simpa using h1)]
  simp only [go_sem]
  exact .refl _
theorem left_c (p:PLin) (k:Nat) (v:List ByteArray) (hp:LinB p) (hv:VarB v) {r:PRow} (hr:p.rows[k]?=some r):PC Tryz.prog 43 [.agg (encPLin p),int k,.sl (v.map Go.Aw.D.encStr)] (.tup [str (timesR r.coef v).1,int (timesR r.coef v).2]):=by
  have hlt:=(List.getElem?_eq_some_iff.1 hr).1
  have b1:=inB hlt
  refine PC.body (c:=Tryz.f43.body.getD .skip) (fun _=>false) mixed Tryz.func43 rfl (by kernel_rfl) ?_
  unfold Tryz.f43
  simp only [Option.getD_some]
  simp only [go_sem]
  refine acond_i (fun h1=>?_) (fun h1=>?_)
  · simp at h1; omega
  simp only [go_sem,getD_map hr,b1]
  refine PC.use (rTimes_c r.coef v (hp.coef r (List.mem_of_getElem? hr)) hv.len hv.size) ?_
  simp only [go_sem]
  exact .refl _
theorem left25_c (p:PLin) (k:Nat) (v:List ByteArray) (hp:LinB p) (hv:VarB v) {r:PRow} (hr:p.rows[k]?=some r):PC Tryz.prog 58 [.agg (encPLin p),int k,.sl (v.map Go.Aw.D.encStr)] (.tup [str (timesR r.coef v).1,int (timesR r.coef v).2]):=by
  have hlt:=(List.getElem?_eq_some_iff.1 hr).1
  have b1:=inB hlt
  refine PC.body (c:=Tryz.f58.body.getD .skip) (fun _=>false) mixed Tryz.func58 rfl (by kernel_rfl) ?_
  unfold Tryz.f58
  simp only [Option.getD_some]
  simp only [go_sem]
  refine acond_i (fun h1=>?_) (fun h1=>?_)
  · simp at h1; omega
  simp only [go_sem,getD_map hr,b1]
  refine PC.use (times4_c r.coef v (hp.coef r (List.mem_of_getElem? hr)) hv.len hv.size) ?_
  simp only [go_sem]
  exact .refl _
theorem all_hitB {α:Type} {q:α→Bool} {l:List α} {k:Nat} {a:α} (h:l[k]?=some a) (ha:q a=false):l.all q=false:=by
  rw [List.all_eq_false]
  exact ⟨a,List.mem_of_getElem? h,by rw [ha]; simp⟩
theorem fits_c (p:PLin) (v:List ByteArray) (hp:LinB p) (hv:VarB v):PC Tryz.prog 16 [.agg (encPLin p),.sl (v.map Go.Aw.D.encStr)] (boo (fitsM p v)):=by
  have hv1:=hv.len
  have hp1:=hp.rows
  have hp2:=hp.cost
  unfold fitsM
  refine PC.body (c:=Tryz.f16.body.getD .skip) (fun _=>false) mixed Tryz.func16 rfl (by kernel_rfl) ?_
  unfold Tryz.f16
  simp only [Option.getD_some]
  simp only [go_sem]
  refine acond_i (fun h1=>?_) (fun h1=>?_)
  · rw [if_pos (by simp at h1; omega)]
    simp only [go_sem]
    exact .refl _
  rw [if_neg (by simp at h1; omega)]
  simp only [go_sem]
  refine ⟨fun ρ H=>∃ (k:Nat),k≤v.length∧ρ 1=.sl (v.map Go.Aw.D.encStr)∧ρ 2=.rp (encPLin p) 0∧ρ 17=.sl (v.map Go.Aw.D.encStr)∧ρ 18=int (v.length:Nat)∧ρ 19=int k∧∀ s∈v.take k,badV s=false,fun ρ _=>v.length - natOf (ρ 19),⟨0,Nat.zero_le _,by simp only [go_sem],by simp only [go_sem],by simp only [go_sem],by simp only [go_sem,List.length_map],(by simp only [go_sem]; rfl),by simp⟩,?_⟩
  rintro ρ H ⟨k,hk,e1,e2,e17,e18,e19,hz⟩
  simp only [go_sem,e1,e2,e17,e18,e19]
  refine acond_i (fun hlt=>?_) (fun hge=>?_)
  · have hlt:=ltB (by simpa using hlt)
    obtain ⟨s,hs⟩:=getIn hlt
    have b1:=inB hlt
    have hss:=hv.size s (List.mem_of_getElem? hs)
    simp only [go_sem,e1,e2,e17,e18,e19,getD_map hs,b1]
    refine PC.use (right1_c s hss) ?_
    simp only [go_sem,e1,e2,e17,e18,e19]
    refine ⟨_,fun _=>(rsign_c s hss).q rfl,?_⟩
    simp only [go_sem,e1,e2,e17,e18,e19]
    refine acond_i (fun hb=>?_) (fun hb=>?_)
    · rw [if_pos (List.any_eq_true.2 ⟨s,List.mem_of_getElem? hs,hb⟩)]
      simp only [go_sem]
      exact .refl _
    · simp only [go_sem,e1,e2,e17,e18,e19,wrapS (show k≤4611686018427387904 by omega)]
      exact ⟨⟨k + 1,hlt,rfl,take_all' (p:=fun s=>badV s=false) hs hb hz⟩,by simp only [natOf_int]; omega⟩
  have hge:=geB hk (by simpa using hge)
  subst hge
  rw [List.take_length] at hz
  rw [if_neg (fun hc=>by obtain ⟨s,hs1,hs2⟩:=List.any_eq_true.1 hc; rw [hz s hs1] at hs2; cases hs2)]
  simp only [go_sem,e1,e2,e17,e18,e19,List.length_map]
  refine ⟨fun ρ H=>∃ (k:Nat),k≤p.rows.length∧ρ 1=.sl (v.map Go.Aw.D.encStr)∧ρ 2=.rp (encPLin p) 0∧ρ 33=.sl (p.rows.map encPRow)∧ρ 34=int (p.rows.length:Nat)∧ρ 35=int k∧∀ r∈p.rows.take k,rowFits v r=true,fun ρ _=>p.rows.length - natOf (ρ 35),⟨0,Nat.zero_le _,by simp only [go_sem,e1,e2],by simp only [go_sem,e1,e2],by simp only [go_sem,e1,e2],by simp only [go_sem,List.length_map,e1,e2],(by simp only [go_sem,e1,e2]; rfl),by simp⟩,?_⟩
  rintro ρ H ⟨k,hk,e1,e2,e33,e34,e35,hz⟩
  simp only [go_sem,e1,e2,e33,e34,e35]
  refine acond_i (fun hlt=>?_) (fun hge=>?_)
  · have hlt:=ltB (by simpa using hlt)
    obtain ⟨r,hr⟩:=getIn hlt
    have b1:=inB hlt
    have hri:=hp.right r (List.mem_of_getElem? hr)
    have hts:=times_size (ns:=r.coef) (xs:=v)
    have hzs:=zed64_size hri.1 hri.2
    simp only [go_sem,e1,e2,e33,e34,e35,getD_map hr,b1]
    refine anew_i fun i8 h8=>?_
    simp only [go_sem,e1,e2,e33,e34,e35]
    refine wputE_n (updH_same _ _ _) (by simp [encPRow_len]) ?_
    generalize hG:updH (updH H i8 _) i8 _=HG
    have R8:HG i8=some (⟨68,3,[encPRow r]⟩:Row):=by rw [← hG,updH_same]; rfl
    clear hG h8
    simp only [go_sem,e1,e2,e33,e34,e35]
    refine PC.use (left_c p k v hp hv hr) ?_
    have hrf:rowFits v r=((timesR r.coef v).2 == 0 && holdM r.kind (cmpR (timesR r.coef v).1 (zed r.right))):=rfl
    generalize timesR r.coef v=T at *
    obtain ⟨t,e⟩:=T
    simp only at hts hrf
    simp only [go_sem,e1,e2,e33,e34,e35]
    refine adraw_p [i8] [(0,true),(1,true),(2,true),(3,true),(4,true),(5,true),(6,true),(7,true),(8,false),(9,false),(10,false),(11,false)] (by simp [R8]) (by kernel_rfl) fun Hp Hr hp hqq _ hr0=>?_
    have Pp:=(hp i8 (by simp)).trans R8
    simp only [go_sem,e1,e2,e33,e34,e35,Pp]
    refine ⟨_,fun _=>(rof_c r.right hri.1 hri.2).q rfl,?_⟩
    simp only [go_sem,e1,e2,e33,e34,e35]
    refine ⟨_,fun _=>(holds_c r.kind t (zed r.right) (by omega) (by omega)).q rfl,?_⟩
    simp only [go_sem,e1,e2,e33,e34,e35]
    refine pinEnd_i fun _ Hm _ _=>?_
    simp only [go_sem,e1,e2,e33,e34,e35]
    have hcd:(e != 0 || !holdM r.kind (cmpR t (zed r.right)))=!rowFits v r:=by rw [hrf,Bool.not_and]; rfl
    refine acond_i (fun hb=>?_) (fun hb=>?_)
    · rw [all_hitB hr (by rw [hcd] at hb; simpa using hb)]
      simp only [go_sem]
      exact .refl _
    · simp only [go_sem,e1,e2,e33,e34,e35,wrapS (show k≤4611686018427387904 by omega)]
      exact ⟨⟨k + 1,hlt,rfl,take_all' (p:=fun r=>rowFits v r=true) hr (by rw [hcd] at hb; simpa using hb) hz⟩,by simp only [natOf_int]; omega⟩
  have hge:=geB hk (by simpa using hge)
  subst hge
  rw [List.take_length] at hz
  rw [List.all_eq_true.2 hz]
  simp only [go_sem,e1,e2,e33,e34,e35]
  exact .refl _
theorem cmpR_cases (a b:ByteArray):cmpR a b=-1∨cmpR a b=0∨cmpR a b=1:=by
  unfold cmpR cmpQ
  split
  · split
    · exact .inl rfl
    · split
      · exact .inr (.inr rfl)
      · exact .inr (.inl rfl)
  · exact .inr (.inl rfl)
theorem fits25_c (p:PLin) (v:List ByteArray) (hp:LinB p) (hv:VarB v):PC Tryz.prog 22 [.agg (encPLin p),.sl (v.map Go.Aw.D.encStr)] (boo (fitsM p v)):=by
  have hv1:=hv.len
  have hp1:=hp.rows
  have hp2:=hp.cost
  unfold fitsM
  refine PC.body (c:=Tryz.f22.body.getD .skip) (fun _=>false) mixed Tryz.func22 rfl (by kernel_rfl) ?_
  unfold Tryz.f22
  simp only [Option.getD_some]
  simp only [go_sem]
  refine acond_i (fun h1=>?_) (fun h1=>?_)
  · rw [if_pos (by simp at h1; omega)]
    simp only [go_sem]
    exact .refl _
  rw [if_neg (by simp at h1; omega)]
  simp only [go_sem]
  refine ⟨fun ρ H=>∃ (k:Nat),k≤v.length∧ρ 1=.sl (v.map Go.Aw.D.encStr)∧ρ 2=.rp (encPLin p) 0∧ρ 5=int k∧∀ s∈v.take k,badV s=false,fun ρ _=>v.length - natOf (ρ 5),⟨0,Nat.zero_le _,by simp only [go_sem],by simp only [go_sem],(by simp only [go_sem]; rfl),by simp⟩,?_⟩
  rintro ρ H ⟨k,hk,e1,e2,e5,hz⟩
  simp only [go_sem,e1,e2,e5]
  refine acond_i (fun hlt=>?_) (fun hge=>?_)
  · have hlt:=ltB (by simpa using hlt)
    obtain ⟨s,hs⟩:=getIn hlt
    have b1:=inB hlt
    have hss:=hv.size s (List.mem_of_getElem? hs)
    simp only [go_sem,e1,e2,e5,getD_map hs,b1]
    refine PC.use (right4_c s hss) ?_
    simp only [go_sem,e1,e2,e5,getD_map hs,b1]
    refine ⟨_,fun _=>(sign4_c s hss).q rfl,?_⟩
    simp only [go_sem,e1,e2,e5]
    refine acond_i (fun hb=>?_) (fun hb=>?_)
    · rw [if_pos (List.any_eq_true.2 ⟨s,List.mem_of_getElem? hs,hb⟩)]
      simp only [go_sem]
      exact .refl _
    · simp only [go_sem,e1,e2,e5,wrapS (show k≤4611686018427387904 by omega)]
      exact ⟨⟨k + 1,hlt,rfl,take_all' (p:=fun s=>badV s=false) hs hb hz⟩,by simp only [natOf_int]; omega⟩
  have hge:=geB hk (by simpa using hge)
  subst hge
  rw [List.take_length] at hz
  rw [if_neg (fun hc=>by obtain ⟨s,hs1,hs2⟩:=List.any_eq_true.1 hc; rw [hz s hs1] at hs2; cases hs2)]
  simp only [go_sem,e1,e2,e5]
  refine ⟨fun ρ H=>∃ (k:Nat),k≤p.rows.length∧ρ 1=.sl (v.map Go.Aw.D.encStr)∧ρ 2=.rp (encPLin p) 0∧ρ 6=int k∧∀ r∈p.rows.take k,rowFits v r=true,fun ρ _=>p.rows.length - natOf (ρ 6),⟨0,Nat.zero_le _,by simp only [go_sem,e1,e2],by simp only [go_sem,e1,e2],(by simp only [go_sem,e1,e2]; rfl),by simp⟩,?_⟩
  rintro ρ H ⟨k,hk,e1,e2,e6,hz⟩
  simp only [go_sem,e1,e2,e6]
  refine acond_i (fun hlt=>?_) (fun hge=>?_)
  · have hlt:=ltB (by simpa using hlt)
    obtain ⟨r,hr⟩:=getIn hlt
    have b1:=inB hlt
    have hri:=hp.right r (List.mem_of_getElem? hr)
    have hts:=times_size (ns:=r.coef) (xs:=v)
    have hzs:=zed64_size hri.1 hri.2
    simp only [go_sem,e1,e2,e6]
    refine PC.use (left25_c p k v hp hv hr) ?_
    have hrf:rowFits v r=((timesR r.coef v).2 == 0 && holdM r.kind (cmpR (timesR r.coef v).1 (zed r.right))):=rfl
    generalize timesR r.coef v=T at *
    obtain ⟨t,e⟩:=T
    simp only at hts hrf
    simp only [go_sem,e1,e2,e6,getD_map hr,b1]
    refine PC.use (of4_c r.right hri.1 hri.2) ?_
    simp only [go_sem,e1,e2,e6]
    refine PC.use (compare4_c t (zed r.right) (by omega) (by omega)) ?_
    have hcc:=cmpR_cases t (zed r.right)
    generalize cmpR t (zed r.right)=C at *
    simp only [go_sem,e1,e2,e6,getD_map hr,b1]
    have hcd:((e != 0 || (r.kind != 3 && decide (C > 0))) || (r.kind != 1 && decide (C < 0)))=!rowFits v r:=by
      rw [hrf,Bool.not_and]
      unfold holdM
      by_cases h1:r.kind=1
      · rw [if_pos h1,h1]
        rcases hcc with h | h | h <;> rw [h] <;> cases he:(e == 0) <;> simp [bne,he]
      · rw [if_neg h1]
        by_cases h3:r.kind=3
        · rw [if_pos h3,h3]
          rcases hcc with h | h | h <;> rw [h] <;> cases he:(e == 0) <;> simp [bne,he]
        · rw [if_neg h3]
          have e1:(r.kind == 1)=false:=by simpa using h1
          have e3:(r.kind == 3)=false:=by simpa using h3
          rcases hcc with h | h | h <;> rw [h] <;> cases he:(e == 0) <;> simp [bne,he,e1,e3]
    refine acond_i (fun hb=>?_) (fun hb=>?_)
    · rw [all_hitB hr (by rw [hcd] at hb; simpa using hb)]
      simp only [go_sem]
      exact .refl _
    · simp only [go_sem,e1,e2,e6,wrapS (show k≤4611686018427387904 by omega)]
      exact ⟨⟨k + 1,hlt,rfl,take_all' (p:=fun r=>rowFits v r=true) hr (by rw [hcd] at hb; simpa using hb) hz⟩,by simp only [natOf_int]; omega⟩
  have hge:=geB hk (by simpa using hge)
  subst hge
  rw [List.take_length] at hz
  rw [List.all_eq_true.2 hz]
  simp only [go_sem,e1,e2,e6]
  exact .refl _
end Go.Proofs.YtpddaldlebngaaaGreatDoor.Nu
end
