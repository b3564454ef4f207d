/- Texts joined by a program: MaH, MaF. -/
import Derived.Test.YtpddaldlebngaaaGreatDoorZp33

section
set_option linter.unusedSimpArgs false
set_option linter.unusedVariables false
namespace Go.Proofs.YtpddaldlebngaaaGreatDoor.Nu
open Go.Aw Go.Aw.D Go.Proofs Ty Go.Nu
set_option maxRecDepth 100000
theorem mRows_c (x:Instance) (cuts:List Cut) (ds:List Decision) (h:MIn x cuts ds):PC Tryz.prog 15 [.agg (encInstance x),.sl (cuts.map encCut),.sl (ds.map encDecision)] (int (rowsN x cuts ds:Nat)):=by
  refine PC.body (c:=Tryz.f15.body.getD .skip) (fun _=>false) mixed Tryz.func15 rfl (by kernel_rfl) ?_
  unfold Tryz.f15
  simp only [Option.getD_some]
  simp only [go_sem]
  refine mrows_c x cuts ds h _ _ fun j f Hn S=>?_
  simp only [go_sem,S.lin.row,List.length_mapIdx,rowsM_len]
  exact .refl _
abbrev pRow (jc jr:Nat):Row:=⟨62,2,[[.os jc,.os jr]]⟩
def addR1 (r:PRow) (n:Int):PRow:=⟨r.coef ++ [n],r.kind,r.right⟩
def addTo (rows:List PRow) (col:List Int):Nat→List PRow
  | 0=>rows
  | k + 1=>(addTo rows col k).set k (addR1 (rows.getD k ⟨[],0,0⟩) (col.getD k 0))
theorem addTo_len (rows:List PRow) (col:List Int):∀ k,(addTo rows col k).length=rows.length
  | 0=>rfl
  | k + 1=>by rw [addTo,List.length_set,addTo_len rows col k]
theorem addTo_get (rows:List PRow) (col:List Int):∀ k i,(addTo rows col k)[i]?=if i < k then (rows[i]?).map (fun r=>addR1 r (col.getD i 0)) else rows[i]?
  | 0,i=>by rw [if_neg (by omega)]; rfl
  | k + 1,i=>by
    rw [addTo,List.getElem?_set,addTo_len]
    by_cases e:k=i
    · subst e
      rw [if_pos rfl,if_pos (show k < k + 1 by omega)]
      by_cases hk:k < rows.length
      · rw [if_pos hk,List.getD,List.getElem?_eq_getElem hk]; rfl
      · rw [if_neg hk,List.getElem?_eq_none (show rows.length≤k by omega)]; rfl
    · rw [if_neg e,addTo_get rows col k i]
      by_cases hi:i < k
      · rw [if_pos hi,if_pos (by omega)]
      · rw [if_neg hi,if_neg (by omega)]
structure AddS (H0 H:Heap) (jp jc jr:Nat) (f:Nat→Nat) (n:Nat) (jc':Nat) (f':Nat→Nat) (cost:List Int) (rows:List PRow) (k:Nat):Prop where
  p:H jp=some (pRow jc' jr)
  c:H jc'=some (iRow cost)
  lin:LinH H jr f' rows
  fc:∀ i,i < rows.length→f' i≠jc'
  rest:∀ i,k≤i→f' i=f i
  keep:∀ q row,q≠jp→q≠jc→q≠jr→(∀ i,i < n→q≠f i)→H0 q=some row→H q=some row
theorem AddS.step {H0 H : Heap} {jp jc jr : Nat} {f : Nat → Nat} {n jc' : Nat} {f' : Nat → Nat} {cost : List Int} {rows : List PRow} {k : Nat} (S : AddS H0 H jp jc jr f n jc' f' cost rows k) (hn : n = rows.length) {r : PRow} (hr : rows[k]? = some r) {j' : Nat}
    (hj':H j'=none) (m:Int):AddS H0 (updH (updH (updH H (f' k) none) j' (some (iRow (r.coef ++ [m])))) jr (some ⟨68,3,(rows.mapIdx (cellF f')).set k [.os j',int r.kind,int r.right]⟩)) jp jc jr f n jc' (updF f' k j') cost (rows.set k (addR1 r m)) (k + 1):=by
  have hlt:=(List.getElem?_eq_some_iff.1 hr).1
  have hfk:=S.lin.coef k r hr
  have hp_r:jp≠jr:=fun e=>by
    have h1:=S.p
    rw [e,S.lin.row] at h1
    have h2:(linRow f' rows).e=(pRow jc' jr).e:=congrArg Row.e (Option.some.inj h1)
    exact absurd (show (68:Nat)=62 from h2) (by decide)
  have hp_f:jp≠f' k:=fun e=>by
    have h1:=S.p
    rw [e,hfk] at h1
    have h2:(iRow r.coef).e=(pRow jc' jr).e:=congrArg Row.e (Option.some.inj h1)
    exact absurd (show (3:Nat)=62 from h2) (by decide)
  have hc_r:jc'≠jr:=fun e=>by
    have h1:=S.c
    rw [e,S.lin.row] at h1
    have h2:(linRow f' rows).e=(iRow cost).e:=congrArg Row.e (Option.some.inj h1)
    exact absurd (show (68:Nat)=3 from h2) (by decide)
  have hp_j:jp≠j':=fun e=>by rw [← e,S.p] at hj'; cases hj'
  have hc_j:jc'≠j':=fun e=>by rw [← e,S.c] at hj'; cases hj'
  have hr_j:jr≠j':=fun e=>by rw [← e,S.lin.row] at hj'; cases hj'
  refine ⟨?_,?_,⟨?_,fun i r2 hr2=>?_,fun i l hi hl hil=>?_⟩,fun i hi=>?_,fun i hi=>?_,fun q row q1 q2 q3 q4 hq=>?_⟩
  · rw [updH_ne _ _ _ _ hp_r,updH_ne _ _ _ _ hp_j,updH_ne _ _ _ _ hp_f]; exact S.p
  · rw [updH_ne _ _ _ _ hc_r,updH_ne _ _ _ _ hc_j,updH_ne _ _ _ _ (S.fc k hlt).symm]; exact S.c
  · rw [updH_same]
    exact congrArg (fun l=>some (⟨68,3,l⟩:Row)) (cells_set f' rows k j' r (r.coef ++ [m]) hr)
  · rw [List.getElem?_set] at hr2
    unfold updF
    by_cases e:k=i
    · subst e
      rw [if_pos rfl,if_pos hlt] at hr2
      rw [if_pos rfl,updH_ne _ _ _ _ hr_j.symm,updH_same]
      have:r2=addR1 r m:=(Option.some.inj hr2).symm
      rw [this]; rfl
    · rw [if_neg e] at hr2
      have hh:=S.lin.coef i r2 hr2
      have hilt:=(List.getElem?_eq_some_iff.1 hr2).1
      rw [if_neg (fun h=>e h.symm),updH_ne _ _ _ _ (S.lin.ne hilt),updH_ne _ _ _ _ (fun h=>by rw [h,hj'] at hh; cases hh),updH_ne _ _ _ _ (fun h=>e (S.lin.inj k i hlt hilt h.symm))]
      exact hh
  · rw [List.length_set] at hi hl
    have hsome:∀ i,i < rows.length→f' i≠j':=fun i hi e=>by
      obtain ⟨r,hr⟩:=getIn hi
      have:=S.lin.coef i r hr
      rw [e,hj'] at this; cases this
    unfold updF at hil
    by_cases e1:i=k
    · by_cases e2:l=k
      · omega
      · rw [if_pos e1,if_neg e2] at hil
        exact absurd hil.symm (hsome l hl)
    · by_cases e2:l=k
      · rw [if_neg e1,if_pos e2] at hil
        exact absurd hil (hsome i hi)
      · rw [if_neg e1,if_neg e2] at hil
        exact S.lin.inj i l hi hl hil
  · rw [List.length_set] at hi
    unfold updF
    by_cases e:i=k
    · rw [if_pos e]; exact hc_j.symm
    · rw [if_neg e]; exact S.fc i hi
  · unfold updF
    rw [if_neg (by omega)]
    exact S.rest i (by omega)
  · have hh:=S.keep q row q1 q2 q3 q4 hq
    rw [updH_ne _ _ _ _ q3,updH_ne _ _ _ _ (fun h=>by rw [h,hj'] at hh; cases hh),updH_ne _ _ _ _ (fun h=>q4 k (by omega) (h.trans (S.rest k (Nat.le_refl _))))]
    exact hh
theorem cell_get (f:Nat→Nat) (rows:List PRow) {k:Nat} {r:PRow} (h:rows[k]?=some r):(rows.mapIdx (cellF f)).getD k []=cellF f k r:=by
  rw [List.getD,List.getElem?_mapIdx,h]; rfl
theorem add_c (n : Int) (col : List Int) (jp jc jr : Nat) (f : Nat → Nat) (cost : List Int) (rows : List PRow) (H0 : Heap) (K : AV → Heap → Prop) (Hp : H0 jp = some (pRow jc jr)) (Hc : H0 jc = some (iRow cost)) (L : LinH H0 jr f rows) (hfc : ∀ i, i < rows.length → f i ≠ jc)
    (hlen:col.length=rows.length) (hl:col.length≤1048576) (hcl:cost.length≤1048576) (hrl:∀ r∈rows,r.coef.length≤1048576)
    (hK:∀ a jc' f' Hn,AddS H0 Hn jp jc jr f rows.length jc' f' (cost ++ [n]) (addTo rows col col.length) col.length→K a Hn) :
    FCalls Tryz.prog 31 [int n,.sl (col.map encInt),.op jp 0 0] H0 K:=by
  refine FCalls.body (c:=Tryz.f31.body.getD .skip) (fun _=>false) mixed Tryz.func31 rfl (by kernel_rfl) ?_
  unfold Tryz.f31
  simp only [Option.getD_some]
  simp only [go_sem]
  simp only [Hp,go_sem]
  refine wappE_i Hc ⟨rfl,rfl⟩ ⟨rfl,trivial⟩ (by simp only [List.length_map,List.length_cons,List.length_nil]; omega) (fun j' hj'=>?_)
  have hpc:jp≠jc:=fun e=>by
    have h1:=Hp
    rw [e,Hc] at h1
    have h2:(iRow cost).e=(pRow jc jr).e:=congrArg Row.e (Option.some.inj h1)
    exact absurd (show (3:Nat)=62 from h2) (by decide)
  have hrc:jr≠jc:=fun e=>by
    have h1:=L.row
    rw [e,Hc] at h1
    have h2:(iRow cost).e=(linRow f rows).e:=congrArg Row.e (Option.some.inj h1)
    exact absurd (show (3:Nat)=68 from h2) (by decide)
  have hrp:jr≠jp:=fun e=>by
    have h1:=L.row
    rw [e,Hp] at h1
    have h2:(pRow jc jr).e=(linRow f rows).e:=congrArg Row.e (Option.some.inj h1)
    exact absurd (show (62:Nat)=68 from h2) (by decide)
  have Hp2:=keep_app (r':=(⟨3,1,(iRow cost).es ++ [[int n]]⟩:Row)) Hp hpc.symm hj'
  simp only [go_sem]
  refine wputE_1 so41 Hp2 ⟨by simp,rfl,by simp⟩ ?_
  have S:AddS H0 (updH (updH (updH H0 jc none) j' (some (⟨3,1,(iRow cost).es ++ [[int n]]⟩:Row))) jp (some (pRow j' jr))) jp jc jr f rows.length j' f (cost ++ [n]) rows 0:=by
    have hpj:jp≠j':=ne_new Hp hj'
    have hrj:jr≠j':=ne_new L.row hj'
    have hfj:∀ i,i < rows.length→f i≠j':=fun i hi e=>by
      obtain ⟨r,hr⟩:=getIn hi
      have:=L.coef i r hr
      rw [e,hj'] at this; cases this
    have hfp:∀ i,i < rows.length→f i≠jp:=fun i hi e=>by
      obtain ⟨r,hr⟩:=getIn hi
      have h1:=L.coef i r hr
      rw [e,Hp] at h1
      have h2:(pRow jc jr).e=(iRow r.coef).e:=congrArg Row.e (Option.some.inj h1)
      exact absurd (show (62:Nat)=3 from h2) (by decide)
    refine ⟨updH_same _ _ _,?_,⟨?_,fun i r hr=>?_,L.inj⟩,hfj,fun _ _=>rfl,fun q row q1 q2 q3 q4 hq=>?_⟩
    · rw [updH_ne _ _ _ _ hpj.symm,updH_same]
      exact congrArg (fun l=>some (⟨3,1,l⟩:Row)) (List.map_append (f:=encInt) (l₁:=cost) (l₂:=[n])).symm
    · rw [updH_ne _ _ _ _ hrp,updH_ne _ _ _ _ hrj,updH_ne _ _ _ _ hrc]; exact L.row
    · have hi:=(List.getElem?_eq_some_iff.1 hr).1
      rw [updH_ne _ _ _ _ (hfp i hi),updH_ne _ _ _ _ (hfj i hi),updH_ne _ _ _ _ (hfc i hi)]; exact L.coef i r hr
    · rw [updH_ne _ _ _ _ q1,updH_ne _ _ _ _ (ne_new hq hj'),updH_ne _ _ _ _ q2]; exact hq
  generalize hG:updH (updH (updH H0 jc none) j' _) jp _=HG
  replace S:AddS H0 HG jp jc jr f rows.length j' f (cost ++ [n]) rows 0:=by rw [← hG]; exact S
  clear hG Hp2 hj'
  simp only [go_sem,List.length_map]
  refine ⟨fun ρ H=>∃ (k:Nat) (jc':Nat) (f':Nat→Nat),k≤col.length∧ρ 2=.op jp 0 0∧ρ 13=.sl (col.map encInt)∧ρ 14=int (col.length:Nat)∧ρ 15=int k∧AddS H0 H jp jc jr f rows.length jc' f' (cost ++ [n]) (addTo rows col k) k,fun ρ _=>col.length - natOf (ρ 15),⟨0,j',f,Nat.zero_le _,by simp only [go_sem],by simp only [go_sem],by simp only [go_sem,List.length_map],(by simp only [go_sem]; rfl),S⟩,?_⟩
  rintro ρ H ⟨k,jc',f',hk,e2,e13,e14,e15,S⟩
  simp only [go_sem,e2,e13,e14,e15]
  refine acond_i (fun hlt=>?_) (fun hge=>?_)
  · have hlt:=ltB (by simpa using hlt)
    obtain ⟨m,hm⟩:=getIn hlt
    have b1:=inB hlt
    obtain ⟨r,hr⟩:=getIn (l:=addTo rows col k) (k:=k) (by rw [addTo_len]; omega)
    have b2:(0:Int)≤(k:Int)∧(k:Int) < ((addTo rows col k).length:Int):=by rw [addTo_len]; omega
    have hrr:rows[k]?=some r:=by rw [addTo_get,if_neg (by omega)] at hr; exact hr
    have hrl2:=hrl r (List.mem_of_getElem? hrr)
    have hnext:addTo rows col (k + 1)=(addTo rows col k).set k (addR1 r m):=by
      rw [addTo,List.getD,hrr,List.getD,hm]; rfl
    have hlK:=addTo_len rows col k
    generalize addTo rows col k=rowsK at *
    have hcg:=cell_get f' rowsK hr
    simp only [go_sem,e2,e13,e14,e15,getD_map hm,b1]
    refine adraw_t [jp] (.q 0 (.q 1 (.q 2 (.q 3 (.q 4 (.q 5 (.q 9 (.a2 6 (.q 7 (.a2 8 (.a1 10 (.a1 11 (.a1 12 (.a1 13 (.a1 14 .nil))))) 10 (.a1 8 (.a1 11 (.a1 12 (.a1 13 (.a1 14 .nil))))))) 10 (.a1 6 (.q 7 (.a1 8 (.a1 11 (.a1 12 (.a1 13 (.a1 14 .nil))))))))))))))) (by simp [S.p]) (by kernel_rfl) fun Hp Hr hp hq hp0 hr0=>?_
    have Pp:=(hp jp (by simp)).trans S.p
    simp only [go_sem,e2,e13,e14,e15,Pp]
    have hkf:f' k≠jp:=fun e=>by
      have h1:=S.lin.coef k r hr
      rw [e,S.p] at h1
      have h2:(pRow jc' jr).e=(iRow r.coef).e:=congrArg Row.e (Option.some.inj h1)
      exact absurd (show (62:Nat)=3 from h2) (by decide)
    have Rr:Hr jr=some (linRow f' rowsK):=(hq jr (by simpa using hrp)).trans S.lin.row
    have Rk:Hr (f' k)=some (iRow r.coef):=(hq (f' k) (by simpa using hkf)).trans (S.lin.coef k r hr)
    have hkr:f' k≠jr:=S.lin.ne (by omega)
    have fin:∀ (j'':Nat) (G:Heap),Hr j''=none→G=updH (updH (updH Hr (f' k) none) j'' (some (iRow (r.coef ++ [m])))) jr (some ⟨68,3,(rowsK.mapIdx (cellF f')).set k [.os j'',int r.kind,int r.right]⟩)→(∀ q,q∈[jp]→G q=none)→∀ Hm:Heap,(∀ q,q∈[jp]→Hm q=H q)→(∀ q,¬ q∈[jp]→Hm q=G q)→AddS H0 Hm jp jc jr f rows.length jc' (updF f' k j'') (cost ++ [n]) (addTo rows col (k + 1)) (k + 1):=by
      intro j'' G hj2 hG hd Hm hm1 hm2
      have hpj:jp≠j'':=fun e=>by
        have:=hd jp (by simp)
        rw [hG,updH_ne _ _ _ _ hrp.symm,e,updH_same] at this; cases this
      have hHj:H j''=none:=by rw [← hq j'' (by simpa using hpj.symm)]; exact hj2
      have S2:=S.step hlK.symm hr hHj m
      rw [hnext]
      have eM:Hm=updH (updH (updH H (f' k) none) j'' (some (iRow (r.coef ++ [m])))) jr (some ⟨68,3,(rowsK.mapIdx (cellF f')).set k [.os j'',int r.kind,int r.right]⟩):=by
        funext q
        by_cases hqp:q=jp
        · subst hqp
          rw [hm1 q (by simp),updH_ne _ _ _ _ hrp.symm,updH_ne _ _ _ _ hpj,updH_ne _ _ _ _ hkf.symm]
        · rw [hm2 q (by simpa using hqp),hG]
          simp only [updH]
          rw [hq q (by simpa using hqp)]
      rw [eM]
      exact S2
    repeat' (first | (refine amixt_2i ?_ ?_) | (simp only [go_sem,e2,e13,e14,e15,Rr,List.length_mapIdx,b2,hcg]))
    all_goals
      refine ⟨by omega,wappE_i Rk ⟨rfl,rfl⟩ ⟨rfl,trivial⟩ (by simp only [List.length_map,List.length_cons,List.length_nil]; omega) (fun j'' hj''=>?_)⟩
      have hjj:Hr j''=none:=hj''
      have Rr2:=keep_app (r':=(⟨3,1,(iRow r.coef).es ++ [[int m]]⟩:Row)) Rr hkr hj''
      simp only [go_sem,e2,e13,e14,e15,Rr2,List.length_mapIdx,b2]
      refine wputE_1 so41 Rr2 ⟨by rw [List.length_mapIdx]; omega,rfl,by simp⟩ ?_
      rw [hcg]
      simp only [go_sem]
      refine pinEnd_i fun hd Hm hm1 hm2=>?_
      have S3:=fin j'' _ hjj (by rw [show (iRow (r.coef ++ [m]))=(⟨3,1,(iRow r.coef).es ++ [[int m]]⟩:Row) from congrArg (fun l=>(⟨3,1,l⟩:Row)) (List.map_append (f:=encInt) (l₁:=r.coef) (l₂:=[m]))]) hd Hm hm1 hm2
      simp only [go_sem,e2,e13,e14,e15,wrapS (show k≤4611686018427387904 by omega)]
      exact ⟨⟨k + 1,jc',_,hlt,rfl,S3⟩,by simp only [natOf_int]; omega⟩
  have hge:=geB hk (by simpa using hge)
  subst hge
  simp only [go_sem,e2,e13,e14,e15]
  exact hK _ jc' f' _ S
end Go.Proofs.YtpddaldlebngaaaGreatDoor.Nu
end

section
set_option linter.unusedSimpArgs false
set_option linter.unusedVariables false
namespace Go.Proofs.YtpddaldlebngaaaGreatDoor.Nu
open Go.Aw Go.Aw.D Go.Proofs Ty Go.Nu
set_option maxRecDepth 100000
def badNo (n N:Int):Bool:=decide (n < 0) || decide (n≥N)
theorem encScore_len (s:Score):(encScore s).length=4:=(rfl)
theorem encScore_0 (s:Score):(encScore s).getD 0 .any=int s.cost:=(rfl)
theorem encScore_1 (s:Score):(encScore s).getD 1 .any=int s.moved:=(rfl)
theorem encScore_2 (s:Score):(encScore s).getD 2 .any=int s.other:=(rfl)
theorem encScore_3 (s:Score):(encScore s).getD 3 .any=int s.work:=(rfl)
theorem encScore_all (s:Score):(encScore s).take 4=encScore s:=(rfl)
def zeroScore:Score:=⟨0,0,0,0⟩
def unservedO (o:Order):Score × Int:=if o.off=true then (zeroScore,9) else if (o.penalty == -1)=true then (zeroScore,23) else (⟨o.penalty,if (o.now != -1)=true then 1 else 0,0,0⟩,0)
def unserved20 (x:Instance) (k:Int):Score × Int:=if badNo k x.orders.length=true then (zeroScore,2) else match x.orders[k.toNat]? with | some o=>unservedO o | none=>(zeroScore,2)
theorem unserved20_c (x:Instance) (k:Int):PC Tryz.prog 51 [.agg (encInstance x),int k] (.tup [.agg (encScore (unserved20 x k).1),int (unserved20 x k).2]):=by
  refine PC.body (c:=Tryz.f51.body.getD .skip) (fun _=>false) mixed Tryz.func51 rfl (by kernel_rfl) ?_
  unfold Tryz.f51
  simp only [Option.getD_some]
  simp only [go_sem]
  refine anew_i fun j hj=>?_
  have R:=updH_same noRows j (some (⟨95,4,[[int 0,int 0,int 0,int 0]]⟩:Row))
  generalize updH noRows j _=H0 at R ⊢
  clear hj
  simp only [go_sem]
  refine acond_i (fun h1=>?_) (fun h1=>?_)
  · have e:unserved20 x k=(zeroScore,2):=if_pos h1
    rw [e]
    simp only [go_sem]
    refine wputE_n R (by simp) ?_
    simp only [go_sem]
    exact .refl _
  have hin:0≤k∧k < (x.orders.length:Int):=by
    simp only [Bool.or_eq_false_iff,decide_eq_false_iff_not] at h1; omega
  obtain ⟨o,ho⟩:=getIn (show k.toNat < x.orders.length by omega)
  have e:unserved20 x k=unservedO o:=by unfold unserved20; rw [if_neg (by rw [show badNo k x.orders.length=false from h1]; simp),ho]
  rw [e]
  simp only [go_sem,getD_map ho,hin]
  refine anew_i fun i hi=>?_
  have nji:j≠i:=ne_new R hi
  simp only [go_sem]
  refine wputE_n (updH_same _ _ _) (by simp [encOrder_len]) ?_
  generalize hG:updH (updH H0 i _) i _=H1
  have R1:H1 i=some ⟨84,16,[encOrder o]⟩:=by rw [← hG,updH_same]; rfl
  have R:H1 j=some ⟨95,4,[[int 0,int 0,int 0,int 0]]⟩:=by rw [← hG,updH_ne _ _ _ _ nji,updH_ne _ _ _ _ nji]; exact R
  clear hG hi
  simp only [go_sem,R1]
  refine acond_i (fun h2=>?_) (fun h2=>?_)
  · have e:unservedO o=(zeroScore,9):=if_pos h2
    rw [e]
    simp only [go_sem]
    refine wputE_n R (by simp) ?_
    simp only [go_sem]
    exact .refl _
  simp only [go_sem,R1]
  refine acond_i (fun h3=>?_) (fun h3=>?_)
  · have e:unservedO o=(zeroScore,23):=by unfold unservedO; rw [if_neg (by rw [h2]; simp),if_pos h3]
    rw [e]
    simp only [go_sem]
    refine wputE_n R (by simp) ?_
    simp only [go_sem]
    exact .refl _
  have e:unservedO o=(⟨o.penalty,if (o.now != -1)=true then 1 else 0,0,0⟩,0):=by unfold unservedO; rw [if_neg (by rw [h2]; simp),if_neg (by rw [h3]; simp)]
  rw [e]
  simp only [go_sem,R1]
  refine anew_i fun q hq=>?_
  have njq:j≠q:=ne_new R hq
  have niq:i≠q:=ne_new R1 hq
  simp only [go_sem]
  refine wputE_n (updH_same _ _ _) (by simp) ?_
  generalize hG:updH (updH H1 q _) q _=H2
  have R2:H2 q=some ⟨95,4,[[int o.penalty,int 0,int 0,int 0]]⟩:=by rw [← hG,updH_same]; rfl
  have R1:H2 i=some ⟨84,16,[encOrder o]⟩:=by rw [← hG,updH_ne _ _ _ _ niq,updH_ne _ _ _ _ niq]; exact R1
  have R:H2 j=some ⟨95,4,[[int 0,int 0,int 0,int 0]]⟩:=by rw [← hG,updH_ne _ _ _ _ njq,updH_ne _ _ _ _ njq]; exact R
  clear hG hq
  simp only [go_sem,R1,R2]
  refine acond_i (fun h4=>?_) (fun h4=>?_)
  · simp only [go_sem]
    refine wputE_1 so3 R2 ⟨by simp,rfl,by simp⟩ ?_
    simp only [go_sem]
    refine wputE_n (by rw [updH_ne _ _ _ _ njq]; exact R) (by simp) ?_
    simp only [go_sem]
    rw [if_pos h4]
    exact .refl _
  · simp only [go_sem,R2]
    refine wputE_n R (by simp) ?_
    simp only [go_sem]
    rw [if_neg (by rw [h4]; simp)]
    exact .refl _
theorem pUnserved_c (x:Instance) (k:Int):PC Tryz.prog 36 [.agg (encInstance x),int k] (.tup [.agg (encScore (unserved20 x k).1),int (unserved20 x k).2]):=by
  refine PC.body (c:=Tryz.f36.body.getD .skip) (fun _=>false) mixed Tryz.func36 rfl (by kernel_rfl) ?_
  unfold Tryz.f36
  simp only [Option.getD_some]
  simp only [go_sem]
  refine anew_i fun j hj=>?_
  have R:=updH_same noRows j (some (⟨95,4,[[int 0,int 0,int 0,int 0]]⟩:Row))
  generalize updH noRows j _=H0 at R ⊢
  clear hj
  simp only [go_sem]
  refine acond_i (fun h1=>?_) (fun h1=>?_)
  · have e:unserved20 x k=(zeroScore,2):=if_pos h1
    rw [e]
    simp only [go_sem]
    refine wputE_n R (by simp) ?_
    simp only [go_sem]
    exact .refl _
  have hin:0≤k∧k < (x.orders.length:Int):=by
    simp only [Bool.or_eq_false_iff,decide_eq_false_iff_not] at h1; omega
  obtain ⟨o,ho⟩:=getIn (show k.toNat < x.orders.length by omega)
  have e:unserved20 x k=unservedO o:=by unfold unserved20; rw [if_neg (by rw [show badNo k x.orders.length=false from h1]; simp),ho]
  rw [e]
  simp only [go_sem,getD_map ho,hin]
  refine anew_i fun i hi=>?_
  have nji:j≠i:=ne_new R hi
  simp only [go_sem]
  refine wputE_n (updH_same _ _ _) (by simp [encOrder_len]) ?_
  generalize hG:updH (updH H0 i _) i _=H1
  have R1:H1 i=some ⟨84,16,[encOrder o]⟩:=by rw [← hG,updH_same]; rfl
  have R:H1 j=some ⟨95,4,[[int 0,int 0,int 0,int 0]]⟩:=by rw [← hG,updH_ne _ _ _ _ nji,updH_ne _ _ _ _ nji]; exact R
  clear hG hi
  simp only [go_sem,R1]
  refine acond_i (fun h2=>?_) (fun h2=>?_)
  · have e:unservedO o=(zeroScore,9):=if_pos h2
    rw [e]
    simp only [go_sem]
    refine wputE_n R (by simp) ?_
    simp only [go_sem]
    exact .refl _
  simp only [go_sem,R1]
  refine acond_i (fun h3=>?_) (fun h3=>?_)
  · have e:unservedO o=(zeroScore,23):=by unfold unservedO; rw [if_neg (by rw [h2]; simp),if_pos h3]
    rw [e]
    simp only [go_sem]
    refine wputE_n R (by simp) ?_
    simp only [go_sem]
    exact .refl _
  have e:unservedO o=(⟨o.penalty,if (o.now != -1)=true then 1 else 0,0,0⟩,0):=by unfold unservedO; rw [if_neg (by rw [h2]; simp),if_neg (by rw [h3]; simp)]
  rw [e]
  simp only [go_sem,R1]
  refine anew_i fun q hq=>?_
  have njq:j≠q:=ne_new R hq
  have niq:i≠q:=ne_new R1 hq
  simp only [go_sem]
  refine wputE_n (updH_same _ _ _) (by simp) ?_
  generalize hG:updH (updH H1 q _) q _=H2
  have R2:H2 q=some ⟨95,4,[[int o.penalty,int 0,int 0,int 0]]⟩:=by rw [← hG,updH_same]; rfl
  have R1:H2 i=some ⟨84,16,[encOrder o]⟩:=by rw [← hG,updH_ne _ _ _ _ niq,updH_ne _ _ _ _ niq]; exact R1
  have R:H2 j=some ⟨95,4,[[int 0,int 0,int 0,int 0]]⟩:=by rw [← hG,updH_ne _ _ _ _ njq,updH_ne _ _ _ _ njq]; exact R
  clear hG hq
  simp only [go_sem,R1,R2]
  refine acond_i (fun h4=>?_) (fun h4=>?_)
  · simp only [go_sem]
    refine wputE_1 so3 R2 ⟨by simp,rfl,by simp⟩ ?_
    simp only [go_sem]
    refine wputE_n (by rw [updH_ne _ _ _ _ njq]; exact R) (by simp) ?_
    simp only [go_sem]
    rw [if_pos h4]
    exact .refl _
  · simp only [go_sem,R2]
    refine wputE_n R (by simp) ?_
    simp only [go_sem]
    rw [if_neg (by rw [h4]; simp)]
    exact .refl _
def wExp (s:Score):Int:=IntKind.i64.wrap (IntKind.i64.wrap (IntKind.i64.wrap (IntKind.i64.wrap (IntKind.i64.wrap (IntKind.i64.wrap (s.cost * 16) + s.moved) * 16) + s.other) * 65536) + s.work)
def weightP (s:Score):Int × Int:=if (decide (s.cost < 0) || decide (s.moved < 0) || decide (s.other < 0) || decide (s.work < 0))=true then (0,2)
  else if (decide (s.cost > 1073741824) || decide (s.moved≥16) || decide (s.other≥16) || decide (s.work≥65536))=true then (0,4) else (wExp s,0)
def right20 (s:Score):Bool:=decide (s.cost≥0) && decide (s.cost≤1073741824) && decide (s.moved≥0) && decide (s.moved≤15) && decide (s.other≥0) && decide (s.other≤15) && decide (s.work≥0) && decide (s.work≤65535)
theorem right20_c (s:Score):PC Tryz.prog 102 [.agg (encScore s)] (boo (right20 s)):=by
  refine PC.body (c:=Tryz.f102.body.getD .skip) (fun _=>false) mixed Tryz.func102 rfl (by kernel_rfl) ?_
  unfold Tryz.f102
  simp only [Option.getD_some]
  simp only [go_sem]
  exact .refl _
theorem weight20_c (s:Score):PC Tryz.prog 52 [.agg (encScore s)] (.tup [int (weightP s).1,int (weightP s).2]):=by
  unfold weightP
  refine PC.body (c:=Tryz.f52.body.getD .skip) (fun _=>false) mixed Tryz.func52 rfl (by kernel_rfl) ?_
  unfold Tryz.f52
  simp only [Option.getD_some]
  simp only [go_sem]
  refine acond_i (fun hb=>?_) (fun hb=>?_)
  · rw [if_pos hb]
    simp only [go_sem]
    exact .refl _
  rw [if_neg (by rw [hb]; simp)]
  simp only [go_sem]
  refine PC.use (right20_c s) ?_
  simp only [go_sem]
  have e:(!right20 s)=(decide (s.cost > 1073741824) || decide (s.moved≥16) || decide (s.other≥16) || decide (s.work≥65536)):=by
    unfold right20
    simp only [Bool.or_eq_false_iff,decide_eq_false_iff_not] at hb
    rw [Bool.eq_iff_iff]
    simp
    omega
  rw [← e]
  refine acond_i (fun hc=>?_) (fun hc=>?_)
  · rw [if_pos hc]
    simp only [go_sem]
    exact .refl _
  rw [if_neg (by rw [hc]; simp)]
  simp only [go_sem]
  exact .refl _
theorem pSplit_c (s:Score):PC Tryz.prog 76 [.agg (encScore s)] (.agg (encScore s)):=by
  refine PC.body (c:=Tryz.f76.body.getD .skip) (fun _=>false) mixed Tryz.func76 rfl (by kernel_rfl) ?_
  unfold Tryz.f76
  simp only [Option.getD_some]
  simp only [go_sem]
  refine anew_i fun j hj=>?_
  simp only [go_sem]
  refine wputE_n (updH_same _ _ _) (by simp) ?_
  simp only [go_sem]
  exact .refl _
theorem pWeight_c (s:Score):PC Tryz.prog 37 [.agg (encScore s)] (.tup [int (weightP s).1,int (weightP s).2]):=by
  refine PC.body (c:=Tryz.f37.body.getD .skip) (fun _=>false) mixed Tryz.func37 rfl (by kernel_rfl) ?_
  unfold Tryz.f37
  simp only [Option.getD_some]
  simp only [go_sem]
  refine PC.use (pSplit_c s) ?_
  simp only [go_sem]
  refine anew_i fun j hj0=>?_
  simp only [go_sem]
  refine wputE_n (updH_same _ _ _) (by simp [encScore_len]) ?_
  generalize hGj:updH (updH _ j _) j _=HGj
  have R:HGj j=some (⟨135,4,[encScore s]⟩):=by rw [← hGj,updH_same]; rfl
  clear hGj hj0
  simp only [go_sem,R]
  refine ⟨fun ρ H=>∃ (k:Nat),k≤4∧ρ 1=.rp (encScore s) 0∧ρ 9=.agg (encScore s)∧ρ 10=int k∧∀ e∈[s.cost,s.moved,s.other,s.work].take k,¬ e < 0,fun ρ _=>4 - natOf (ρ 10),⟨0,Nat.zero_le _,by simp only [go_sem],by simp only [go_sem],(by simp only [go_sem]; rfl),by simp⟩,?_⟩
  rintro ρ H ⟨k,hk,e1,e9,e10,hz⟩
  simp only [go_sem,e1,e9,e10]
  refine acond_i (fun hlt=>?_) (fun hge=>?_)
  · have hlt:k < 4:=by simp at hlt; omega
    obtain ⟨e,he⟩:=getIn (l:=[s.cost,s.moved,s.other,s.work]) (show k < [s.cost,s.moved,s.other,s.work].length from hlt)
    have hg:(encScore s).getD k .any=int e:=by
      have:encScore s=[s.cost,s.moved,s.other,s.work].map fun n=>int n:=rfl
      rw [this,List.getD,List.getElem?_map,he]; rfl
    simp only [go_sem,e1,e9,e10]
    refine ⟨by omega,by omega,?_⟩
    rw [Nat.mul_one,hg]
    simp only [go_sem,e1,e9,e10]
    refine acond_i (fun hb=>?_) (fun hb=>?_)
    · simp only [go_sem]
      have hm:=List.mem_of_getElem? he
      simp only [List.mem_cons,List.not_mem_nil,or_false] at hm
      have e:weightP s=(0,2):=if_pos (by simp at hb ⊢; rcases hm with h | h | h | h <;> omega)
      rw [e]
      exact .refl _
    · simp only [go_sem,e1,e9,e10,wrapS (show k≤4611686018427387904 by omega)]
      refine ⟨⟨k + 1,hlt,rfl,take_all' (p:=fun e:Int=>¬ e < 0) he (by simpa using hb) hz⟩,by simp only [natOf_int]; omega⟩
  have hge:k=4:=by simp at hge; omega
  subst hge
  have hb:¬ (decide (s.cost < 0) || decide (s.moved < 0) || decide (s.other < 0) || decide (s.work < 0))=true:=by
    have h0:=hz s.cost (by simp)
    have h1:=hz s.moved (by simp)
    have h2:=hz s.other (by simp)
    have h3:=hz s.work (by simp)
    simp
    omega
  unfold weightP
  rw [if_neg hb]
  simp only [go_sem,e1,e9,e10]
  refine acond_i (fun hc=>?_) (fun hc=>?_)
  · rw [if_pos hc]
    simp only [go_sem]
    exact .refl _
  rw [if_neg (by rw [hc]; simp)]
  simp only [go_sem,e1,e9,e10]
  exact .refl _
end Go.Proofs.YtpddaldlebngaaaGreatDoor.Nu
end
