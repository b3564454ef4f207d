/- Texts joined by a program: CuF, CuG, CuH. -/
import Derived.Test.YtpddaldlebngaaaGreatDoorZp27

section
set_option linter.unusedSimpArgs false
set_option linter.unusedVariables false
namespace Go.Proofs.YtpddaldlebngaaaGreatDoor.Nu
open Go.Aw Go.Aw.D Go.Proofs Ty Go.Nu
set_option maxRecDepth 100000
def tripsF:List Int→List Int→Int→Int × Int
  | n :: a,c :: l,t=>if n≤0 then tripsF a l t else if c=0 then (0,24) else tripsF a l (imax t ((n + c - 1).tdiv c))
  | _,_,t=>(t,0)
def tripsL (a c:List Int):Int × Int:=if a.length≠c.length then (0,2) else if c.any (fun n=>decide (n < 0))=true then (0,2) else tripsF a c 0
def Mid (n:Int):Prop:=-1099511627776≤n∧n≤1099511627776
theorem ltrips_c (a c : List Int) (hl : a.length ≤ 1048576) (hl2 : c.length ≤ 1048576) (ha : ∀ n ∈ a, Mid n) (hc : ∀ n ∈ c, Mid n) :
    PC Tryz.prog 208 [.sl (a.map encInt),.sl (c.map encInt)] (.tup [int (tripsL a c).1,int (tripsL a c).2]):=by
  refine PC.body (c:=Tryz.f208.body.getD .skip) (fun _=>false) mixed Tryz.func208 rfl (by kernel_rfl) ?_
  unfold Tryz.f208
  simp only [Option.getD_some]
  simp only [go_sem]
  refine acond_i (fun hb=>?_) (fun hb=>?_)
  · have hb:a.length≠c.length:=neN hb
    simp only [go_sem]
    rw [show tripsL a c=(0,2) from if_pos hb]
    exact .refl _
  have hb:a.length=c.length:=eqN hb
  have e0:tripsL a c=if c.any (fun n=>decide (n < 0))=true then (0,2) else tripsF a c 0:=if_neg (by simp [hb])
  rw [e0]
  simp only [go_sem,List.length_map]
  refine ⟨fun ρ H=>∃ (k:Nat),k≤c.length∧ρ 0=.sl (a.map encInt)∧ρ 1=.sl (c.map encInt)∧ρ 17=.sl (c.map encInt)∧ρ 18=int (c.length:Nat)∧ρ 19=int k∧∀ n∈c.take k,0≤n,fun ρ _=>c.length - natOf (ρ 19),⟨0,Nat.zero_le _,by simp only [go_sem],by simp only [go_sem],by simp only [go_sem],by simp only [go_sem,List.length_map],(by simp only [go_sem]; rfl),by simp⟩,?_⟩
  rintro ρ H ⟨k,hk,e0,e1,e17,e18,e19,hz⟩
  simp only [go_sem,e0,e1,e17,e18,e19]
  refine acond_i (fun hlt=>?_) (fun hge=>?_)
  · have hlt:=ltB hlt
    obtain ⟨n,hn⟩:=getIn hlt
    have b1:=inB hlt
    simp only [go_sem,e0,e1,e17,e18,e19,getD_map hn,b1]
    refine acond_i (fun hd=>?_) (fun hd=>?_)
    · simp only [go_sem]
      rw [if_pos (any_yes hn hd)]
      exact .refl _
    · simp only [go_sem,e0,e1,e17,e18,e19,wrapS (show k≤4611686018427387904 by omega)]
      exact ⟨⟨k + 1,hlt,rfl,take_all' hn (by simpa using hd) hz⟩,by simp only [natOf_int]; omega⟩
  have hge:=geB hk hge
  subst hge
  rw [List.take_length] at hz
  rw [if_neg (by rw [any_none fun n hn=>by simpa using hz n hn]; simp)]
  simp only [go_sem,e0,e1,e17,e18,e19,List.length_map]
  refine ⟨fun ρ H=>∃ (k:Nat) (t:Int),k≤a.length∧ρ 1=.sl (c.map encInt)∧ρ 26=.sl (a.map encInt)∧ρ 27=int (a.length:Nat)∧ρ 28=int k∧ρ 8=int t∧tripsF a c 0=tripsF (a.drop k) (c.drop k) t,fun ρ _=>a.length - natOf (ρ 28),⟨0,0,Nat.zero_le _,by simp only [go_sem,e0,e1,e17,e18,e19],by simp only [go_sem,e0,e1,e17,e18,e19],by simp only [go_sem,List.length_map,e0,e1,e17,e18,e19],(by simp only [go_sem,e0,e1,e17,e18,e19]; rfl),by simp only [go_sem],rfl⟩,?_⟩
  rintro ρ H ⟨k,t,hk,e1,e26,e27,e28,e8,hi⟩
  simp only [go_sem,e1,e26,e27,e28,e8]
  refine acond_i (fun hlt=>?_) (fun hge=>?_)
  · have hlt:=ltB hlt
    obtain ⟨n,hn⟩:=getIn hlt
    obtain ⟨m,hm⟩:=getIn (l:=c) (k:=k) (by omega)
    have b1:=inB hlt
    have b2:=inB (show k < c.length by omega)
    have hn1:=ha n (List.mem_of_getElem? hn)
    have hm1:=hc m (List.mem_of_getElem? hm)
    have hm0:=hz m (List.mem_of_getElem? hm)
    unfold Mid at hn1 hm1
    rw [drop_at hn,drop_at hm,tripsF] at hi
    simp only [go_sem,e1,e26,e27,e28,e8,getD_map hn,getD_map hm,b1,b2]
    refine acond_i (fun hd=>?_) (fun hd=>?_)
    · rw [if_pos (by simpa using hd)] at hi
      simp only [go_sem,e1,e26,e27,e28,e8,wrapS (show k≤4611686018427387904 by omega)]
      exact ⟨⟨k + 1,t,hlt,rfl,rfl,hi⟩,by simp only [natOf_int]; omega⟩
    have hd:¬ n≤0:=by simpa using hd
    rw [if_neg hd] at hi
    simp only [go_sem,e1,e26,e27,e28,e8]
    refine acond_i (fun h0=>?_) (fun h0=>?_)
    · rw [if_pos (by simpa using h0)] at hi
      rw [hi]
      simp only [go_sem]
      exact .refl _
    have h0:m≠0:=by simpa using h0
    rw [if_neg h0] at hi
    have w1:IntKind.i64.wrap (n + m)=n + m:=wrap_in (by omega)
    have w2:IntKind.i64.wrap (n + m - 1)=n + m - 1:=wrap_in (by omega)
    have w3:IntKind.i64.wrap ((n + m - 1).tdiv m)=(n + m - 1).tdiv m:=wrap_in (by
      have h1:=Int.tdiv_nonneg (a:=n + m - 1) (b:=m) (by omega) (by omega)
      have h2:=Int.tdiv_le_self m (a:=n + m - 1) (by omega)
      omega)
    simp only [go_sem,e1,e26,e27,e28,e8,w1,w2,w3,wrapS (show k≤4611686018427387904 by omega)]
    exact ⟨h0,⟨k + 1,_,hlt,rfl,rfl,hi⟩,by simp only [natOf_int]; omega⟩
  · have hge:=geB hk hge
    subst hge
    have ea:a.drop a.length=[]:=List.drop_length
    have:tripsF a c 0=(t,0):=by rw [hi,ea]; unfold tripsF; rfl
    rw [this]
    simp only [go_sem,e1,e26,e27,e28,e8]
    exact .refl _
def loadOf (l:List Order) (dim:Nat) (i:Int):Int:=(orderAt l i).load.getD dim 0
def loadSum (l:List Order) (ms:List Int) (dim:Nat):Int:=(ms.map (loadOf l dim)).sum
def capMax (l:List VType) (dim:Nat):Int:=l.foldl (fun c t=>imax c (t.cap.getD dim 0)) 0
def tripsD (x:Instance) (ms:List Int) (dim:Nat):Int:=if (tripsL [loadSum x.orders ms dim] [capMax x.types dim]).2≠0 then 0 else (tripsL [loadSum x.orders ms dim] [capMax x.types dim]).1
structure LoadsOk (x:Instance) (d:Nat):Prop where
  dims:d≤3
  orders:x.orders.length≤62
  types:x.types.length≤1048576
  load:∀ o∈x.orders,o.load.length=d∧∀ n∈o.load,0≤n∧n≤1000
  cap:∀ t∈x.types,t.cap.length=d∧∀ n∈t.cap,0≤n∧n≤1000
theorem loadOf_in {x:Instance} {d dim:Nat} (h:LoadsOk x d) (hd:dim < d) {i:Int} (hi:0≤i∧i < (x.orders.length:Int)):0≤loadOf x.orders dim i∧loadOf x.orders dim i≤1000:=by
  obtain ⟨n,rfl⟩:=Int.eq_ofNat_of_zero_le hi.1
  obtain ⟨o,ho⟩:=getIn (show n < x.orders.length by omega)
  unfold loadOf
  rw [orderAt_get ho]
  obtain ⟨h1,h2⟩:=h.load o (List.mem_of_getElem? ho)
  obtain ⟨v,hv⟩:=getIn (show dim < o.load.length by omega)
  rw [List.getD,hv]
  exact h2 v (List.mem_of_getElem? hv)
theorem loadSum_in {x:Instance} {d dim:Nat} (h:LoadsOk x d) (hd:dim < d):∀ {ms:List Int},Memb x.orders ms→0≤loadSum x.orders ms dim∧loadSum x.orders ms dim≤1000 * ms.length
  | [],_=>by simp [loadSum]
  | i :: ms,hm=>by
    have h1:=loadOf_in h hd (hm i (by simp))
    have h2:=loadSum_in h hd (ms:=ms) fun j hj=>hm j (by simp [hj])
    unfold loadSum at h2 ⊢
    rw [List.map_cons,List.sum_cons,List.length_cons]
    omega
theorem loadSum_snoc (l:List Order) (ms:List Int) (i:Int) (dim:Nat):loadSum l (ms ++ [i]) dim=loadSum l ms dim + loadOf l dim i:=by simp [loadSum]
theorem capMax_snoc (l:List VType) (t:VType) (dim:Nat):capMax (l ++ [t]) dim=imax (capMax l dim) (t.cap.getD dim 0):=by simp [capMax]
theorem imax_in {a b c:Int} (h1:0≤a∧a≤c) (h2:0≤b∧b≤c):0≤imax a b∧imax a b≤c:=by unfold imax; split <;> omega
theorem capMax_in {x:Instance} {d dim:Nat} (h:LoadsOk x d) (hd:dim < d):∀ k,0≤capMax (x.types.take k) dim∧capMax (x.types.take k) dim≤1000
  | 0=>by simp [capMax]
  | k + 1=>by
    have ih:=capMax_in h hd k
    rcases Nat.lt_or_ge k x.types.length with hk | hk
    · obtain ⟨t,ht⟩:=getIn hk
      rw [take_succ ht,capMax_snoc]
      obtain ⟨h1,h2⟩:=h.cap t (List.mem_of_getElem? ht)
      obtain ⟨v,hv⟩:=getIn (show dim < t.cap.length by omega)
      refine imax_in ih ?_
      rw [List.getD,hv]
      exact h2 v (List.mem_of_getElem? hv)
    · rw [List.take_of_length_le (by omega)] at ih ⊢; exact ih
theorem trips_c (x : Instance) (ms : List Int) (dim d : Nat) (h : LoadsOk x d) (hd : dim < d) (hm : Memb x.orders ms) (hl : ms.length ≤ 63) :
    PC Tryz.prog 163 [.agg (encInstance x),.sl (ms.map encInt),int dim] (int (tripsD x ms dim)):=by
  have ho62:=h.orders
  have ht62:=h.types
  refine PC.body (c:=Tryz.f163.body.getD .skip) (fun _=>false) mixed Tryz.func163 rfl (by kernel_rfl) ?_
  unfold Tryz.f163
  simp only [Option.getD_some]
  simp only [go_sem]
  refine ⟨fun ρ H=>∃ (k:Nat),k≤ms.length∧ρ 2=int dim∧ρ 3=.rp (encInstance x) 0∧ρ 8=int 0∧ρ 15=.sl (ms.map encInt)∧ρ 16=int (ms.length:Nat)∧ρ 17=int k∧ρ 7=int (loadSum x.orders (ms.take k) dim),fun ρ _=>ms.length - natOf (ρ 17),⟨0,Nat.zero_le _,by simp only [go_sem],by simp only [go_sem],by simp only [go_sem],by simp only [go_sem],by simp only [go_sem,List.length_map],(by simp only [go_sem]; rfl),by simp only [go_sem]; rfl⟩,?_⟩
  rintro ρ H ⟨k,hk,e2,e3,e8,e15,e16,e17,e7⟩
  simp only [go_sem,e2,e3,e8,e15,e16,e17,e7]
  refine acond_i (fun hlt=>?_) (fun hge=>?_)
  · have hlt:=ltB hlt
    obtain ⟨i,hi⟩:=getIn hlt
    have b1:=inB hlt
    have him:=hm i (List.mem_of_getElem? hi)
    have hlo:=loadOf_in h hd him
    have hls:=loadSum_in h hd (ms:=ms.take k) fun j hj=>hm j (List.mem_of_mem_take hj)
    have hnx:=loadSum_snoc x.orders (ms.take k) i dim
    rw [← take_succ hi] at hnx
    obtain ⟨n,rfl⟩:=Int.eq_ofNat_of_zero_le him.1
    have hn:n < x.orders.length:=by omega
    obtain ⟨o,hor⟩:=getIn hn
    obtain ⟨ho1,ho2⟩:=h.load o (List.mem_of_getElem? hor)
    obtain ⟨v,hv⟩:=getIn (show dim < o.load.length by omega)
    have hlv:loadOf x.orders dim (n:Int)=v:=by unfold loadOf; rw [orderAt_get hor,List.getD,hv]; rfl
    have b2:=inB hn
    have b3:=inB (show dim < o.load.length by omega)
    have hkl:(ms.take k).length≤63:=by rw [List.length_take]; omega
    have w1:IntKind.i64.wrap (loadSum x.orders (ms.take k) dim + v)=loadSum x.orders (ms.take (k + 1)) dim:=by rw [hnx,hlv,wrap_in (by omega)]
    simp only [go_sem,e2,e3,e8,e15,e16,e17,e7,getD_map hi,b1,getD_map hor,b2,getD_map hv,b3,w1,wrapS (show k≤4611686018427387904 by omega)]
    exact ⟨⟨k + 1,hlt,rfl,rfl⟩,by simp only [natOf_int]; omega⟩
  have hge:=geB hk hge
  subst hge
  rw [List.take_length] at e7
  simp only [go_sem,e2,e3,e8,e15,e16,e17,e7,List.length_map]
  refine ⟨fun ρ H=>∃ (k:Nat),k≤x.types.length∧ρ 2=int dim∧ρ 7=int (loadSum x.orders ms dim)∧ρ 34=.sl (x.types.map encVType)∧ρ 35=int (x.types.length:Nat)∧ρ 36=int k∧ρ 8=int (capMax (x.types.take k) dim),fun ρ _=>x.types.length - natOf (ρ 36),⟨0,Nat.zero_le _,by simp only [go_sem,e2,e3,e8,e15,e16,e17,e7],by simp only [go_sem,e2,e3,e8,e15,e16,e17,e7],by simp only [go_sem,e2,e3,e8,e15,e16,e17,e7],by simp only [go_sem,List.length_map,e2,e3,e8,e15,e16,e17,e7],(by simp only [go_sem,e2,e3,e8,e15,e16,e17,e7]; rfl),by simp only [go_sem,e8]; rfl⟩,?_⟩
  rintro ρ H ⟨k,hk,e2,e7,e34,e35,e36,e8⟩
  simp only [go_sem,e2,e7,e34,e35,e36,e8]
  refine acond_i (fun hlt=>?_) (fun hge=>?_)
  · have hlt:=ltB hlt
    obtain ⟨t,ht⟩:=getIn hlt
    have b1:=inB hlt
    obtain ⟨h1,h2⟩:=h.cap t (List.mem_of_getElem? ht)
    obtain ⟨v,hv⟩:=getIn (show dim < t.cap.length by omega)
    have b3:=inB (show dim < t.cap.length by omega)
    simp only [go_sem,e2,e7,e34,e35,e36,e8,getD_map ht,b1]
    refine anew_i fun j hj0=>?_
    simp only [go_sem,e2,e7,e34,e35,e36,e8,getD_map ht,b1]
    refine wputE_n (updH_same _ _ _) (by simp [encVType_len]) ?_
    generalize hGj:updH (updH _ j _) j _=HGj
    have R:HGj j=some (typeRow t):=by rw [← hGj,updH_same]; rfl
    clear hGj hj0
    simp only [go_sem,e2,e7,e34,e35,e36,e8,getD_map ht,b1,R]
    simp only [go_sem,e2,e7,e34,e35,e36,e8,getD_map hv,b3,wrapS (show k≤4611686018427387904 by omega)]
    refine ⟨⟨k + 1,hlt,rfl,?_⟩,by simp only [natOf_int]; omega⟩
    rw [take_succ ht,capMax_snoc,List.getD,hv]
    rfl
  have hge:=geB hk hge
  subst hge
  rw [List.take_length] at e8
  have hL:=loadSum_in h hd hm
  have hC:=capMax_in h hd x.types.length
  rw [List.take_length] at hC
  simp only [go_sem,e2,e7,e34,e35,e36,e8]
  have hm1:∀ n∈[loadSum x.orders ms dim],Mid n:=fun n hn=>by rw [List.mem_singleton.1 hn]; unfold Mid; omega
  have hm2:∀ n∈[capMax x.types dim],Mid n:=fun n hn=>by rw [List.mem_singleton.1 hn]; unfold Mid; omega
  refine PC.use (ltrips_c [loadSum x.orders ms dim] [capMax x.types dim] (by simp) (by simp) hm1 hm2) ?_
  unfold tripsD
  generalize tripsL [loadSum x.orders ms dim] [capMax x.types dim]=T
  simp only [go_sem]
  refine acond_i (fun hb=>?_) (fun hb=>?_)
  · simp only [go_sem]
    rw [if_pos (by simpa using hb)]
    exact .refl _
  · simp only [go_sem]
    rw [if_neg (by simpa using hb)]
    exact .refl _
end Go.Proofs.YtpddaldlebngaaaGreatDoor.Nu
end

section
set_option linter.unusedSimpArgs false
set_option linter.unusedVariables false
namespace Go.Proofs.YtpddaldlebngaaaGreatDoor.Nu
open Go.Aw Go.Aw.D Go.Proofs Ty Go.Nu
set_option maxRecDepth 100000
theorem exist_spec {n:Nat} {set:Int} (h:existP n set=true):∃ s:Nat,set=(s:Int)∧s < 2 ^ n:=by
  unfold existP at h
  simp only [Bool.and_eq_true,decide_eq_true_eq,beq_iff_eq] at h
  obtain ⟨s,rfl⟩:=Int.eq_ofNat_of_zero_le h.1
  refine ⟨s,rfl,?_⟩
  have h3:((2:Int) ^ n)=((2 ^ n:Nat):Int):=by norm_cast
  have h2:=h.2
  rw [h3] at h2
  have h4:s / 2 ^ n=0:=by exact_mod_cast h2
  exact (Nat.div_eq_zero_iff_lt (Nat.two_pow_pos n)).1 h4
theorem exist_nat {n s:Nat}:existP n (s:Int)=decide (s < 2 ^ n):=by
  unfold existP
  have h3:((2:Int) ^ n)=((2 ^ n:Nat):Int):=by norm_cast
  rw [h3,Bool.eq_iff_iff]
  simp only [Bool.and_eq_true,decide_eq_true_eq,beq_iff_eq]
  constructor
  · rintro ⟨_,h⟩
    have h4:s / 2 ^ n=0:=by exact_mod_cast h
    exact (Nat.div_eq_zero_iff_lt (Nat.two_pow_pos n)).1 h4
  · intro h
    refine ⟨by omega,?_⟩
    have h4:s / 2 ^ n=0:=Nat.div_eq_of_lt h
    exact_mod_cast h4
theorem memS_in {s n:Nat} (h:s < 2 ^ n) (hn:n≤62):∀ i∈memS (s:Int),0≤i∧i < (n:Int):=by
  intro i hi
  unfold memS memU at hi
  obtain ⟨j,hj,rfl⟩:=List.mem_map.1 hi
  obtain ⟨hj1,hj2⟩:=List.mem_filter.1 hj
  have hj3:=List.mem_range.1 hj1
  rw [hasR_nat (by omega)] at hj2
  refine ⟨by omega,?_⟩
  rcases Nat.lt_or_ge j n with hlt | hge
  · omega
  · rw [Nat.testBit_lt_two_pow (Nat.lt_of_lt_of_le h (Nat.pow_le_pow_right (by decide) hge))] at hj2
    cases hj2
def dimF (x:Instance) (ms:List Int) (k:Nat):Int:=(List.range k).foldl (fun n dim=>imax n (tripsD x ms dim)) 1
theorem dimF_succ (x:Instance) (ms:List Int) (k:Nat):dimF x ms (k + 1)=imax (dimF x ms k) (tripsD x ms k):=by unfold dimF; rw [List.range_succ,List.foldl_append]; rfl
def stays (x:Instance) (set:Int):Bool:=decide (set≤0) || !existP x.orders.length set || !decide (set.toNat &&& mustO x=set.toNat)
def tripsP (x:Instance) (d:Nat) (set:Int):Int:=if stays x set=true then 0 else if togP x (memS set)=false then 1 else dimF x (memS set) d
theorem suchN_lt (q:Order→Bool) (l:List Order):suchN q l < 2 ^ l.length:=bitsN_lt _ _
theorem tripsA_c (x:Instance) (d:Nat) (set:Int) (h:LoadsOk x d) (ht:x.types≠[]):PC Tryz.prog 126 [.agg (encInstance x),int set] (int (tripsP x d set)):=by
  have ho62:=h.orders
  have hd3:=h.dims
  have hmu:mustO x < 2 ^ x.orders.length:=suchN_lt _ _
  have h62:2 ^ x.orders.length≤2 ^ 62:=Nat.pow_le_pow_right (by decide) ho62
  refine PC.body (c:=Tryz.f126.body.getD .skip) (fun _=>false) mixed Tryz.func126 rfl (by kernel_rfl) ?_
  unfold Tryz.f126
  simp only [Option.getD_some]
  simp only [go_sem]
  refine ⟨_,fun _=>(exist_c x set ho62).q rfl,?_⟩
  simp only [go_sem]
  refine ⟨_,fun _=>(must_c x ho62).q rfl,?_⟩
  simp only [go_sem]
  refine ⟨boo (decide (set.toNat &&& mustO x=set.toNat)),fun hg=>?_,?_⟩
  · simp at hg
    obtain ⟨s,rfl,hs⟩:=exist_spec hg.2
    exact (swithin_c s (mustO x) (by omega) (by omega)).q rfl
  simp only [go_sem]
  refine acond_i (fun hb=>?_) (fun hb=>?_)
  · simp only [go_sem]
    rw [show tripsP x d set=0 from if_pos hb]
    exact .refl _
  have e0:tripsP x d set=if togP x (memS set)=false then 1 else dimF x (memS set) d:=if_neg (by unfold stays; rw [hb]; simp)
  rw [e0]
  obtain ⟨s,rfl,hs⟩:=exist_spec (n:=x.orders.length) (set:=set) (by simp at hb; exact hb.1.2)
  have hm:Memb x.orders (memS (s:Int)):=memS_in hs ho62
  have hml:(memS (s:Int)).length≤63:=memU_len _ _
  simp only [go_sem]
  refine PC.use (members_c s) ?_
  simp only [go_sem]
  refine PC.use (together_c x (memS s) hm (by omega)) ?_
  simp only [go_sem]
  obtain ⟨t,r,ht2⟩:=List.exists_cons_of_ne_nil ht
  have hlen:((x.types.length:Int) == 0)=false:=by rw [ht2]; rw [beq_eq_false_iff_ne]; simp; omega
  simp only [go_sem,List.length_map,hlen]
  refine acond_i (fun hb=>?_) (fun hb=>?_)
  · simp only [go_sem]
    rw [if_pos (by simpa using hb)]
    exact .refl _
  rw [if_neg (by simpa using hb)]
  have b1:=inB (show 0 < x.types.length by rw [ht2]; simp)
  have hx0:x.types[0]?=some t:=by rw [ht2]; rfl
  have hg0:=getD_map (f:=encVType) hx0
  have hd:=(h.cap t (by rw [ht2]; simp)).1
  subst hd
  simp only [go_sem,List.length_map,hg0]
  refine ⟨by omega,?_⟩
  refine ⟨fun ρ H=>∃ (k:Nat),k≤t.cap.length∧ρ 2=.rp (encInstance x) 0∧ρ 6=.sl ((memS s).map encInt)∧ρ 41=int (t.cap.length:Nat)∧ρ 42=int k∧ρ 5=int (dimF x (memS s) k),fun ρ _=>t.cap.length - natOf (ρ 42),⟨0,Nat.zero_le _,by simp only [go_sem],by simp only [go_sem],by simp only [go_sem,List.length_map],(by simp only [go_sem]; rfl),by simp only [go_sem]; rfl⟩,?_⟩
  rintro ρ H ⟨k,hk,e2,e6,e41,e42,e5⟩
  simp only [go_sem,e2,e6,e41,e42,e5]
  refine acond_i (fun hlt=>?_) (fun hge=>?_)
  · have hlt:=ltB hlt
    simp only [go_sem,e2,e6,e41,e42,e5]
    refine PC.use (trips_c x (memS s) k _ h hlt hm hml) ?_
    simp only [go_sem,e2,e6,e41,e42,e5,wrapS (show k≤4611686018427387904 by omega)]
    exact ⟨⟨k + 1,hlt,rfl,by rw [dimF_succ]⟩,by simp only [natOf_int]; omega⟩
  · have hge:=geB hk hge
    subst hge
    simp only [go_sem,e2,e6,e41,e42,e5]
    exact .refl _
def rightC (x:Instance) (d:Nat) (one:Cut):Int:=
  if one.kind=1 then (if (!existP x.orders.length one.set || !((popK 63 one.set.toNat:Nat):Int) == 3)=true then 2 else if one.n≠1 then 27 else 0)
  else if one.kind=2 then (if (!existP x.orders.length one.set || one.set == 0)=true then 2 else if (decide (one.n < 1) || decide (one.n > tripsP x d one.set))=true then 27 else 0)
  else 8
theorem rightC_c (x:Instance) (d:Nat) (one:Cut) (h:LoadsOk x d) (ht:x.types≠[]):PC Tryz.prog 69 [.agg (encInstance x),.agg (encCut one)] (int (rightC x d one)):=by
  have ho62:=h.orders
  refine PC.body (c:=Tryz.f69.body.getD .skip) (fun _=>false) mixed Tryz.func69 rfl (by kernel_rfl) ?_
  unfold Tryz.f69
  simp only [Option.getD_some]
  simp only [go_sem]
  unfold rightC
  refine acond_i (fun h1=>?_) (fun h1=>?_)
  · rw [if_pos (by simpa using h1)]
    simp only [go_sem]
    refine PC.use (exist_c x one.set ho62) ?_
    simp only [go_sem]
    refine ⟨int (popK 63 one.set.toNat:Nat),fun hg=>?_,?_⟩
    · simp at hg
      obtain ⟨s,hs,_⟩:=exist_spec hg
      rw [hs]
      exact (size_c s).q rfl
    simp only [go_sem]
    refine acond_i (fun hb=>?_) (fun hb=>?_)
    · rw [if_pos (by exact hb)]
      simp only [go_sem]
      exact .refl _
    rw [if_neg (by rw [show (!existP x.orders.length one.set || !((popK 63 one.set.toNat:Nat):Int) == 3)=false from hb]; simp)]
    simp only [go_sem]
    refine acond_i (fun hb=>?_) (fun hb=>?_)
    · rw [if_pos (by simpa using hb)]
      simp only [go_sem]
      exact .refl _
    · rw [if_neg (by simpa using hb)]
      simp only [go_sem]
      exact .refl _
  rw [if_neg (by simpa using h1)]
  simp only [go_sem]
  refine acond_i (fun h2=>?_) (fun h2=>?_)
  · rw [if_pos (by simpa using h2)]
    simp only [go_sem]
    refine PC.use (exist_c x one.set ho62) ?_
    simp only [go_sem]
    refine acond_i (fun hb=>?_) (fun hb=>?_)
    · rw [if_pos (by exact hb)]
      simp only [go_sem]
      exact .refl _
    rw [if_neg (by rw [show (!existP x.orders.length one.set || one.set == 0)=false from hb]; simp)]
    simp only [go_sem]
    refine adraw_q (by rfl) (by kernel_rfl) ?_
    simp only [go_sem]
    refine ⟨_,fun _=>(tripsA_c x d one.set h ht).q rfl,?_⟩
    simp only [go_sem]
    refine acond_i (fun hb=>?_) (fun hb=>?_)
    · rw [if_pos (by exact hb)]
      simp only [go_sem]
      exact .refl _
    · rw [if_neg (by rw [show (decide (one.n < 1) || decide (one.n > tripsP x d one.set))=false from hb]; simp)]
      simp only [go_sem]
      exact .refl _
  · rw [if_neg (by simpa using h2)]
    simp only [go_sem]
    exact .refl _
def rowC (one:Cut):Int × Int:=if one.kind=1 then (1,1) else if one.kind=2 then (3,one.n) else (0,0)
theorem row_c (one:Cut):PC Tryz.prog 70 [.agg (encCut one)] (.tup [int (rowC one).1,int (rowC one).2]):=by
  refine PC.body (c:=Tryz.f70.body.getD .skip) (fun _=>false) mixed Tryz.func70 rfl (by kernel_rfl) ?_
  unfold Tryz.f70
  simp only [Option.getD_some]
  simp only [go_sem]
  unfold rowC
  refine acond_i (fun h1=>?_) (fun h1=>?_)
  · rw [if_pos (by simpa using h1)]
    simp only [go_sem]
    exact .refl _
  rw [if_neg (by simpa using h1)]
  simp only [go_sem]
  refine acond_i (fun h2=>?_) (fun h2=>?_)
  · rw [if_pos (by simpa using h2)]
    simp only [go_sem]
    refine adraw_q (by rfl) (by kernel_rfl) ?_
    simp only [go_sem]
    exact .refl _
  · rw [if_neg (by simpa using h2)]
    simp only [go_sem]
    exact .refl _
theorem row28_c (one:Cut):PC Tryz.prog 97 [.agg (encCut one)] (.tup [int (rowC one).1,int (rowC one).2]):=by
  refine PC.body (c:=Tryz.f97.body.getD .skip) (fun _=>false) mixed Tryz.func97 rfl (by kernel_rfl) ?_
  unfold Tryz.f97
  simp only [Option.getD_some]
  simp only [go_sem]
  unfold rowC
  refine acond_i (fun h1=>?_) (fun h1=>?_)
  · rw [if_pos (by simpa using h1)]
    simp only [go_sem]
    exact .refl _
  rw [if_neg (by simpa using h1)]
  simp only [go_sem]
  refine acond_i (fun h2=>?_) (fun h2=>?_)
  · rw [if_pos (by simpa using h2)]
    simp only [go_sem]
    refine adraw_q (by rfl) (by kernel_rfl) ?_
    simp only [go_sem]
    exact .refl _
  · rw [if_neg (by simpa using h2)]
    simp only [go_sem]
    exact .refl _
end Go.Proofs.YtpddaldlebngaaaGreatDoor.Nu
end

section
set_option linter.unusedSimpArgs false
set_option linter.unusedVariables false
namespace Go.Proofs.YtpddaldlebngaaaGreatDoor.Nu
open Go.Aw Go.Aw.D Go.Proofs Ty Go.Nu
set_option maxRecDepth 100000
def encInts (l:List Int):List AV:=[.sl (l.map encInt)]
def even06 (ll:List (List Int)) (d:Int):Bool:=!(decide (d < 0) || decide (d > 3)) && ll.all fun l=>!((l.length:Int) != d)
theorem even06_c (ll:List (List Int)) (d:Int) (hl:ll.length≤1048576):PC Tryz.prog 245 [.sl (ll.map encInts),int d] (boo (even06 ll d)):=by
  refine PC.body (c:=Tryz.f245.body.getD .skip) (fun _=>false) mixed Tryz.func245 rfl (by kernel_rfl) ?_
  unfold Tryz.f245
  simp only [Option.getD_some]
  simp only [go_sem]
  refine acond_i (fun hb=>?_) (fun hb=>?_)
  · simp only [go_sem]
    exact cB (by unfold even06; rw [hb]; rfl)
  have hf:even06 ll d=ll.all fun l=>!((l.length:Int) != d):=by unfold even06; rw [hb]; rfl
  rw [hf]
  simp only [go_sem]
  refine ⟨fun ρ _=>∃ k:Nat,k≤ll.length∧ρ 0=.sl (ll.map encInts)∧ρ 1=int d∧ρ 5=int k∧∀ l∈ll.take k,((l.length:Int) != d)=false,fun ρ _=>ll.length - natOf (ρ 5),⟨0,Nat.zero_le _,rfl,rfl,rfl,by simp⟩,?_⟩
  rintro ρ H ⟨k,hk,h0,h1,h5,hz⟩
  simp only [go_sem,h0,h1,h5]
  refine acond_i (fun hlt=>?_) (fun hge=>?_)
  · have hlt:=ltB hlt
    obtain ⟨u,hu⟩:=getIn hlt
    have b1:=inB hlt
    simp only [go_sem,h0,h1,h5,getD_map hu,b1,encInts]
    refine acond_i (fun hb=>?_) (fun hb=>?_)
    · simp only [go_sem]
      refine cB ?_
      symm
      rw [List.all_eq_false]
      exact ⟨u,List.mem_of_getElem? hu,by rw [hb]; simp⟩
    · simp only [go_sem,h0,h1,h5,wrapS (show k≤4611686018427387904 by omega)]
      exact ⟨⟨k + 1,hlt,rfl,take_all' (p:=fun l:List Int=>((l.length:Int) != d)=false) hu hb hz⟩,by simp only [natOf_int]; omega⟩
  · have hge:=geB hk hge
    subst hge
    rw [List.take_length] at hz
    simp only [go_sem]
    refine cB ?_
    symm
    rw [List.all_eq_true]
    intro l hl
    rw [hz l hl]; rfl
def sumAt (ll:List (List Int)) (i:Nat):Int:=ll.foldl (fun s l=>IntKind.i64.wrap (s + l.getD i 0)) 0
theorem sumAt_succ {ll:List (List Int)} {k i:Nat} {l:List Int} (h:ll[k]?=some l):sumAt (ll.take (k + 1)) i=IntKind.i64.wrap (sumAt (ll.take k) i + l.getD i 0):=by unfold sumAt; rw [take_succ h,List.foldl_append]; rfl
def sum06 (ll:List (List Int)) (d:Int):List Int × Int:=if even06 ll d=true then ((List.range d.toNat).map (sumAt ll),0) else ([],2)
theorem even_spec {ll:List (List Int)} {d:Int} (h:even06 ll d=true):0≤d∧d≤3∧∀ l∈ll,(l.length:Int)=d:=by
  simp only [even06,Bool.and_eq_true,Bool.not_eq_true',Bool.or_eq_false_iff,decide_eq_false_iff_not,List.all_eq_true] at h
  refine ⟨by omega,by omega,fun l hl=>?_⟩
  have:=h.2 l hl
  simpa using this
theorem sum06_c (ll:List (List Int)) (d:Int) (hl:ll.length≤1048576):PC Tryz.prog 223 [.sl (ll.map encInts),int d] (.tup [.sl ((sum06 ll d).1.map encInt),int (sum06 ll d).2]):=by
  refine PC.body (c:=Tryz.f223.body.getD .skip) (fun t=>t == 6) mixed Tryz.func223 rfl (by kernel_rfl) ?_
  unfold Tryz.f223
  simp only [Option.getD_some]
  simp only [go_sem]
  refine PC.use (even06_c ll d hl) ?_
  simp only [go_sem]
  refine acond_i (fun hb=>?_) (fun hb=>?_)
  · simp only [go_sem]
    have:sum06 ll d=([],2):=by unfold sum06; rw [if_neg (by simpa using hb)]
    rw [this]; exact .refl _
  have hev:even06 ll d=true:=by simpa using hb
  obtain ⟨d0,d3,hd⟩:=even_spec hev
  have hs:sum06 ll d=((List.range d.toNat).map (sumAt ll),0):=by unfold sum06; rw [if_pos hev]
  rw [hs]
  simp only [go_sem]
  refine anew_i fun j hj=>?_
  simp only [go_sem]
  refine ⟨fun ρ H=>∃ i:Nat,i≤d.toNat∧ρ 0=.sl (ll.map encInts)∧ρ 1=int d∧ρ 7=int i∧∃ j,ρ 6=.os j∧H j=some (⟨3,1,((List.range i).map (sumAt ll)).map encInt⟩:Row),fun ρ _=>d.toNat - natOf (ρ 7),⟨0,Nat.zero_le _,rfl,rfl,rfl,j,rfl,updH_same _ _ _⟩,?_⟩
  clear hj
  rintro ρ H ⟨i,hi,h0,h1,h7,j,h6,hj⟩
  simp only [go_sem,h0,h1,h7,h6]
  refine acond_i (fun hlt=>?_) (fun hge=>?_)
  · have hlt:i < d.toNat:=by simp at hlt; omega
    simp only [go_sem,h0,h1,h7,h6]
    refine ⟨fun ρ H=>∃ k:Nat,k≤ll.length∧ρ 0=.sl (ll.map encInts)∧ρ 1=int d∧ρ 6=.os j∧ρ 7=int i∧ρ 8=int (sumAt (ll.take k) i)∧ρ 9=int k∧H j=some (⟨3,1,((List.range i).map (sumAt ll)).map encInt⟩:Row),fun ρ _=>ll.length - natOf (ρ 9),⟨0,Nat.zero_le _,by simp only [go_sem,h0],by simp only [go_sem,h1],by simp only [go_sem,h6],by simp only [go_sem,h7],by simp only [go_sem]; rfl,by simp only [go_sem]; rfl,hj⟩,?_⟩
    clear h0 h1 h7 h6 hj
    rintro ρ H ⟨k,hk,h0,h1,h6,h7,h8,h9,hj⟩
    simp only [go_sem,h0,h1,h6,h7,h8,h9]
    refine acond_i (fun hlt2=>?_) (fun hge2=>?_)
    · have hlt2:=ltB hlt2
      obtain ⟨u,hu⟩:=getIn hlt2
      have b1:=inB hlt2
      have hul:=hd u (List.mem_of_getElem? hu)
      obtain ⟨v,hv⟩:=getIn (show i < u.length by omega)
      have b2:=inB (show i < u.length by omega)
      have egd:u.getD i 0=v:=by simp [List.getD,hv]
      simp only [go_sem,h0,h1,h6,h7,h8,h9,getD_map hu,b1,encInts,getD_map hv,b2,wrapS (show k≤4611686018427387904 by omega)]
      refine ⟨⟨k + 1,hlt2,by rw [sumAt_succ hu,egd],rfl,hj⟩,by simp only [natOf_int]; omega⟩
    · have hge2:=geB hk hge2
      subst hge2
      rw [List.take_length] at h8
      simp only [go_sem,h0,h1,h6,h7,h8]
      refine wappE_i hj ⟨rfl,rfl⟩ ⟨rfl,trivial⟩ (by simp only [List.length_map,List.length_range,List.length_cons,List.length_nil]; omega) (fun j' hj'=>?_)
      simp only [go_sem,h0,h1,h7,wrapS (show i≤4611686018427387904 by omega)]
      refine ⟨⟨i + 1,hlt,rfl,j',rfl,?_⟩,by simp only [natOf_int]; omega⟩
      rw [List.range_succ,List.map_append,List.map_append]
      exact updH_same _ _ _
  · have hge:i=d.toNat:=by simp at hge; omega
    subst hge
    simp only [go_sem,h6]
    exact .tup _ _ (.cons _ _ _ _ (.row _ _ _ hj (ConvE.refl _)) (ConvL.refl _))
theorem bit5_c (i:Nat) (hi:i≤62):PC Tryz.prog 222 [int i] (int (2 ^ i:Nat)):=by
  refine PC.body (c:=Tryz.f222.body.getD .skip) (fun _=>false) mixed Tryz.func222 rfl (by kernel_rfl) ?_
  unfold Tryz.f222
  simp only [Option.getD_some]
  simp only [go_sem]
  refine ⟨fun ρ H=>∃ (k:Nat),k≤i∧ρ 0=int i∧ρ 4=int k∧ρ 3=int (2 ^ k:Nat),fun ρ _=>i - natOf (ρ 4),⟨0,Nat.zero_le _,by simp only [go_sem],(by simp only [go_sem]; rfl),by simp only [go_sem]; rfl⟩,?_⟩
  rintro ρ H ⟨k,hk,e0,e4,e3⟩
  simp only [go_sem,e0,e4,e3]
  refine acond_i (fun hlt=>?_) (fun hge=>?_)
  · have hlt:=ltB hlt
    have hp:(2:Nat) ^ (k + 1)≤2 ^ 62:=Nat.pow_le_pow_right (by decide) (by omega)
    have hs:(2:Nat) ^ (k + 1)=2 * 2 ^ k:=by rw [Nat.pow_succ,Nat.mul_comm]
    have w1:IntKind.i64.wrap (2 * ((2 ^ k:Nat):Int))=((2 ^ (k + 1):Nat):Int):=by rw [hs]; rw [hs] at hp; rw [wrap_in (by omega)]; rfl
    simp only [go_sem,e0,e4,e3,w1,wrapS (show k≤4611686018427387904 by omega)]
    exact ⟨⟨k + 1,hlt,rfl,rfl⟩,by simp only [natOf_int]; omega⟩
  · have hge:=geB hk hge
    subst hge
    simp only [go_sem,e0,e4,e3]
    exact .refl _
theorem has5_c (s:Nat) (i:Int) (hs:s < 2 ^ 63):PC Tryz.prog 184 [int s,int i] (boo (hasR s i)):=by
  refine PC.body (c:=Tryz.f184.body.getD .skip) (fun _=>false) mixed Tryz.func184 rfl (by kernel_rfl) ?_
  unfold Tryz.f184
  simp only [Option.getD_some]
  simp only [go_sem]
  refine ⟨int (2 ^ i.toNat:Nat),fun hg=>?_,?_⟩
  · simp at hg
    obtain ⟨n,rfl⟩:=Int.eq_ofNat_of_zero_le hg.1
    exact (bit5_c n (by omega)).q rfl
  have hp:0 < 2 ^ i.toNat:=Nat.two_pow_pos _
  have w1:IntKind.i64.wrap ((s:Int).tdiv ((2 ^ i.toNat:Nat):Int))=((s / 2 ^ i.toNat:Nat):Int):=by
    have:s / 2 ^ i.toNat≤s:=Nat.div_le_self _ _
    rw [show ((s:Int).tdiv ((2 ^ i.toNat:Nat):Int))=((s / 2 ^ i.toNat:Nat):Int) from rfl]
    generalize s / 2 ^ i.toNat=q at *
    exact wrap_in (by omega)
  simp only [go_sem,w1]
  refine ⟨fun _=>by omega,fun _=>by decide,?_⟩
  refine cB ?_
  unfold hasR
  have h3:((2:Int) ^ i.toNat)=((2 ^ i.toNat:Nat):Int):=by norm_cast
  rw [h3]
  rfl
theorem members5_c (s:Nat) (hs:s < 2 ^ 63):PC Tryz.prog 144 [int s] (.sl ((memS s).map encInt)):=by
  refine PC.body (c:=Tryz.f144.body.getD .skip) (fun t=>t == 3) mixed Tryz.func144 rfl (by kernel_rfl) ?_
  unfold Tryz.f144
  simp only [Option.getD_some]
  simp only [go_sem]
  refine anew_i fun j hj=>?_
  simp only [go_sem]
  refine ⟨fun ρ H=>∃ k:Nat,k≤63∧ρ 0=int s∧ρ 4=int k∧∃ j,ρ 3=.os j∧H j=some (intRow (memU s k)),fun ρ _=>63 - natOf (ρ 4),⟨0,Nat.zero_le _,by simp only [go_sem],by simp only [go_sem]; rfl,j,by simp only [go_sem],updH_same _ _ _⟩,?_⟩
  clear hj
  rintro ρ H ⟨k,hk,h0,h4,j,h3,R⟩
  simp only [go_sem,h0,h4,h3]
  refine acond_i (fun hlt=>?_) (fun hge=>?_)
  · have hlt:k < 63:=by simp at hlt; omega
    simp only [go_sem,h0,h4,h3]
    refine PC.use (has5_c s k hs) ?_
    simp only [go_sem,h0,h4,h3]
    refine acond_i (fun hb=>?_) (fun hb=>?_)
    · simp only [go_sem,h0,h4,h3]
      refine wappE_i R ⟨rfl,rfl⟩ ⟨rfl,trivial⟩ (by have:=memU_len s k; simp [intRow]; omega) (fun j' hj'=>?_)
      simp only [go_sem,h0,h4,h3,wrapS (show k≤4611686018427387904 by omega)]
      refine ⟨⟨k + 1,hlt,rfl,j',rfl,?_⟩,by simp only [natOf_int]; omega⟩
      rw [memU_succ,if_pos hb,updH_same]
      simp only [intRow,List.map_append,List.map_cons,List.map_nil]
      rfl
    · simp only [go_sem,h0,h4,h3,wrapS (show k≤4611686018427387904 by omega)]
      refine ⟨⟨k + 1,hlt,rfl,j,rfl,?_⟩,by simp only [natOf_int]; omega⟩
      rw [memU_succ,if_neg (by rw [hb]; simp),List.append_nil]
      exact R
  · have hge:k=63:=by simp at hge; omega
    subst hge
    simp only [go_sem,h3]
    exact .row _ _ _ R (ConvE.refl _)
def badM (l:List Order) (i:Int):Bool:=decide (i≥(l.length:Int)) || (orderAt l i).off || !((orderAt l i).penalty == -1)
def must28 (l:List Order) (ms:List Int):Bool:=!ms.any (badM l) && decide (0 < ms.length)
theorem must28_c (x:Instance) (ms:List Int) (hm:∀ i∈ms,0≤i) (hl:ms.length≤1048576):PC Tryz.prog 185 [.agg (encInstance x),.sl (ms.map encInt)] (boo (must28 x.orders ms)):=by
  refine PC.body (c:=Tryz.f185.body.getD .skip) (fun _=>false) mixed Tryz.func185 rfl (by kernel_rfl) ?_
  unfold Tryz.f185
  simp only [Option.getD_some]
  simp only [go_sem]
  refine ⟨fun ρ H=>∃ (k:Nat),k≤ms.length∧ρ 1=.sl (ms.map encInt)∧ρ 2=.rp (encInstance x) 0∧ρ 5=int k∧∀ i∈ms.take k,badM x.orders i=false,fun ρ _=>ms.length - natOf (ρ 5),⟨0,Nat.zero_le _,by simp only [go_sem],by simp only [go_sem],(by simp only [go_sem]; rfl),by simp⟩,?_⟩
  rintro ρ H ⟨k,hk,e1,e2,e5,hz⟩
  simp only [go_sem,e1,e2,e5]
  refine acond_i (fun hlt=>?_) (fun hge=>?_)
  · have hlt:=ltB hlt
    obtain ⟨i,hi⟩:=getIn hlt
    have b1:=inB hlt
    have hi0:=hm i (List.mem_of_getElem? hi)
    obtain ⟨n,rfl⟩:=Int.eq_ofNat_of_zero_le hi0
    have hg:n < x.orders.length→(x.orders.map encOrder).getD n []=encOrder (orderAt x.orders n):=fun h=>by
      obtain ⟨o,ho⟩:=getIn h
      rw [getD_map ho,orderAt_get ho]
    by_cases hn:n < x.orders.length
    · have b2:=inB hn
      simp only [go_sem,e1,e2,e5,getD_map hi,b1]
      refine adraw_q (by rfl) (by kernel_rfl) ?_
      simp only [go_sem,e1,e2,e5,getD_map hi,b1,hg hn,b2]
      refine acond_i (fun hb=>?_) (fun hb=>?_)
      · simp only [go_sem]
        refine cB ?_
        unfold must28
        rw [any_yes hi hb]; rfl
      · simp only [go_sem,e1,e2,e5,wrapS (show k≤4611686018427387904 by omega)]
        exact ⟨⟨k + 1,hlt,rfl,take_all' (p:=fun i=>badM x.orders i=false) hi hb hz⟩,by simp only [natOf_int]; omega⟩
    · have hb2:decide ((n:Int)≥(x.orders.length:Int))=true:=by simp; omega
      have hb3:badM x.orders (n:Int)=true:=by unfold badM; rw [hb2]; rfl
      simp only [go_sem,e1,e2,e5,getD_map hi,b1]
      refine adraw_q (by rfl) (by kernel_rfl) ?_
      have hg0:(x.orders.map encOrder).getD n []=[]:=by rw [List.getD,List.getElem?_eq_none (by rw [List.length_map]; omega)]; rfl
      have hp0:∀ b:Bool,pickV true (boo b) .any=boo b:=fun b=>by cases b <;> rfl
      simp only [go_sem,e1,e2,e5,getD_map hi,b1,hb2,hg0,List.getD_nil,hp0]
      refine acond_i (fun hb=>?_) (fun hb=>by cases hb)
      simp only [go_sem]
      refine cB ?_
      unfold must28
      rw [any_yes hi hb3]; rfl
  · have hge:=geB hk hge
    subst hge
    rw [List.take_length] at hz
    simp only [go_sem,e1,e2,e5,List.length_map]
    refine cB ?_
    unfold must28
    rw [any_none hz,Bool.eq_iff_iff]
    simp
theorem sided28_c (x:Instance) (ms:List Int) (hm:Memb x.orders ms) (hl:ms.length≤1048576):PC Tryz.prog 186 [.agg (encInstance x),.sl (ms.map encInt)] (boo (togP x ms)):=by
  refine PC.body (c:=Tryz.f186.body.getD .skip) (fun _=>false) mixed Tryz.func186 rfl (by kernel_rfl) ?_
  unfold Tryz.f186
  simp only [Option.getD_some]
  simp only [go_sem]
  unfold togP
  generalize hp:(fun i=>decide ((orderAt x.orders i).pick.place≥0))=p
  generalize hq:(fun i=>decide ((orderAt x.orders i).drop.place≥0))=q
  refine ⟨fun ρ H=>∃ (k:Nat),k≤ms.length∧ρ 1=.sl (ms.map encInt)∧ρ 2=.rp (encInstance x) 0∧ρ 7=int k∧ρ 5=boo ((ms.take k).any p)∧ρ 6=boo ((ms.take k).any q),fun ρ _=>ms.length - natOf (ρ 7),⟨0,Nat.zero_le _,by simp only [go_sem],by simp only [go_sem],(by simp only [go_sem]; rfl),by simp only [go_sem]; rfl,by simp only [go_sem]; rfl⟩,?_⟩
  rintro ρ H ⟨k,hk,e1,e2,e7,e5,e6⟩
  simp only [go_sem,e1,e2,e7,e5,e6]
  refine acond_i (fun hlt=>?_) (fun hge=>?_)
  · have hlt:=ltB hlt
    obtain ⟨i,hi⟩:=getIn hlt
    have b1:=inB hlt
    have him:=hm i (List.mem_of_getElem? hi)
    obtain ⟨n,rfl⟩:=Int.eq_ofNat_of_zero_le him.1
    have hn:n < x.orders.length:=by omega
    obtain ⟨o,ho⟩:=getIn hn
    have b2:=inB hn
    have hp1:p (n:Int)=decide (o.pick.place≥0):=by rw [← hp]; simp only [orderAt_get ho]
    have hq1:q (n:Int)=decide (o.drop.place≥0):=by rw [← hq]; simp only [orderAt_get ho]
    simp only [go_sem,e1,e2,e7,e5,e6,getD_map hi,b1]
    refine adraw_q (by rfl) (by kernel_rfl) ?_
    simp only [go_sem,e1,e2,e7,e5,e6,getD_map hi,b1,getD_map ho,b2]
    refine adraw_q (by rfl) (by kernel_rfl) ?_
    simp only [go_sem,e1,e2,e7,e5,e6,getD_map hi,b1,getD_map ho,b2,wrapS (show k≤4611686018427387904 by omega)]
    refine ⟨⟨k + 1,hlt,rfl,?_,?_⟩,by simp only [natOf_int]; omega⟩
    · rw [take_succ hi,List.any_append,List.any_cons,List.any_nil,hp1]; simp
    · rw [take_succ hi,List.any_append,List.any_cons,List.any_nil,hq1]; simp
  · have hge:=geB hk hge
    subst hge
    rw [List.take_length] at e5 e6
    simp only [go_sem,e1,e2,e7,e5,e6]
    exact .refl _
theorem greatest_c (x:Instance) (d dim:Nat) (h:LoadsOk x d) (hd:dim < d):PC Tryz.prog 188 [.agg (encInstance x),int dim] (int (capMax x.types dim)):=by
  have ht62:=h.types
  refine PC.body (c:=Tryz.f188.body.getD .skip) (fun _=>false) mixed Tryz.func188 rfl (by kernel_rfl) ?_
  unfold Tryz.f188
  simp only [Option.getD_some]
  simp only [go_sem]
  refine ⟨fun ρ H=>∃ (k:Nat),k≤x.types.length∧ρ 1=int dim∧ρ 2=.rp (encInstance x) 0∧ρ 6=int k∧ρ 5=int (capMax (x.types.take k) dim),fun ρ _=>x.types.length - natOf (ρ 6),⟨0,Nat.zero_le _,by simp only [go_sem],by simp only [go_sem],(by simp only [go_sem]; rfl),by simp only [go_sem]; rfl⟩,?_⟩
  rintro ρ H ⟨k,hk,e1,e2,e6,e5⟩
  simp only [go_sem,e1,e2,e6,e5]
  refine acond_i (fun hlt=>?_) (fun hge=>?_)
  · have hlt:=ltB hlt
    obtain ⟨t,ht⟩:=getIn hlt
    have b1:=inB hlt
    obtain ⟨h1,h2⟩:=h.cap t (List.mem_of_getElem? ht)
    obtain ⟨v,hv⟩:=getIn (show dim < t.cap.length by omega)
    have b3:=inB (show dim < t.cap.length by omega)
    have hcm:capMax (x.types.take (k + 1)) dim=imax (capMax (x.types.take k) dim) v:=by rw [take_succ ht,capMax_snoc,List.getD,hv]; rfl
    have hb3:decide ((dim:Int) < (t.cap.length:Int))=true:=by simpa using b3.2
    simp only [go_sem,e1,e2,e6,e5,getD_map ht,b1,getD_map hv,b3,hb3]
    refine acond_i (fun hb=>?_) (fun hb=>?_)
    · simp only [go_sem,e1,e2,e6,e5,getD_map ht,b1,getD_map hv,b3,wrapS (show k≤4611686018427387904 by omega)]
      refine ⟨⟨k + 1,hlt,rfl,?_⟩,by simp only [natOf_int]; omega⟩
      rw [hcm]; unfold imax; rw [if_pos (by simpa using hb)]
    · simp only [go_sem,e1,e2,e6,e5,wrapS (show k≤4611686018427387904 by omega)]
      refine ⟨⟨k + 1,hlt,rfl,?_⟩,by simp only [natOf_int]; omega⟩
      rw [hcm]; unfold imax; rw [if_neg (by simpa using hb)]
  · have hge:=geB hk hge
    subst hge
    rw [List.take_length] at e5
    simp only [go_sem,e1,e2,e6,e5]
    exact .refl _
def loadLists (l:List Order) (ms:List Int):List (List Int):=ms.map fun i=>(orderAt l i).load
theorem sumAt_wrap {ll:List (List Int)} {i:Nat} (h:∀ l∈ll,0≤l.getD i 0∧l.getD i 0≤1000):∀ k,k≤1048576→sumAt (ll.take k) i=((ll.take k).map fun l=>l.getD i 0).sum∧0≤sumAt (ll.take k) i∧sumAt (ll.take k) i≤1000 * k
  | 0,_=>by simp [sumAt]
  | k + 1,hk=>by
    have ih:=sumAt_wrap h k (by omega)
    rcases Nat.lt_or_ge k ll.length with hlt | hge
    · obtain ⟨l,hl⟩:=getIn hlt
      have:=h l (List.mem_of_getElem? hl)
      have e:sumAt (ll.take (k + 1)) i=sumAt (ll.take k) i + l.getD i 0:=by rw [sumAt_succ hl,wrap_in (by omega)]
      refine ⟨?_,by omega,by omega⟩
      rw [e,take_succ hl,List.map_append,List.sum_append,ih.1]; simp
    · rw [List.take_of_length_le (by omega)] at ih ⊢
      exact ⟨ih.1,ih.2.1,by omega⟩
theorem load11_c (x : Instance) (d : Nat) (s : Nat) (h : LoadsOk x d) (hs : s < 2 ^ x.orders.length) :
    PC Tryz.prog 187 [.sl (x.orders.map encOrder),int s,int d] (.tup [.sl (((List.range d).map fun dim=>loadSum x.orders (memS s) dim).map encInt),int 0]):=by
  have hd3:=h.dims
  have ho62:=h.orders
  have hm:Memb x.orders (memS (s:Int)):=memS_in hs ho62
  have hml:(memS (s:Int)).length≤63:=memU_len _ _
  have h62:2 ^ x.orders.length≤2 ^ 62:=Nat.pow_le_pow_right (by decide) ho62
  refine PC.body (c:=Tryz.f187.body.getD .skip) (fun t=>t == 9) mixed Tryz.func187 rfl (by kernel_rfl) ?_
  unfold Tryz.f187
  simp only [Option.getD_some]
  simp only [go_sem]
  refine ⟨_,fun _=>(in11_c (d:Int) 0 3).q rfl,?_⟩
  have hin:inR (d:Int) 0 3=true:=by unfold inR; simp; omega
  have hs0:decide ((s:Int) < 0)=false:=by simp
  simp only [go_sem,hin,hs0]
  refine acond_i (fun hb=>by simp at hb) (fun hb=>?_)
  simp only [go_sem]
  refine PC.use (members5_c s (by omega)) ?_
  simp only [go_sem]
  refine anew_i fun j hj=>?_
  simp only [go_sem]
  refine ⟨fun ρ H=>∃ (k:Nat) (j:Nat),k≤(memS (s:Int)).length∧ρ 0=.sl (x.orders.map encOrder)∧ρ 2=int d∧ρ 8=.sl ((memS (s:Int)).map encInt)∧ρ 10=int k∧ρ 9=.os j∧H j=some (⟨41,1,(loadLists x.orders ((memS (s:Int)).take k)).map encInts⟩:Row),fun ρ _=>(memS (s:Int)).length - natOf (ρ 10),⟨0,j,Nat.zero_le _,by simp only [go_sem],by simp only [go_sem],by simp only [go_sem],(by simp only [go_sem]; rfl),by simp only [go_sem],updH_same _ _ _⟩,?_⟩
  rintro ρ H ⟨k,j,hk,e0,e2,e8,e10,e9,R⟩
  simp only [go_sem,e0,e2,e8,e10,e9]
  refine acond_i (fun hlt=>?_) (fun hge=>?_)
  · have hlt:=ltB hlt
    obtain ⟨i,hi⟩:=getIn hlt
    have b1:=inB hlt
    have him:=hm i (List.mem_of_getElem? hi)
    obtain ⟨n,rfl⟩:=Int.eq_ofNat_of_zero_le him.1
    have hn:n < x.orders.length:=by omega
    obtain ⟨o,ho⟩:=getIn hn
    have b2:=inB hn
    simp only [go_sem,e0,e2,e8,e10,e9,getD_map hi,b1]
    refine acond_i (fun hb=>by simp at hb; omega) (fun hb=>?_)
    simp only [go_sem,e0,e2,e8,e10,e9,getD_map hi,b1,getD_map ho,b2]
    refine wappE_i R ⟨rfl,rfl⟩ ⟨rfl,trivial⟩ (by simp [loadLists]; omega) (fun j' hj'=>?_)
    simp only [go_sem,e0,e2,e8,e10,e9,wrapS (show k≤4611686018427387904 by omega)]
    refine ⟨⟨k + 1,j',hlt,rfl,rfl,?_⟩,by simp only [natOf_int]; omega⟩
    rw [updH_same]
    simp only [loadLists,take_succ hi,List.map_append,List.map_cons,List.map_nil,orderAt_get ho,encInts]
  · have hge:=geB hk hge
    subst hge
    rw [List.take_length] at R
    simp only [go_sem,e0,e2,e8,e10,e9]
    refine PC.useF [j] (.cons _ _ _ _ (.row _ _ _ (by simp only [List.mem_singleton,if_true]; exact R) (ConvE.refl _)) (.cons _ _ _ _ (.refl _) .nil)) (sum06_c (loadLists x.orders (memS (s:Int))) (d:Int) (by simp [loadLists]; omega)) ?_
    have hev:even06 (loadLists x.orders (memS (s:Int))) (d:Int)=true:=by
      unfold even06
      rw [Bool.and_eq_true]
      refine ⟨by simp; omega,List.all_eq_true.2 fun l hl=>?_⟩
      unfold loadLists at hl
      obtain ⟨i,hi,rfl⟩:=List.mem_map.1 hl
      have him:=hm i hi
      obtain ⟨n,rfl⟩:=Int.eq_ofNat_of_zero_le him.1
      obtain ⟨o,ho⟩:=getIn (show n < x.orders.length by omega)
      rw [orderAt_get ho,(h.load o (List.mem_of_getElem? ho)).1]
      simp
    have hsum:sum06 (loadLists x.orders (memS (s:Int))) (d:Int)=((List.range d).map fun dim=>loadSum x.orders (memS (s:Int)) dim,0):=by
      unfold sum06
      rw [if_pos hev,Int.toNat_natCast]
      congr 1
      refine List.map_congr_left fun dim hdim=>?_
      have hdim:=List.mem_range.1 hdim
      have:=(sumAt_wrap (ll:=loadLists x.orders (memS (s:Int))) (i:=dim) (fun l hl=>by
        unfold loadLists at hl
        obtain ⟨i,hi,rfl⟩:=List.mem_map.1 hl
        exact loadOf_in h hdim (hm i hi)) (loadLists x.orders (memS (s:Int))).length (by simp [loadLists]; omega)).1
      rw [List.take_length] at this
      rw [this]
      unfold loadLists loadSum loadOf
      rw [List.map_map]; rfl
    rw [hsum]
    simp only [go_sem]
    exact .refl _
end Go.Proofs.YtpddaldlebngaaaGreatDoor.Nu
end
