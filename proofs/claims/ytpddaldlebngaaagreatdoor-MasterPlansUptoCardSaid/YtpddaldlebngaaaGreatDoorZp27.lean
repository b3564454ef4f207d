/- Texts joined by a program: CuA, CuB, CuC, CuAcc, CuD, CuE. -/
import Derived.Test.YtpddaldlebngaaaGreatDoorZp11
import Derived.Test.YtpddaldlebngaaaGreatDoorZp21
import Derived.Test.YtpddaldlebngaaaGreatDoorZp24

section
set_option linter.unusedSimpArgs false
set_option linter.unusedVariables false
namespace Go.Proofs.YtpddaldlebngaaaGreatDoor.Nu
open Go.Aw Go.Aw.D Go.Proofs Ty Go.Nu
set_option maxRecDepth 100000
theorem and1 (x:Int):bitV .and .i64 x 1=x % 2:=by
  have h:((BitVec.ofInt 64 x &&& BitVec.ofInt 64 1).toNat:Int)=x % 2:=by
    rw [BitVec.toNat_and,BitVec.toNat_ofInt,BitVec.toNat_ofInt]
    have:((1:Int) % ((2 ^ 64:Nat):Int)).toNat=1:=by decide
    rw [this,Nat.and_one_is_mod]
    omega
  refine Eq.trans (congrArg IntKind.i64.wrap h) ?_
  exact wrap_in (by omega)
theorem and_nat {a b:Nat} (ha:a < 2 ^ 63) (hb:b < 2 ^ 63):bitV .and .i64 (a:Int) (b:Int)=((a &&& b:Nat):Int):=by
  have h:((BitVec.ofInt 64 (a:Int) &&& BitVec.ofInt 64 (b:Int)).toNat:Int)=((a &&& b:Nat):Int):=by
    rw [BitVec.toNat_and,BitVec.toNat_ofInt,BitVec.toNat_ofInt]
    have h1:((a:Int) % ((2 ^ 64:Nat):Int)).toNat=a:=by omega
    have h2:((b:Int) % ((2 ^ 64:Nat):Int)).toNat=b:=by omega
    rw [h1,h2]
  refine Eq.trans (congrArg IntKind.i64.wrap h) ?_
  have:=Nat.and_lt_two_pow a hb
  exact wrap_in (by omega)
theorem shr_in {x:Int} {i:Nat} (h:i≤62):shV .shr .i64 x (i:Int)=x / 2 ^ i:=by
  show x.fdiv (2 ^ min ((i:Int)).toNat 64)=_
  have:min ((i:Int)).toNat 64=i:=by omega
  rw [this,Int.fdiv_eq_ediv_of_nonneg _ (by exact Int.le_of_lt (Int.pow_pos (by decide)))]
def hasR (set i:Int):Bool:=decide (i≥0) && decide (i≤62) && ((set / 2 ^ i.toNat) % 2 == 1)
theorem sHas_c (set i:Int):PC Tryz.prog 71 [int set,int i] (boo (hasR set i)):=by
  refine PC.body (c:=Tryz.f71.body.getD .skip) (fun _=>false) mixed Tryz.func71 rfl (by kernel_rfl) ?_
  unfold Tryz.f71
  simp only [Option.getD_some]
  simp only [go_sem]
  refine ⟨fun h=>?_,?_⟩
  · simp at h; omega
  · refine cB ?_
    unfold hasR
    rw [and1]
    by_cases h:0≤i∧i≤62
    · obtain ⟨h0,h1⟩:=h
      have e:=shr_in (x:=set) (i:=i.toNat) (by omega)
      rw [Int.toNat_of_nonneg h0] at e
      rw [e]
    · have:(decide (i≥0) && decide (i≤62))=false:=by simp; omega
      rw [this]; rfl
def memU (set:Int) (k:Nat):List Int:=((List.range k).filter fun i:Nat=>hasR set (i:Int)).map fun i:Nat=>(i:Int)
def memS (set:Int):List Int:=memU set 63
theorem memU_succ (set:Int) (k:Nat):memU set (k + 1)=memU set k ++ (if hasR set (k:Int)=true then [(k:Int)] else []):=by
  unfold memU
  rw [List.range_succ,List.filter_append,List.map_append]
  by_cases h:hasR set (k:Int)=true
  · simp [h]
  · simp [h]
theorem memU_len (set:Int) (k:Nat):(memU set k).length≤k:=by
  unfold memU
  rw [List.length_map]
  exact Nat.le_trans (List.length_filter_le _ _) (by simp)
def intRow (l:List Int):Row:=⟨3,1,l.map encInt⟩
theorem members_c (set:Int):PC Tryz.prog 33 [int set] (.sl ((memS set).map encInt)):=by
  refine PC.body (c:=Tryz.f33.body.getD .skip) (fun t=>t == 3) mixed Tryz.func33 rfl (by kernel_rfl) ?_
  unfold Tryz.f33
  simp only [Option.getD_some]
  simp only [go_sem]
  refine anew_i fun j hj=>?_
  simp only [go_sem]
  refine ⟨fun ρ H=>∃ k:Nat,k≤63∧ρ 0=int set∧ρ 5=int k∧∃ j,ρ 3=.os j∧H j=some (intRow (memU set k)),fun ρ _=>63 - natOf (ρ 5),⟨0,Nat.zero_le _,rfl,rfl,j,rfl,updH_same _ _ _⟩,?_⟩
  clear hj
  rintro ρ H ⟨k,hk,h0,h5,j,h3,R⟩
  simp only [go_sem,h0,h5,h3]
  refine acond_i (fun hlt=>?_) (fun hge=>?_)
  · have hlt:k < 63:=by simp at hlt; omega
    simp only [go_sem,h0,h5,h3]
    refine PC.use (sHas_c set k) ?_
    simp only [go_sem,h0,h5,h3]
    refine acond_i (fun hb=>?_) (fun hb=>?_)
    · simp only [go_sem,h0,h5,h3]
      refine wappE_i R ⟨rfl,rfl⟩ ⟨rfl,trivial⟩ (by have:=memU_len set k; simp [intRow]; omega) (fun j' hj'=>?_)
      simp only [go_sem,h0,h5,h3,wrapS (show k≤4611686018427387904 by omega)]
      refine ⟨⟨k + 1,hlt,rfl,j',rfl,?_⟩,by simp only [natOf_int]; omega⟩
      rw [memU_succ,if_pos hb,updH_same]
      simp only [intRow,List.map_append,List.map_cons,List.map_nil]
      rfl
    · simp only [go_sem,h0,h5,h3,wrapS (show k≤4611686018427387904 by omega)]
      refine ⟨⟨k + 1,hlt,rfl,j,rfl,?_⟩,by simp only [natOf_int]; omega⟩
      rw [memU_succ,if_neg (by rw [hb]; simp),List.append_nil]
      exact R
  · have hge:k=63:=by simp at hge; omega
    subst hge
    simp only [go_sem,h3]
    exact .row _ _ _ R (ConvE.refl _)
def popK:Nat→Nat→Nat
  | 0,_=>0
  | k + 1,n=>n % 2 + popK k (n / 2)
theorem popK_snoc:∀ (k n:Nat),popK (k + 1) n=popK k n + (n / 2 ^ k) % 2
  | 0,n=>by simp [popK]
  | k + 1,n=>by
    rw [popK,popK_snoc k (n / 2),popK,Nat.div_div_eq_div_mul,show 2 * 2 ^ k=2 ^ (k + 1) by rw [Nat.pow_succ,Nat.mul_comm]]
    omega
theorem popK_zero:∀ k:Nat,popK k 0=0
  | 0=>rfl
  | k + 1=>by rw [popK,popK_zero k]
theorem popK_le:∀ k n:Nat,popK k n≤k
  | 0,_=>Nat.le_refl 0
  | k + 1,n=>by have:=popK_le k (n / 2); rw [popK]; omega
theorem memU_pop (n:Nat):∀ k:Nat,k≤63→(memU (n:Int) k).length=popK k n
  | 0,_=>rfl
  | k + 1,hk=>by
    rw [memU_succ,List.length_append,memU_pop n k (by omega),popK_snoc]
    have h:hasR (n:Int) (k:Int)=decide ((n / 2 ^ k) % 2=1):=by
      unfold hasR
      rw [show decide ((k:Int)≥0)=true by simp,show decide ((k:Int)≤62)=true by simp; omega,Int.toNat_natCast,Bool.true_and,Bool.true_and]
      rw [Bool.eq_iff_iff,beq_iff_eq,decide_eq_true_iff]
      have:((n:Int) / 2 ^ k)=((n / 2 ^ k:Nat):Int):=by norm_cast
      rw [this]
      omega
    rw [h]
    by_cases h2:(n / 2 ^ k) % 2=1
    · simp [h2]
    · have:(n / 2 ^ k) % 2=0:=by omega
      simp [this]
theorem size_c (n:Nat):PC Tryz.prog 125 [int n] (int (popK 63 n:Nat)):=by
  have hm:=memU_pop n 63 (Nat.le_refl _)
  have hle:=popK_le 63 n
  refine PC.body (c:=Tryz.f125.body.getD .skip) (fun _=>false) mixed Tryz.func125 rfl (by kernel_rfl) ?_
  unfold Tryz.f125
  simp only [Option.getD_some]
  simp only [go_sem]
  refine PC.use (members_c n) ?_
  simp only [go_sem,List.length_map,memS,hm]
  generalize popK 63 n=P at *
  refine ⟨fun ρ _=>∃ k:Nat,k≤P∧ρ 3=int k∧ρ 6=int (P:Nat)∧ρ 7=int k,fun ρ _=>P - natOf (ρ 7),⟨0,Nat.zero_le _,by simp only [go_sem]; rfl,by simp only [go_sem],by simp only [go_sem]; rfl⟩,?_⟩
  rintro ρ H ⟨k,hk,h3,h6,h7⟩
  simp only [go_sem,h3,h6,h7]
  refine acond_i (fun hlt=>?_) (fun hge=>?_)
  · have hlt:=ltB hlt
    simp only [go_sem,h3,h6,h7,wrapS (show k≤4611686018427387904 by omega)]
    exact ⟨⟨k + 1,hlt,rfl⟩,by simp only [natOf_int]; omega⟩
  · have hge:=geB hk hge
    subst hge
    simp only [go_sem,h3]
    exact .refl _
theorem size5_c (n:Nat) (hn:n < 9223372036854775808):PC Tryz.prog 146 [int n] (int (popK 63 n:Nat)):=by
  have hle:=popK_le 63 n
  refine PC.body (c:=Tryz.f146.body.getD .skip) (fun _=>false) mixed Tryz.func146 rfl (by kernel_rfl) ?_
  unfold Tryz.f146
  simp only [Option.getD_some]
  simp only [go_sem]
  refine ⟨fun ρ _=>∃ k m c:Nat,k≤63∧ρ 0=int m∧ρ 3=int c∧m < 2 ^ (63 - k)∧c + popK (63 - k) m=popK 63 n,fun ρ _=>natOf (ρ 0),⟨0,n,0,Nat.zero_le _,by simp only [go_sem],by simp only [go_sem]; rfl,hn,by simp⟩,?_⟩
  rintro ρ H ⟨k,m,c,hk,h0,h3,hm,hc⟩
  simp only [go_sem,h0,h3]
  refine acond_i (fun hlt=>?_) (fun hge=>?_)
  · have hlt:0 < m:=by simpa using hlt
    obtain ⟨d,hd⟩:∃ d,63 - k=d + 1:=⟨62 - k,by
      rcases Nat.lt_or_ge k 63 with h | h
      · omega
      · have:k=63:=by omega
        subst this
        simp at hm
        omega⟩
    rw [hd] at hm hc
    have hmb:m < 9223372036854775808:=Nat.lt_of_lt_of_le hm (show 2 ^ (d + 1)≤2 ^ 63 from Nat.pow_le_pow_right (by decide) (by omega))
    rw [popK] at hc
    rw [Nat.pow_succ] at hm
    have e2:((m:Int)).tmod 2=((m % 2:Nat):Int):=rfl
    have e3:IntKind.i64.wrap (((m:Int)).tdiv 2)=((m / 2:Nat):Int):=by
      rw [show ((m:Int)).tdiv 2=((m / 2:Nat):Int) from rfl,wrap_in (by omega)]
    have e4:IntKind.i64.wrap ((c:Int) + ((m % 2:Nat):Int))=((c + m % 2:Nat):Int):=by rw [wrap_in (by omega)]; omega
    simp only [go_sem,h0,h3,e2,e3,e4]
    refine ⟨by decide,by decide,?_⟩
    exact ⟨⟨k + 1,m / 2,c + m % 2,by omega,rfl,rfl,by rw [show 63 - (k + 1)=d by omega]; omega,by rw [show 63 - (k + 1)=d by omega]; omega⟩,by simp only [natOf_int]; omega⟩
  · have hz:m=0:=by simpa using hge
    subst hz
    rw [popK_zero] at hc
    simp only [go_sem,h3]
    exact cI (by omega)
end Go.Proofs.YtpddaldlebngaaaGreatDoor.Nu
end

section
set_option linter.unusedSimpArgs false
set_option linter.unusedVariables false
namespace Go.Proofs.YtpddaldlebngaaaGreatDoor.Nu
open Go.Aw Go.Aw.D Go.Proofs Ty Go.Nu
set_option maxRecDepth 100000
def encKV (p:Int × Int):List AV:=[int p.1,int p.2]
def idxM (m:List (Int × Int)) (o:Int):Option Nat:=m.findIdx? fun p=>p.1 == o
def getM (m:List (Int × Int)) (o:Int):Int:=((m.find? fun p=>p.1 == o).map (·.2)).getD 0
def putM (m:List (Int × Int)) (o v:Int):List (Int × Int):=match idxM m o with
  | some i=>m.set i (o,v)
  | none=>m ++ [(o,v)]
abbrev mapRow (m:List (Int × Int)):Row:=⟨0,2,m.map encKV⟩
theorem mfind_int (o:Int):∀ (m:List (Int × Int)) (i:Nat),mfind (keyEq Tryz.prog 3 (int o)) (m.map encKV) i=some ((idxM m o).map (· + i))
  | [],i=>rfl
  | p :: m,i=>by
    have ih:=mfind_int o m (i + 1)
    have hk:keyEq Tryz.prog 3 (int o) ((encKV p).getD 0 .any)=some (o == p.1):=by
      show keyEq Tryz.prog 3 (int o) (int p.1)=_
      unfold keyEq
      simp only [kk3]
      simp [eqCell]
    rw [List.map_cons,mfind,hk]
    unfold idxM at *
    rw [List.findIdx?_cons]
    by_cases h:o=p.1
    · subst h; simp
    · have h1:(o == p.1)=false:=by simpa using h
      have h2:(p.1 == o)=false:=by simpa using fun e=>h e.symm
      rw [h1,h2]
      simp only [Bool.false_eq_true,if_false]
      rw [ih]
      cases m.findIdx? (fun p=>p.1 == o) with
      | none=>rfl
      | some j=>simp; omega
theorem mfind_int0 (o:Int) (m:List (Int × Int)):mfind (keyEq Tryz.prog 3 (int o)) (m.map encKV) 0=some (idxM m o):=by
  rw [mfind_int]; cases idxM m o <;> rfl
theorem plain_int (o:Int):plainKey Tryz.prog 3 (int o)=true:=by
  simp only [plainKey,kk3]; rfl
theorem mget_int (m:List (Int × Int)) (o:Int):mget false (int 0) (m.map encKV) (idxM m o)=int (getM m o):=by
  unfold mget getM idxM
  induction m with
  | nil=>rfl
  | cons p m ih=>
    rw [List.findIdx?_cons,List.find?_cons]
    cases h:p.1 == o with
    | true=>simp [encKV]
    | false=>
      cases hi:m.findIdx? (fun p=>p.1 == o) with
      | none=>
        rw [hi] at ih
        simpa using ih
      | some j=>
        rw [hi] at ih
        simp at ih ⊢
        exact ih
theorem mput_int (m:List (Int × Int)) (o v:Int):mput (m.map encKV) (idxM m o) (int o) (int v)=(putM m o v).map encKV:=by
  unfold mput putM
  cases idxM m o with
  | none=>simp [encKV]
  | some i=>simp [List.map_set,encKV]
def needN (k:Int):Nat:=if k=1 then 2 else if k=2 then 1 else 0
def coefB (k:Int) (P:Nat):Bool:=decide (needN k > 0) && decide (needN k≤P)
def coefP (k:Int) (n:Nat):Int:=if coefB k (popK 63 n)=true then 1 else 0
theorem coef28_c (k m:Int) (a b:Nat) (ha:a < 2 ^ 63) (hb:b < 2 ^ 63):PC Tryz.prog 100 [.agg [int k,int a,int m],int b] (int (coefP k (a &&& b))):=by
  have hlt:a &&& b < 2 ^ 63:=Nat.and_lt_two_pow a hb
  have hs:=size5_c (a &&& b) hlt
  have hle:=popK_le 63 (a &&& b)
  refine PC.body (c:=Tryz.f100.body.getD .skip) (fun _=>false) mixed Tryz.func100 rfl (by kernel_rfl) ?_
  unfold Tryz.f100
  simp only [Option.getD_some]
  simp only [go_sem]
  rw [and_nat ha hb]
  refine PC.use hs ?_
  unfold coefP
  generalize popK 63 (a &&& b)=P at *
  simp only [go_sem]
  have hc:((k == 1 && decide ((P:Int)≥2)) || (k == 2 && decide ((P:Int)≥1)))=coefB k P:=by
    unfold coefB needN
    by_cases h1:k=1
    · subst h1; simp; omega
    · by_cases h2:k=2
      · subst h2; simp; omega
      · simp [h1,h2]
  rw [hc]
  refine acond_i (fun h=>?_) (fun h=>?_)
  · simp only [go_sem]
    exact cI (by rw [if_pos h])
  · simp only [go_sem]
    exact cI (by rw [if_neg (by rw [h]; simp)])
theorem coef_c (k m:Int) (a b:Nat) (ha:a < 2 ^ 63) (hb:b < 2 ^ 63):PC Tryz.prog 72 [.agg [int k,int a,int m],int b] (int (coefP k (a &&& b))):=by
  have hs:=size_c (a &&& b)
  have hle:=popK_le 63 (a &&& b)
  refine PC.body (c:=Tryz.f72.body.getD .skip) (fun _=>false) mixed Tryz.func72 rfl (by kernel_rfl) ?_
  unfold Tryz.f72
  simp only [Option.getD_some]
  simp only [go_sem]
  refine anew_i fun jm hjm=>?_
  generalize hG:updH noRows jm _=HM
  have Rm:HM jm=some (mapRow []):=by rw [← hG,updH_same]; rfl
  clear hG hjm
  simp only [go_sem]
  refine wmapU_i Rm ma108 (plain_int _) (mfind_int0 _ _) ?_
  rw [mput_int]
  generalize hG:updH HM jm _=HN
  have Rn:HN jm=some (mapRow [(1,2)]):=by rw [← hG,updH_same]; rfl
  clear hG Rm
  simp only [go_sem]
  refine wmapU_i Rn ma108 (plain_int _) (mfind_int0 _ _) ?_
  rw [mput_int]
  generalize hG:updH HN jm _=HO
  have Ro:HO jm=some (mapRow [(1,2),(2,1)]):=by rw [← hG,updH_same]; rfl
  clear hG Rn
  simp only [go_sem]
  refine alookup_i Ro ma108 (plain_int _) (mfind_int0 _ _) zv3 ?_
  rw [mget_int]
  have hk:getM [(1,2),(2,1)] k=(needN k:Nat):=by
    unfold getM needN
    by_cases h1:k=1
    · subst h1; rfl
    · by_cases h2:k=2
      · subst h2; rfl
      · have e1:((1:Int) == k)=false:=by simpa using fun e=>h1 e.symm
        have e2:((2:Int) == k)=false:=by simpa using fun e=>h2 e.symm
        simp [List.find?,e1,e2,h1,h2]
  rw [hk]
  simp only [go_sem]
  rw [and_nat ha hb]
  refine ⟨_,fun _=>hs.q rfl,?_⟩
  unfold coefP
  generalize popK 63 (a &&& b)=P at *
  simp only [go_sem]
  have hc:(decide (((needN k:Nat):Int) > 0) && decide ((P:Int)≥((needN k:Nat):Int)))=coefB k P:=by
    unfold coefB
    rw [Bool.eq_iff_iff]; simp
  rw [hc]
  refine acond_i (fun h=>?_) (fun h=>?_)
  · simp only [go_sem]
    exact cI (by rw [if_pos h])
  · simp only [go_sem]
    exact cI (by rw [if_neg (by rw [h]; simp)])
end Go.Proofs.YtpddaldlebngaaaGreatDoor.Nu
end

section
set_option linter.unusedSimpArgs false
set_option linter.unusedVariables false
namespace Go.Proofs.YtpddaldlebngaaaGreatDoor.Nu
open Go.Aw Go.Aw.D Go.Proofs Ty Go.Nu
set_option maxRecDepth 100000
theorem timesF_right:∀ (l:List (Int × ByteArray)) (t:ByteArray),rightR t=true→(timesF l t).2=0→rightR (timesF l t).1=true
  | [],t,h,_=>h
  | p :: l,t,h,h0=>by
    unfold timesF at h0 ⊢
    split at h0
    · next h1=>exact absurd h0 h1
    · next h1=>
      rw [if_neg h1]
      split at h0
      · next h2=>exact absurd h0 h2
      · next h2=>
        rw [if_neg h2]
        exact timesF_right l _ (addR_small (by simpa using h2)) h0
theorem times_right {ns:List Int} {xs:List ByteArray} (h:(timesR ns xs).2=0):rightR (timesR ns xs).1=true:=by
  unfold timesR at h ⊢
  split at h
  · cases h
  · next h1=>
    rw [if_neg h1]
    split at h
    · cases h
    · next h2=>rw [if_neg h2]; exact timesF_right _ _ zero_right h
end Go.Proofs.YtpddaldlebngaaaGreatDoor.Nu
end

section
set_option linter.unusedSimpArgs false
set_option linter.unusedVariables false
namespace Go.Proofs.YtpddaldlebngaaaGreatDoor
open Go.Aw Go.Aw.D Go.Proofs Ty
set_option maxRecDepth 100000
theorem opt_nil {α:Type} {b:Bool} {f:α} (h:opt b f=[]):b=false:=by cases b <;> simp [opt] at h ⊢
theorem inR_iff {n a b:Int}:inR n a b=true↔a≤n∧n≤b:=by
  unfold inR
  simp only [Bool.and_eq_true,decide_eq_true_eq]
theorem not_f {b:Bool} (h:(!b)=false):b=true:=by simpa using h
structure TypeB (t:VType) (d:Int):Prop where
  cap:capR t.cap d=true
  skills:0≤t.skills∧t.skills≤1073741823
  start:0≤t.start∧t.start≤t.close
  close:t.close≤4096
  drive:1≤t.drive∧t.drive≤4096
  rest:0≤t.rest∧t.rest≤4096
  count:0≤t.count∧t.count≤10
theorem typeB_of {n:Network} {l:List VType} {k:Nat} {t:VType} (h:typeErrs n l k t=[]):TypeB t (dimsR l):=by
  unfold typeErrs at h
  simp only [List.nil_append,List.append_eq_nil_iff] at h
  obtain ⟨⟨⟨⟨⟨⟨⟨⟨_,_⟩,h3⟩,_⟩,h5⟩,h6⟩,h7⟩,h8⟩,h9⟩:=h
  have e3:=inR_iff.1 (not_f (opt_nil h3))
  have e5:=not_f (opt_nil h5)
  have e6:=inR_iff.1 (not_f (opt_nil h6))
  have e7:=Bool.or_eq_false_iff.1 (opt_nil h7)
  have e8:=Bool.or_eq_false_iff.1 (opt_nil h8)
  have q7:=inR_iff.1 (not_f e7.1)
  have q72:¬ t.close > 4096:=by simpa using e7.2
  exact ⟨e5,e6,q7,by omega,inR_iff.1 (not_f e8.1),inR_iff.1 (not_f e8.2),e3⟩
structure OrdB (o:Order) (d:Int):Prop where
  load:rightL o.load d=true
  pick:-1≤o.pick.place
  drop:-1≤o.drop.place
  both:(o.pick.place == -1 && o.drop.place == -1)=false
  wpick:windowR o.pick=0
  wdrop:windowR o.drop=0
  skills:0≤o.skills∧o.skills≤1073741823
  penalty:-1≤o.penalty∧o.penalty≤1000000
theorem ordB_of {P:Nat} {d T:Int} {l:List Order} {k:Nat} {o:Order} (h:orderErrs P d T l k o=[]):OrdB o d:=by
  unfold orderErrs at h
  simp only [List.nil_append,List.append_eq_nil_iff] at h
  obtain ⟨⟨⟨⟨⟨⟨⟨_,_⟩,h3⟩,h4⟩,h5⟩,h6⟩,h7⟩,h8⟩:=h
  have e4:=Bool.or_eq_false_iff.1 (opt_nil h4)
  have e6:=Bool.or_eq_false_iff.1 (opt_nil h6)
  have e8:=opt_nil h8
  simp only [Bool.or_eq_false_iff] at e8
  refine ⟨not_f (opt_nil h3),(inR_iff.1 (not_f e4.1)).1,(inR_iff.1 (not_f e4.2)).1,opt_nil h5,by simpa using e6.1,by simpa using e6.2,inR_iff.1 (not_f (opt_nil h7)),inR_iff.1 (not_f e8.1.1.1.1.1.1)⟩
structure ArcOk (a:Arc):Prop where
  travel:travelR a.travel=[]
  slow:a.slow.length≤16
  pt:∀ p∈a.slow,(0≤p.t∧p.t≤4096)∧0≤p.a∧p.a≤4096
theorem arcOk_of {n:Network} {k:Nat} {a:Arc} (ha:n.arcs[k]?=some a) (h:arcR n k=[]):ArcOk a:=by
  unfold arcR at h
  rw [arcAt_get ha] at h
  simp only [List.nil_append,List.append_eq_nil_iff,List.map_eq_nil_iff] at h
  obtain ⟨⟨⟨_,h4⟩,h5⟩,h6⟩:=h
  have e5:¬ (a.slow.length:Int) > 16:=by simpa using opt_nil h5
  refine ⟨h4,by omega,fun p hp=>?_⟩
  obtain ⟨i,hi,rfl⟩:=List.getElem_of_mem hp
  have:=List.flatMap_eq_nil_iff.1 h6 i (List.mem_range.2 hi)
  have hb:=opt_nil this
  unfold badSlow at hb
  rw [ptAt_get (List.getElem?_eq_getElem hi)] at hb
  simp only [Bool.or_eq_false_iff] at hb
  exact ⟨inR_iff.1 (not_f hb.1.1),inR_iff.1 (not_f hb.1.2)⟩
structure PairB (N:Int) (q:Pair):Prop where
  a:0≤q.a∧q.a < N
  b:0≤q.b∧q.b < N
  ne:q.a≠q.b
theorem pairB_of {N:Int} {l:List Pair} {w:ByteArray} {s:Bool} (h:pairsR N l w s=[]):l.length≤16∧∀ q∈l,PairB N q:=by
  unfold pairsR at h
  rw [List.append_eq_nil_iff] at h
  have e1:¬ (l.length:Int) > 16:=by simpa using opt_nil h.1
  refine ⟨by omega,fun q hq=>?_⟩
  obtain ⟨i,hi,rfl⟩:=List.getElem_of_mem hq
  have:=List.flatMap_eq_nil_iff.1 h.2 i (List.mem_range.2 hi)
  unfold pairFaults at this
  have ep:pAt l i=l[i]:=by simp [pAt,List.getD,hi]
  rw [ep] at this
  split at this
  · simp at this
  · rename_i hb
    unfold Go.Proofs.YtpddaldlebngaaaGreatDoor.badPair at hb
    simp only [Bool.or_eq_false_iff,decide_eq_false_iff_not] at hb
    exact ⟨by omega,by omega,by simpa using hb.2⟩
structure Acc (x:Instance):Prop where
  arcs:x.net.arcs.length≤1024
  arc:∀ a∈x.net.arcs,ArcOk a
  types:1≤x.types.length∧x.types.length≤6
  type:∀ t∈x.types,TypeB t (dimsR x.types)
  orders:x.orders.length≤10
  order:∀ o∈x.orders,OrdB o (dimsR x.types)
  apart:x.apart.length≤16
  apartB:∀ q∈x.apart,PairB x.orders.length q
  before:x.before.length≤16
  beforeB:∀ q∈x.before,PairB x.orders.length q
theorem acc_of {x:Instance} (h:checkR x=[]):Acc x:=by
  unfold checkR at h
  simp only [List.append_eq_nil_iff,List.map_eq_nil_iff] at h
  obtain ⟨⟨⟨hn,ht⟩,ho⟩,hr⟩:=h
  unfold netR at hn
  simp only [List.append_eq_nil_iff] at hn
  unfold typesR at ht
  rw [List.append_eq_nil_iff] at ht
  unfold ordersR at ho
  rw [List.append_eq_nil_iff] at ho
  unfold rulesR at hr
  rw [List.append_eq_nil_iff] at hr
  obtain ⟨r1,r2⟩:=pairB_of hr.1
  obtain ⟨r3,r4⟩:=pairB_of hr.2
  have e1:¬ (x.net.arcs.length:Int) > 1024:=by simpa using opt_nil hn.1.2
  have e2:=inR_iff.1 (not_f (opt_nil ht.1))
  have e3:¬ (x.orders.length:Int) > 10:=by simpa using opt_nil ho.1
  refine ⟨by omega,fun a ha=>?_,by omega,fun t htm=>?_,by omega,fun o hom=>?_,r1,r2,r3,r4⟩
  · obtain ⟨i,hi,rfl⟩:=List.getElem_of_mem ha
    exact arcOk_of (List.getElem?_eq_getElem hi) (List.flatMap_eq_nil_iff.1 hn.2 i (List.mem_range.2 hi))
  · obtain ⟨i,hi,rfl⟩:=List.getElem_of_mem htm
    have:=List.flatMap_eq_nil_iff.1 ht.2 i (List.mem_range.2 hi)
    unfold typeFaults at this
    rw [List.map_eq_nil_iff,vtAt_get (List.getElem?_eq_getElem hi)] at this
    exact typeB_of this
  · obtain ⟨i,hi,rfl⟩:=List.getElem_of_mem hom
    have:=List.flatMap_eq_nil_iff.1 ho.2 i (List.mem_range.2 hi)
    unfold orderFaults at this
    rw [List.map_eq_nil_iff,orAt_get (List.getElem?_eq_getElem hi)] at this
    exact ordB_of this
end Go.Proofs.YtpddaldlebngaaaGreatDoor
end

section
set_option linter.unusedSimpArgs false
set_option linter.unusedVariables false
namespace Go.Proofs.YtpddaldlebngaaaGreatDoor.Nu
open Go.Aw Go.Aw.D Go.Proofs Ty Go.Nu
set_option maxRecDepth 100000
def bitsN (p:Nat→Bool):Nat→Nat
  | 0=>0
  | k + 1=>bitsN p k + (if p k=true then 2 ^ k else 0)
theorem bitsN_lt (p:Nat→Bool):∀ k,bitsN p k < 2 ^ k
  | 0=>by simp [bitsN]
  | k + 1=>by have:=bitsN_lt p k; rw [bitsN,Nat.pow_succ]; split <;> omega
theorem bitsN_test (p:Nat→Bool):∀ k i,(bitsN p k).testBit i=(decide (i < k) && p i)
  | 0,i=>by simp [bitsN]
  | k + 1,i=>by
    have hlt:=bitsN_lt p k
    have ih:=bitsN_test p k i
    rw [bitsN]
    have hs:bitsN p k + (if p k=true then 2 ^ k else 0)=bitsN p k ||| (if p k=true then 2 ^ k else 0):=by
      split
      · rw [Nat.add_comm,Nat.or_comm]; have:=Nat.two_pow_add_eq_or_of_lt hlt 1; simpa using this
      · simp
    rw [hs,Nat.testBit_or,ih]
    by_cases h:p k=true
    · rw [if_pos h,Nat.testBit_two_pow]
      by_cases e:k=i
      · subst e; simp [h]
      · have:(decide (i < k + 1))=decide (i < k):=by rw [Bool.eq_iff_iff]; simp; omega
        rw [this]; simp [e]
    · rw [if_neg h]
      by_cases e:k=i
      · subst e; simp [h]
      · have:(decide (i < k + 1))=decide (i < k):=by rw [Bool.eq_iff_iff]; simp; omega
        rw [this]; simp
theorem or_low {a k:Nat} (h:a < 2 ^ k):a ||| 2 ^ k=a + 2 ^ k:=by
  rw [Nat.or_comm,Nat.add_comm]; have:=Nat.two_pow_add_eq_or_of_lt h 1; simpa using this.symm
theorem or_nat {a b:Nat} (ha:a < 2 ^ 63) (hb:b < 2 ^ 63):bitV .or .i64 (a:Int) (b:Int)=((a ||| b:Nat):Int):=by
  have h:((BitVec.ofInt 64 (a:Int) ||| BitVec.ofInt 64 (b:Int)).toNat:Int)=((a ||| b:Nat):Int):=by
    rw [BitVec.toNat_or,BitVec.toNat_ofInt,BitVec.toNat_ofInt]
    have h1:((a:Int) % ((2 ^ 64:Nat):Int)).toNat=a:=by omega
    have h2:((b:Int) % ((2 ^ 64:Nat):Int)).toNat=b:=by omega
    rw [h1,h2]
  refine Eq.trans (congrArg IntKind.i64.wrap h) ?_
  have:=Nat.or_lt_two_pow ha hb
  exact wrap_in (by omega)
theorem shl_in {i:Nat} (h:i≤62):shV .shl .i64 1 (i:Int)=((2 ^ i:Nat):Int):=by
  show IntKind.i64.wrap (1 * 2 ^ min ((i:Int)).toNat 64)=_
  have:min ((i:Int)).toNat 64=i:=by omega
  rw [this,Int.one_mul]
  have h2:(2:Nat) ^ i≤2 ^ 62:=Nat.pow_le_pow_right (by decide) h
  have h3:((2:Int) ^ i)=((2 ^ i:Nat):Int):=by norm_cast
  rw [h3]
  generalize 2 ^ i=m at h2
  exact wrap_in (by omega)
theorem hasR_nat {s:Nat} {i:Nat} (h1:i≤62):hasR (s:Int) (i:Int)=s.testBit i:=by
  rw [Nat.testBit_eq_decide_div_mod_eq]
  unfold hasR
  have h3:((2:Int) ^ i)=((2 ^ i:Nat):Int):=by norm_cast
  rw [Int.toNat_natCast,h3]
  have:((s:Int) / ((2 ^ i:Nat):Int))=((s / 2 ^ i:Nat):Int):=rfl
  rw [this]
  generalize s / 2 ^ i=m
  rw [Bool.eq_iff_iff]
  simp only [beq_iff_eq,decide_eq_true_eq,Bool.and_eq_true]
  omega
theorem within_nat {a b:Nat} (ha:a < 2 ^ 63) (hb:b < 2 ^ 63):(bitV .andNot .i64 (a:Int) (b:Int) == 0)=decide (a &&& b=a):=by
  have e:bitV .andNot .i64 (a:Int) (b:Int)=((a - (a &&& b):Nat):Int):=by
    have h1:((a:Int) % ((2 ^ 64:Nat):Int)).toNat=a:=by omega
    have h2:((b:Int) % ((2 ^ 64:Nat):Int)).toNat=b:=by omega
    have h:((BitVec.ofInt 64 (a:Int) &&& ~~~(BitVec.ofInt 64 (b:Int))).toNat:Int)=((a - (a &&& b):Nat):Int):=by
      have hle:a &&& b≤a:=Nat.and_le_left
      have hx:BitVec.ofInt 64 (a:Int) &&& ~~~(BitVec.ofInt 64 (b:Int))=BitVec.ofNat 64 (a - (a &&& b)):=by
        have h3:BitVec.ofInt 64 (a:Int)=BitVec.ofNat 64 a:=by apply BitVec.eq_of_toNat_eq; rw [BitVec.toNat_ofInt,BitVec.toNat_ofNat,h1,Nat.mod_eq_of_lt (by omega)]
        have h4:BitVec.ofInt 64 (b:Int)=BitVec.ofNat 64 b:=by apply BitVec.eq_of_toNat_eq; rw [BitVec.toNat_ofInt,BitVec.toNat_ofNat,h2,Nat.mod_eq_of_lt (by omega)]
        rw [h3,h4]
        have h5:(BitVec.ofNat 64 a &&& ~~~BitVec.ofNat 64 b) &&& BitVec.ofNat 64 (a &&& b)=0#64:=by
          apply BitVec.eq_of_getLsbD_eq
          intro i hi
          simp only [BitVec.getLsbD_and,BitVec.getLsbD_not,BitVec.getLsbD_ofNat,Nat.testBit_and,hi,decide_true,Bool.true_and,BitVec.getLsbD_zero]
          cases a.testBit i <;> cases b.testBit i <;> simp
        have h6:(BitVec.ofNat 64 a &&& ~~~BitVec.ofNat 64 b) ||| BitVec.ofNat 64 (a &&& b)=BitVec.ofNat 64 a:=by
          apply BitVec.eq_of_getLsbD_eq
          intro i hi
          simp only [BitVec.getLsbD_or,BitVec.getLsbD_and,BitVec.getLsbD_not,BitVec.getLsbD_ofNat,Nat.testBit_and,hi,decide_true,Bool.true_and]
          cases a.testBit i <;> cases b.testBit i <;> rfl
        have h7:=congrArg BitVec.toNat ((BitVec.add_eq_or_of_and_eq_zero _ _ h5).trans h6)
        rw [BitVec.toNat_add,BitVec.toNat_ofNat,BitVec.toNat_ofNat,Nat.mod_eq_of_lt (by omega:a < 2 ^ 64),Nat.mod_eq_of_lt (by omega:a &&& b < 2 ^ 64)] at h7
        apply BitVec.eq_of_toNat_eq
        rw [BitVec.toNat_ofNat,Nat.mod_eq_of_lt (by omega)]
        have hl:=(BitVec.ofNat 64 a &&& ~~~BitVec.ofNat 64 b).isLt
        have hle2:(BitVec.ofNat 64 a &&& ~~~BitVec.ofNat 64 b).toNat≤a:=by
          rw [BitVec.toNat_and,BitVec.toNat_ofNat,Nat.mod_eq_of_lt (by omega:a < 2 ^ 64)]
          exact Nat.and_le_left
        omega
      rw [hx,BitVec.toNat_ofNat,Nat.mod_eq_of_lt (by omega)]
    refine Eq.trans (congrArg IntKind.i64.wrap h) ?_
    exact wrap_in (by omega)
  rw [e,Bool.eq_iff_iff]
  have hle:a &&& b≤a:=Nat.and_le_left
  simp only [beq_iff_eq,decide_eq_true_eq]
  omega
theorem swithin_c (a b:Nat) (ha:a < 2 ^ 63) (hb:b < 2 ^ 63):PC Tryz.prog 161 [int a,int b] (boo (decide (a &&& b=a))):=by
  refine PC.body (c:=Tryz.f161.body.getD .skip) (fun _=>false) mixed Tryz.func161 rfl (by kernel_rfl) ?_
  unfold Tryz.f161
  simp only [Option.getD_some]
  simp only [go_sem]
  exact cB (within_nat ha hb)
def suchB (q:Order→Bool) (l:List Order) (i:Nat):Bool:=match l[i]? with | some o=>!o.off && q o | none=>false
theorem suchB_at {q:Order→Bool} {l:List Order} {i:Nat} {o:Order} (h:l[i]?=some o):suchB q l i=(!o.off && q o):=by unfold suchB; rw [h]
def suchN (q:Order→Bool) (l:List Order):Nat:=bitsN (suchB q l) l.length
theorem such_c {g : Nat} {q : Order → Bool} (x : Instance) (hx : x.orders.length ≤ 62) (hok : callOk Tryz.prog g = true) (hg : ∀ o ∈ x.orders, PC Tryz.prog g [.agg (encOrder o)] (boo (q o))) :
    PC Tryz.prog 74 [.agg (encInstance x),.v (.func (.func g) #[] #[])] (int (suchN q x.orders:Nat)):=by
  refine PC.body (c:=Tryz.f74.body.getD .skip) (fun _=>false) mixed Tryz.func74 rfl (by kernel_rfl) ?_
  unfold Tryz.f74
  simp only [Option.getD_some]
  simp only [go_sem]
  unfold suchN
  generalize hp:suchB q x.orders=p
  refine ⟨fun ρ H=>∃ (k:Nat),k≤x.orders.length∧ρ 1=.v (.func (.func g) #[] #[])∧ρ 9=.sl (x.orders.map encOrder)∧ρ 10=int (x.orders.length:Nat)∧ρ 11=int k∧ρ 5=int (bitsN p k:Nat),fun ρ _=>x.orders.length - natOf (ρ 11),⟨0,Nat.zero_le _,by simp only [go_sem],by simp only [go_sem],by simp only [go_sem,List.length_map],(by simp only [go_sem]; rfl),by simp only [go_sem]; rfl⟩,?_⟩
  rintro ρ H ⟨k,hk,e1,e9,e10,e11,e5⟩
  simp only [go_sem,e1,e9,e10,e11,e5]
  refine acond_i (fun hlt=>?_) (fun hge=>?_)
  · have hlt:=ltB hlt
    obtain ⟨o,ho⟩:=getIn hlt
    have b1:=inB hlt
    have hpk:p k=(!o.off && q o):=by rw [← hp]; exact suchB_at ho
    have hbl:=bitsN_lt p k
    have hk2:2 ^ k≤2 ^ 62:=Nat.pow_le_pow_right (by decide) (by omega)
    simp only [go_sem,e1,e9,e10,e11,e5,getD_map ho,b1]
    refine anew_i fun j hj=>?_
    simp only [go_sem,e1,e9,e10,e11,e5,getD_map ho,b1]
    refine wputE_n (updH_same _ _ _) (by simp [encOrder]) ?_
    simp only [go_sem,e1,e9,e10,e11,e5,getD_map ho,b1,hok]
    refine ⟨_,fun _=>(hg o (List.mem_of_getElem? ho)).q rfl,?_⟩
    simp only [go_sem,e1,e9,e10,e11,e5]
    refine acond_i (fun hb=>?_) (fun hb=>?_)
    · have q1:=shl_in (i:=k) (by omega)
      have q2:=or_nat (a:=bitsN p k) (b:=2 ^ k) (by omega) (by omega)
      simp only [go_sem,e1,e9,e10,e11,e5,q1,q2,wrapS (show k≤4611686018427387904 by omega)]
      refine ⟨by omega,⟨k + 1,hlt,rfl,?_⟩,by simp only [natOf_int]; omega⟩
      rw [or_low hbl,bitsN,hpk,if_pos hb]
    · simp only [go_sem,e1,e9,e10,e11,e5,wrapS (show k≤4611686018427387904 by omega)]
      refine ⟨⟨k + 1,hlt,rfl,?_⟩,by simp only [natOf_int]; omega⟩
      rw [bitsN,hpk,if_neg (by rw [hb]; simp),Nat.add_zero]
  · have hge:=geB hk hge
    subst hge
    simp only [go_sem,e1,e9,e10,e11,e5]
    exact .refl _
def allO (x:Instance):Nat:=suchN (fun _=>true) x.orders
def mustO (x:Instance):Nat:=suchN (fun o=>o.penalty == -1) x.orders
theorem all1_c (o:Order):PC Tryz.prog 75 [.agg (encOrder o)] (boo true):=by
  refine PC.body (c:=Tryz.f75.body.getD .skip) (fun _=>false) mixed Tryz.func75 rfl (by kernel_rfl) ?_
  unfold Tryz.f75
  simp only [Option.getD_some]
  simp only [go_sem]
  exact .refl _
theorem must1_c (o:Order):PC Tryz.prog 92 [.agg (encOrder o)] (boo (o.penalty == -1)):=by
  refine PC.body (c:=Tryz.f92.body.getD .skip) (fun _=>false) mixed Tryz.func92 rfl (by kernel_rfl) ?_
  unfold Tryz.f92
  simp only [Option.getD_some]
  simp only [go_sem]
  exact .refl _
theorem all_c (x:Instance) (hx:x.orders.length≤62):PC Tryz.prog 34 [.agg (encInstance x)] (int (allO x:Nat)):=by
  refine PC.body (c:=Tryz.f34.body.getD .skip) (fun _=>false) mixed Tryz.func34 rfl (by kernel_rfl) ?_
  unfold Tryz.f34
  simp only [Option.getD_some]
  simp only [go_sem]
  refine PC.use (such_c x hx (by kernel_rfl) fun o _=>all1_c o) ?_
  simp only [go_sem]
  exact .refl _
theorem must_c (x:Instance) (hx:x.orders.length≤62):PC Tryz.prog 46 [.agg (encInstance x)] (int (mustO x:Nat)):=by
  refine PC.body (c:=Tryz.f46.body.getD .skip) (fun _=>false) mixed Tryz.func46 rfl (by kernel_rfl) ?_
  unfold Tryz.f46
  simp only [Option.getD_some]
  simp only [go_sem]
  refine PC.use (such_c x hx (by kernel_rfl) fun o _=>must1_c o) ?_
  simp only [go_sem]
  exact .refl _
def existP (n:Nat) (set:Int):Bool:=decide (set≥0) && (set / 2 ^ n == 0)
theorem exist_c (x:Instance) (set:Int) (hx:x.orders.length≤62):PC Tryz.prog 124 [.agg (encInstance x),int set] (boo (existP x.orders.length set)):=by
  refine PC.body (c:=Tryz.f124.body.getD .skip) (fun _=>false) mixed Tryz.func124 rfl (by kernel_rfl) ?_
  unfold Tryz.f124
  simp only [Option.getD_some]
  simp only [go_sem]
  refine ⟨by omega,?_⟩
  refine cB ?_
  rw [shr_in hx]
  rfl
end Go.Proofs.YtpddaldlebngaaaGreatDoor.Nu
end

section
set_option linter.unusedSimpArgs false
set_option linter.unusedVariables false
namespace Go.Proofs.YtpddaldlebngaaaGreatDoor.Nu
open Go.Aw Go.Aw.D Go.Proofs Ty Go.Nu
set_option maxRecDepth 100000
theorem indexFuncI_c {g : Nat} {cap : List AV} {p : Int → Bool} (l : List Int) (hl : l.length ≤ 1048576) (hok : callOk Tryz.prog g = true) (hg : ∀ v ∈ l, PC Tryz.prog g (int v :: cap) (boo (p v))) :
    ∃ n:Int,decide (n≥0)=l.any p∧PC Tryz.prog 231 [.sl (l.map encInt),.fn g cap] (int n):=by
  refine ⟨match l.findIdx? p with | some i=>(i:Int) | none=>-1,?_,?_⟩
  · cases h:l.findIdx? p with
    | none=>
      have:=List.findIdx?_eq_none_iff.1 h
      simp only
      rw [List.any_eq_false.2 (fun x hx=>by rw [this x hx]; simp)]
      rfl
    | some i=>
      obtain ⟨hi,hp,_⟩:=List.findIdx?_eq_some_iff_getElem.1 h
      simp only
      rw [List.any_eq_true.2 ⟨l[i],List.getElem_mem hi,hp⟩]
      simp
  ·
    refine PC.body (c:=Tryz.f231.body.getD .skip) (fun _=>false) mixed Tryz.func231 rfl (by kernel_rfl) ?_
    unfold Tryz.f231
    simp only [Option.getD_some]
    simp only [go_sem]
    refine ⟨fun ρ H=>∃ (k:Nat),k≤l.length∧ρ 0=.sl (l.map encInt)∧ρ 1=.fn g cap∧ρ 7=int (l.length:Nat)∧ρ 8=int k∧∀ u∈l.take k,p u=false,fun ρ _=>l.length - natOf (ρ 8),⟨0,Nat.zero_le _,by simp only [go_sem],by simp only [go_sem],by simp only [go_sem,List.length_map],(by simp only [go_sem]; rfl),by simp⟩,?_⟩
    rintro ρ H ⟨k,hk,e0,e1,e7,e8,hz⟩
    simp only [go_sem,e0,e1,e7,e8]
    refine acond_i (fun hlt=>?_) (fun hge=>?_)
    · have hlt:=ltB hlt
      obtain ⟨u,hu⟩:=getIn hlt
      have b1:=inB hlt
      simp only [go_sem,e0,e1,e7,e8,getD_map hu,b1,hok]
      refine PC.use (hg u (List.mem_of_getElem? hu)) ?_
      simp only [go_sem,e0,e1,e7,e8]
      refine acond_i (fun hb=>?_) (fun hb=>?_)
      · simp only [go_sem,e0,e1,e7,e8]
        have:l.findIdx? p=some k:=by
          have hk':k < l.length:=hlt
          refine List.findIdx?_eq_some_iff_getElem.2 ⟨hk',?_,fun j hj=>?_⟩
          · have:=(List.getElem?_eq_some_iff.1 hu).2; rw [this]; exact hb
          · have:=hz l[j] (List.mem_take_iff_getElem.2 ⟨j,by omega,rfl⟩); rw [this]; simp
        rw [this]
        exact .refl _
      · simp only [go_sem,e0,e1,e7,e8,wrapS (show k≤4611686018427387904 by omega)]
        exact ⟨⟨k + 1,hlt,rfl,take_all' (p:=fun u=>p u=false) hu hb hz⟩,by simp only [natOf_int]; omega⟩
    · have hge:=geB hk hge
      subst hge
      rw [List.take_length] at hz
      simp only [go_sem]
      rw [List.findIdx?_eq_none_iff.2 hz]
      exact .refl _
theorem containsFuncI_c {g : Nat} {cap : List AV} {p : Int → Bool} (l : List Int) (hl : l.length ≤ 1048576) (hok : callOk Tryz.prog g = true) (hg : ∀ v ∈ l, PC Tryz.prog g (int v :: cap) (boo (p v))) :
    PC Tryz.prog 204 [.sl (l.map encInt),.fn g cap] (boo (l.any p)):=by
  obtain ⟨n,hn,hc⟩:=indexFuncI_c l hl hok hg
  refine PC.body (c:=Tryz.f204.body.getD .skip) (fun _=>false) mixed Tryz.func204 rfl (by kernel_rfl) ?_
  unfold Tryz.f204
  simp only [Option.getD_some]
  simp only [go_sem]
  refine PC.use hc ?_
  simp only [go_sem]
  exact cB hn
def orderAt (l:List Order) (i:Int):Order:=l.getD i.toNat ⟨ByteArray.empty,[],⟨0,0,0,0⟩,⟨0,0,0,0⟩,0,0,0,0,0,false⟩
theorem orderAt_get {l:List Order} {i:Nat} {o:Order} (h:l[i]?=some o):orderAt l (i:Int)=o:=by simp [orderAt,List.getD,h]
def Memb (l:List Order) (ms:List Int):Prop:=∀ i∈ms,0≤i∧i < (l.length:Int)
theorem together11_c (x : Instance) (g : Nat) (q : Order → Int) (i : Int) (hi : 0 ≤ i ∧ i < (x.orders.length : Int)) (hok : callOk Tryz.prog g = true) (hg : ∀ o, PC Tryz.prog g [.agg (encOrder o)] (int (q o))) :
    PC Tryz.prog 205 [int i,.rp [.v (.func (.func g) #[] #[])] 0,.rp (encInstance x) 0] (boo (decide (q (orderAt x.orders i)≥0))):=by
  obtain ⟨n,rfl⟩:=Int.eq_ofNat_of_zero_le hi.1
  have hlt:n < x.orders.length:=by omega
  obtain ⟨o,ho⟩:=getIn hlt
  have b1:=inB hlt
  rw [orderAt_get ho]
  refine PC.body (c:=Tryz.f205.body.getD .skip) (fun _=>false) mixed Tryz.func205 rfl (by kernel_rfl) ?_
  unfold Tryz.f205
  simp only [Option.getD_some]
  simp only [go_sem]
  refine adraw_q (by rfl) (by kernel_rfl) ?_
  simp only [go_sem,getD_map ho,b1,hok]
  refine ⟨_,(hg o).q rfl,?_⟩
  simp only [go_sem]
  exact .refl _
theorem togetherP_c (o:Order):PC Tryz.prog 206 [.agg (encOrder o)] (int o.pick.place):=by
  refine PC.body (c:=Tryz.f206.body.getD .skip) (fun _=>false) mixed Tryz.func206 rfl (by kernel_rfl) ?_
  unfold Tryz.f206
  simp only [Option.getD_some]
  simp only [go_sem]
  exact .refl _
theorem togetherD_c (o:Order):PC Tryz.prog 207 [.agg (encOrder o)] (int o.drop.place):=by
  refine PC.body (c:=Tryz.f207.body.getD .skip) (fun _=>false) mixed Tryz.func207 rfl (by kernel_rfl) ?_
  unfold Tryz.f207
  simp only [Option.getD_some]
  simp only [go_sem]
  exact .refl _
theorem together1_c (x : Instance) (g : Nat) (q : Order → Int) (ms : List Int) (hm : Memb x.orders ms) (hl : ms.length ≤ 1048576) (hok : callOk Tryz.prog g = true) (hg : ∀ o, PC Tryz.prog g [.agg (encOrder o)] (int (q o))) :
    PC Tryz.prog 203 [.v (.func (.func g) #[] #[]),.rp [.sl (ms.map encInt)] 0,.rp (encInstance x) 0] (boo (!(ms.any fun i=>decide (q (orderAt x.orders i)≥0)))):=by
  refine PC.body (c:=Tryz.f203.body.getD .skip) (fun _=>false) mixed Tryz.func203 rfl (by kernel_rfl) ?_
  unfold Tryz.f203
  simp only [Option.getD_some]
  simp only [go_sem]
  refine PC.use (containsFuncI_c (p:=fun i=>decide (q (orderAt x.orders i)≥0)) ms hl (by kernel_rfl) (fun i hi=>together11_c x g q i (hm i hi) hok hg)) ?_
  simp only [go_sem]
  exact .refl _
def togP (x:Instance) (ms:List Int):Bool:=!(ms.any fun i=>decide ((orderAt x.orders i).pick.place≥0)) || !(ms.any fun i=>decide ((orderAt x.orders i).drop.place≥0))
theorem together_c (x:Instance) (ms:List Int) (hm:Memb x.orders ms) (hl:ms.length≤1048576):PC Tryz.prog 162 [.agg (encInstance x),.sl (ms.map encInt)] (boo (togP x ms)):=by
  refine PC.body (c:=Tryz.f162.body.getD .skip) (fun _=>false) mixed Tryz.func162 rfl (by kernel_rfl) ?_
  unfold Tryz.f162
  simp only [Option.getD_some]
  simp only [go_sem]
  refine PC.use (together1_c x _ (fun o=>o.pick.place) ms hm hl (by kernel_rfl) togetherP_c) ?_
  simp only [go_sem]
  refine ⟨_,fun _=>(together1_c x _ (fun o=>o.drop.place) ms hm hl (by kernel_rfl) togetherD_c).q rfl,?_⟩
  simp only [go_sem]
  exact .refl _
end Go.Proofs.YtpddaldlebngaaaGreatDoor.Nu
end
