/- Texts joined by a program: NuN, NuO, NuT, NuP. -/
import Derived.Test.YtdlijlecpopadaaGreatDoorZx14
import Derived.Test.YtdlijlecpopadaaGreatDoorZx19

section
set_option linter.unusedSimpArgs false
set_option linter.unusedVariables false
namespace Go.Proofs.YtdlijlecpopadaaGreatDoor.Nu
open Go.Aw Go.Aw.D Go.Proofs Ty Go.Nu
open Go.RowKit (Below)
set_option maxRecDepth 100000
theorem idx_slash : ∀ l : List UInt8, Lib.indexByte l 47 = if l.any (· == slash) = true then ((l.takeWhile (· != slash)).length : Int) else -1
  | [] => rfl
  | c :: l => by
    have ih := idx_slash l
    unfold Lib.indexByte
    by_cases h : c = slash
    · subst h; rfl
    · have h1 : (c == (47 : UInt8)) = false := by simpa [slash] using h
      have h2 : (c == slash) = false := by simpa using h
      have h3 : (c != slash) = true := by simpa using h
      rw [h1, ih, List.any_cons, h2, List.takeWhile_cons, h3]
      simp only [Bool.false_eq_true, if_false, Bool.false_or, if_true]
      split
      · rw [if_neg (by simp)]
        simp
      · rfl
theorem take_tw {α : Type} (p : α → Bool) : ∀ l : List α, l.take (l.takeWhile p).length = l.takeWhile p
  | [] => rfl
  | a :: l => by
    rw [List.takeWhile_cons]
    split
    · rw [List.length_cons, List.take_succ_cons, take_tw p l]
    · rfl
theorem drop_tw {α : Type} (p : α → Bool) : ∀ l : List α, l.drop ((l.takeWhile p).length + 1) = (l.dropWhile p).drop 1
  | [] => rfl
  | a :: l => by
    rw [List.takeWhile_cons, List.dropWhile_cons]
    split
    · rw [List.length_cons, List.drop_succ_cons, drop_tw p l]
    · rfl
theorem tw_lt {l : List UInt8} (h : l.any (· == slash) = true) : (l.takeWhile (· != slash)).length < l.length := by
  rcases Nat.lt_or_ge (l.takeWhile (· != slash)).length l.length with h1 | h1
  · exact h1
  · exfalso
    have h2 := take_tw (· != slash) l
    rw [List.take_of_length_le h1] at h2
    obtain ⟨c, hc, hcs⟩ := List.any_eq_true.1 h
    rw [h2] at hc
    have := takeW_mem hc
    simp at this hcs
    exact this hcs
def idxS (s : ByteArray) : Int := if hasSl s = true then (((bl s).takeWhile (· != slash)).length : Int) else -1
theorem sindex_c (s : ByteArray) : PC Tryz.prog 183 [str s, str ⟨#[47]⟩] (int (idxS s)) := by
  refine PC.lib (a := [.string s, .string ⟨#[47]⟩]) (v := .int .i64 (idxS s)) (fun S w => rfl) fun w _ => (Tryz.stringslite_Index_one s 47 w).mono fun e w' ⟨he, hw⟩ => ?_
  rw [hw]
  exact ⟨he.trans (by rw [show s.data.toList = bl s from rfl, idx_slash]; rfl), Below.refl _ _⟩
theorem scontains_c (s : ByteArray) : PC Tryz.prog 84 [str s, str ⟨#[47]⟩] (boo (hasSl s)) := by
  refine PC.lib (a := [.string s, .string ⟨#[47]⟩]) (v := .bool (hasSl s)) (fun S w => rfl) fun w _ => (Tryz.strings_Contains_one s 47 w).mono fun e w' ⟨he, hw⟩ => ?_
  rw [hw]
  refine ⟨he.trans ?_, Below.refl _ _⟩
  rw [show s.data.toList = bl s from rfl, idx_slash]
  unfold hasSl
  cases (bl s).any (· == slash) <;> simp
def afterT (s : ByteArray) : ByteArray := ⟨(((bl s).dropWhile (· != slash)).drop 1).toArray⟩
theorem cut1_c (s : ByteArray) (h : s.size ≤ 1048576) : PC Tryz.prog 182 [str s, str ⟨#[47]⟩] (.tup (if hasSl s = true then [str (numT s), str (afterT s), boo true] else [str s, str emp, boo false])) := by
  refine PC.body (c := Tryz.f182.body.getD .skip) (fun _ => false) mixed Tryz.func182 rfl (by kernel_rfl) ?_
  unfold Tryz.f182
  simp only [Option.getD_some]
  simp only [go_sem]
  refine PC.use (sindex_c s) ?_
  simp only [go_sem]
  have hl := bl_size s
  refine acond_i (fun hb => ?_) (fun hb => ?_)
  · have hs : hasSl s = true := by
      have hb := of_decide_eq_true hb
      unfold idxS at hb
      split at hb
      · assumption
      · omega
    have hlt := tw_lt hs
    rw [if_pos hs, show idxS s = (((bl s).takeWhile (· != slash)).length : Int) from if_pos hs]
    simp only [go_sem]
    refine adraw_q (by rfl) (by kernel_rfl) ?_
    simp only [go_sem]
    have e1 : s.extract 0 ((bl s).takeWhile (· != slash)).length = numT s := bl_ext (by rw [bl_extract, List.drop_zero, take_tw]; exact (bl_mk _).symm)
    have e2 : s.extract (((bl s).takeWhile (· != slash)).length + 1) s.size = afterT s := bl_ext (by rw [bl_extract, ← hl, List.take_length, drop_tw]; exact (bl_mk _).symm)
    refine ⟨⟨by omega, by omega⟩, ?_⟩
    have e3 : IntKind.i64.wrap ((((bl s).takeWhile (· != slash)).length : Int) + ((#[47] : Array UInt8).size : Nat)) = ((((bl s).takeWhile (· != slash)).length + 1 : Nat) : Int) := wrapS (by omega)
    simp only [e3, Int.toNat_natCast, e1, e2]
    refine ⟨⟨by omega, by omega⟩, ?_⟩
    exact .refl _
  · have hs : ¬ hasSl s = true := fun hs => by
      have hb := of_decide_eq_false hb
      unfold idxS at hb
      rw [if_pos hs] at hb
      omega
    rw [if_neg hs]
    simp only [go_sem]
    exact .refl _
theorem numT_all {s : ByteArray} (h : hasSl s = false) : numT s = s := by
  refine bl_ext ?_
  unfold numT
  rw [bl_mk]
  refine takeW_self fun c hc => ?_
  unfold hasSl at h
  rw [List.any_eq_false] at h
  have := h c hc
  simpa using this
theorem cut_c (s : ByteArray) (h : s.size ≤ 1048576) : PC Tryz.prog 142 [str s, str ⟨#[47]⟩] (.tup (if hasSl s = true then [str (numT s), str (afterT s), boo true] else [str s, str emp, boo false])) := by
  by_cases hs : hasSl s = true
  · have := cut1_c s h
    rw [if_pos hs] at this ⊢
    refine PC.body (c := Tryz.f142.body.getD .skip) (fun _ => false) mixed Tryz.func142 rfl (by kernel_rfl) ?_
    unfold Tryz.f142
    simp only [Option.getD_some]
    simp only [go_sem]
    refine PC.use this ?_
    simp only [go_sem]
    exact .refl _
  · have := cut1_c s h
    rw [if_neg hs] at this ⊢
    refine PC.body (c := Tryz.f142.body.getD .skip) (fun _ => false) mixed Tryz.func142 rfl (by kernel_rfl) ?_
    unfold Tryz.f142
    simp only [Option.getD_some]
    simp only [go_sem]
    refine PC.use this ?_
    simp only [go_sem]
    exact .refl _
theorem split_c (s : ByteArray) (h : s.size ≤ 1048576) : PC Tryz.prog 81 [str s] (.tup [str (numT s), str (denT s)]) := by
  have hc := cut_c s h
  by_cases hs : hasSl s = true
  · rw [if_pos hs] at hc
    refine PC.body (c := Tryz.f81.body.getD .skip) (fun _ => false) mixed Tryz.func81 rfl (by kernel_rfl) ?_
    unfold Tryz.f81
    simp only [Option.getD_some]
    simp only [go_sem]
    refine PC.use hc ?_
    simp only [go_sem]
    refine acond_i (fun hb => by cases hb) (fun _ => ?_)
    simp only [go_sem]
    rw [show denT s = afterT s from if_pos hs]
    exact .refl _
  · rw [if_neg hs] at hc
    refine PC.body (c := Tryz.f81.body.getD .skip) (fun _ => false) mixed Tryz.func81 rfl (by kernel_rfl) ?_
    unfold Tryz.f81
    simp only [Option.getD_some]
    simp only [go_sem]
    refine PC.use hc ?_
    simp only [go_sem]
    refine acond_i (fun _ => ?_) (fun hb => by cases hb)
    simp only [go_sem]
    rw [show denT s = dec 1 from if_neg hs, numT_all (by simpa using hs), ← one_lit]
    exact .refl _
theorem digits_c (s : ByteArray) : PC Tryz.prog 83 [str s] (int (digZ s).size) := by
  refine PC.body (c := Tryz.f83.body.getD .skip) (fun _ => false) mixed Tryz.func83 rfl (by kernel_rfl) ?_
  unfold Tryz.f83
  simp only [Option.getD_some]
  simp only [go_sem]
  refine PC.use (trimMinus_c s) ?_
  simp only [go_sem]
  exact .refl _
theorem numT_size (s : ByteArray) : (numT s).size ≤ s.size := by
  rw [← bl_size, ← bl_size, show bl (numT s) = (bl s).takeWhile (· != slash) from bl_mk _, ← take_tw]
  simp
  omega
theorem denT_size (s : ByteArray) : (denT s).size ≤ max s.size 1 := by
  unfold denT
  split
  · rw [← bl_size, ← bl_size, bl_mk, List.length_drop]
    have : ((bl s).dropWhile (· != slash)).length ≤ (bl s).length := (List.dropWhile_suffix _).length_le
    omega
  · rw [← one_lit]; exact Nat.le_max_right _ _
theorem ones_right : rightN (dec 1) = true := rightN_dec 1
theorem digZ_right {s : ByteArray} (h : rightN s = true) : digZ s = s := by rw [← dec_valN h, digZ_dec]
theorem denT_none {s : ByteArray} (h : hasSl s = false) : denT s = dec 1 := if_neg (by rw [h]; simp)
theorem rightR_no1 {s : ByteArray} (hb : (!rightZ (numT s) || decide (((digZ (numT s)).size : Int) > 4096) || decide (((digZ (denT s)).size : Int) > 4096)) = true) : rightR s = false := by
  unfold rightR
  rw [Bool.eq_false_iff]
  simp only [ne_eq, Bool.and_eq_true, decide_eq_true_eq]
  rintro ⟨⟨⟨⟨h1, h2⟩, h3⟩, h4⟩, _⟩
  rw [h1, digZ_right h2] at hb
  simp only [Bool.not_true, Bool.false_or, Bool.or_eq_true, decide_eq_true_eq] at hb
  omega
theorem rightR_half {s : ByteArray} (hb : (!rightZ (numT s) || decide (((digZ (numT s)).size : Int) > 4096) || decide (((digZ (denT s)).size : Int) > 4096)) = false) (hr : rightN (denT s) = true) :
    (rightZ (numT s) && rightN (denT s) && decide ((digZ (numT s)).size ≤ 4096) && decide ((denT s).size ≤ 4096)) = true ∧ rightZ (numT s) = true ∧ (digZ (numT s)).size ≤ 4096 ∧ (denT s).size ≤ 4096 := by
  simp only [Bool.or_eq_false_iff, Bool.not_eq_false', decide_eq_false_iff_not] at hb
  rw [digZ_right hr] at hb
  obtain ⟨⟨h1, h2⟩, h3⟩ := hb
  have h2 : (digZ (numT s)).size ≤ 4096 := by omega
  have h3 : (denT s).size ≤ 4096 := by omega
  refine ⟨?_, h1, h2, h3⟩
  rw [h1, hr]
  simp [h2, h3]
theorem right1_c (s : ByteArray) (h : s.size ≤ 1048576) : PC Tryz.prog 44 [str s] (boo (rightR s)) := by
  have hn := numT_size s
  have hd := denT_size s
  have h1 : (1 : Nat) ≤ 1048576 := by omega
  have hdn := digZ_le (numT s)
  have hdd := digZ_le (denT s)
  refine PC.body (c := Tryz.f44.body.getD .skip) (fun _ => false) mixed Tryz.func44 rfl (by kernel_rfl) ?_
  unfold Tryz.f44
  simp only [Option.getD_some]
  simp only [go_sem]
  refine PC.use (split_c s h) ?_
  simp only [go_sem]
  refine PC.use (wright_c (numT s) (by omega)) ?_
  simp only [go_sem]
  refine ⟨_, fun _ => (digits_c (numT s)).q rfl, ?_⟩
  simp only [go_sem]
  refine ⟨_, fun _ => (digits_c (denT s)).q rfl, ?_⟩
  simp only [go_sem]
  refine acond_i (fun hb => ?_) (fun hb => ?_)
  · simp only [go_sem]
    exact cB (rightR_no1 hb).symm
  simp only [go_sem]
  refine PC.use (scontains_c s) ?_
  simp only [go_sem]
  refine acond_i (fun hs => ?_) (fun hs => ?_)
  · simp only [go_sem]
    refine cB ?_
    have h0 : hasSl s = false := by simpa using hs
    have h2 : rightN (denT s) = true := by rw [denT_none h0]; exact ones_right
    unfold rightR
    rw [(rightR_half hb h2).1, h0]
    rfl
  have h0 : hasSl s = true := by simpa using hs
  simp only [go_sem]
  refine PC.use (nright_c (denT s) (by omega)) ?_
  simp only [go_sem, eq_zero, eq_one]
  refine acond_i (fun hc => ?_) (fun hc => ?_)
  · simp only [go_sem]
    refine cB ?_
    unfold rightR
    rw [h0]
    simp only [Bool.or_eq_true, Bool.not_eq_true'] at hc
    rcases hc with ((hc | hc) | hc) | hc <;> simp [hc]
  simp only [Bool.or_eq_false_iff, Bool.not_eq_false'] at hc
  obtain ⟨⟨⟨h2, h3⟩, h4⟩, h5⟩ := hc
  obtain ⟨f1, f2, f3, f4⟩ := rightR_half hb h2
  simp only [go_sem]
  refine PC.use (trimMinus_c (numT s)) ?_
  simp only [go_sem]
  refine PC.use (nGcd_c (digZ (numT s)) (denT s) (by omega) (by omega)) ?_
  simp only [go_sem, eq_one]
  refine cB ?_
  have fd := right_dig f2
  have v0 : valN (denT s) ≠ 0 := fun e => eqB_no.1 h3 (by rw [← dec_valN h2, e])
  have v1 : valN (denT s) < maxN := (right_size h2).1 f4
  have e : gcdN (digZ (numT s)) (denT s) = (dec (Nat.gcd (valN (digZ (numT s))) (valN (denT s))), 0) := by
    unfold gcdN
    rw [if_pos (errN_ok fd h2 f3 f4), szN_ok (Nat.lt_of_le_of_lt (Nat.gcd_le_right _ (by omega)) v1)]
  have ev : (valZ (numT s)).natAbs = valN (digZ (numT s)) := by unfold valZ; split <;> omega
  rw [e]
  unfold rightR
  rw [f1, h0, h3, h4, h5, ev]
  simp only [beq_self_eq_true, Bool.true_and, Bool.not_true, Bool.not_false, Bool.false_or]
  rw [Bool.eq_iff_iff, eqB_iff, dec_eq, beq_iff_eq]
theorem rof_c (n : Int) (h0 : -9223372036854775808 ≤ n) (h1 : n ≤ 9223372036854775807) : PC Tryz.prog 26 [int n] (str (zed n)) := by
  refine PC.body (c := Tryz.f26.body.getD .skip) (fun _ => false) mixed Tryz.func26 rfl (by kernel_rfl) ?_
  unfold Tryz.f26
  simp only [Option.getD_some]
  simp only [go_sem]
  refine PC.use (wof_c n h0 h1) ?_
  simp only [go_sem]
  exact .refl _
def twoL (a b : ByteArray) : List AV := if (rightR a && rightR b) = true then [str (numT a), str (denT a), str (numT b), str (denT b), int 0] else [str emp, str emp, str emp, str emp, int 3]
theorem two_rc (a b : ByteArray) (ha : a.size ≤ 1048576) (hb : b.size ≤ 1048576) : PC Tryz.prog 56 [str a, str b] (.tup (twoL a b)) := by
  refine PC.body (c := Tryz.f56.body.getD .skip) (fun _ => false) mixed Tryz.func56 rfl (by kernel_rfl) ?_
  unfold Tryz.f56
  simp only [Option.getD_some]
  simp only [go_sem]
  refine PC.use (right1_c a ha) ?_
  simp only [go_sem]
  refine ⟨_, fun _ => (right1_c b hb).q rfl, ?_⟩
  simp only [go_sem]
  refine acond_i (fun hc => ?_) (fun hc => ?_)
  · simp only [go_sem]
    rw [show twoL a b = [str emp, str emp, str emp, str emp, int 3] from if_neg (by rw [Bool.not_eq_true, ← Bool.not_eq_true', Bool.not_and]; exact hc)]
    exact .refl _
  · simp only [go_sem]
    refine PC.use (split_c a ha) ?_
    simp only [go_sem]
    refine PC.use (split_c b hb) ?_
    simp only [go_sem]
    rw [show twoL a b = _ from if_pos (by rw [← Bool.not_eq_false', Bool.not_and]; exact hc)]
    exact .refl _
theorem rlow_c (n : Int) (d : Nat) (hd : d ≠ 0) (hn : n.natAbs < maxN) (hdm : d < maxN) : PC Tryz.prog 118 [str (zed n), str (dec d)] (.tup [str (ratS (mkRat n d)), int 0]) := by
  have hg := gcd_small (n := n) hd hdm
  have hg0 := gcd_pos (n := n) hd
  have zs : ∀ {m : Int}, m.natAbs < maxN → (zed m).size ≤ 1048576 := fun {m} hm => by
    have := (digZ_size m).2 hm
    unfold digZ at this
    split at this
    · rw [← bl_size, bl_mk, List.length_drop] at this
      rw [← bl_size]; omega
    · omega
  have hsm := small_mk hd hn hdm
  have eg : divZ (zed n) (dec (Nat.gcd n.natAbs d)) = (zed (mkRat n d).num, zed (n.fmod (Nat.gcd n.natAbs d : Nat)), 0) := by
    unfold divZ
    rw [← zed_nat, if_pos (errZ_zed hn (by rw [Int.natAbs_natCast]; exact hg)), valZ_zed, valZ_zed, if_neg (by omega), low_num hd]
  have ed : divZ (dec d) (dec (Nat.gcd n.natAbs d)) = (dec (mkRat n d).den, zed ((d : Int).fmod (Nat.gcd n.natAbs d : Nat)), 0) := by
    unfold divZ
    rw [← zed_nat, ← zed_nat, if_pos (errZ_zed (by rw [Int.natAbs_natCast]; exact hdm) (by rw [Int.natAbs_natCast]; exact hg)), valZ_zed, valZ_zed, if_neg (by omega), low_den hd, zed_nat]
  refine PC.body (c := Tryz.f118.body.getD .skip) (fun _ => false) mixed Tryz.func118 rfl (by kernel_rfl) ?_
  unfold Tryz.f118
  simp only [Option.getD_some]
  simp only [go_sem]
  refine PC.use (trimMinus_c (zed n)) ?_
  rw [digZ_zed]
  simp only [go_sem]
  refine PC.use (nGcd_c (dec n.natAbs) (dec d) (dec_size hn) (dec_size hdm)) ?_
  rw [show gcdN (dec n.natAbs) (dec d) = (dec (Nat.gcd n.natAbs d), 0) by unfold gcdN; rw [if_pos (errN_dec hn hdm), valN_dec, valN_dec, szN_ok hg]]
  simp only [go_sem]
  refine acond_i (fun hb => by cases hb) (fun _ => ?_)
  simp only [go_sem]
  refine PC.use (wDiv_c (zed n) (dec (Nat.gcd n.natAbs d)) (zs hn) (dec_size hg)) ?_
  rw [eg]
  simp only [go_sem]
  refine acond_i (fun hb => by cases hb) (fun _ => ?_)
  simp only [go_sem]
  refine PC.use (wDiv_c (dec d) (dec (Nat.gcd n.natAbs d)) (dec_size hdm) (dec_size hg)) ?_
  rw [ed]
  simp only [go_sem]
  refine acond_i (fun hb => by cases hb) (fun _ => ?_)
  simp only [go_sem, eq_one]
  generalize mkRat n d = x at *
  refine acond_i (fun hb => ?_) (fun hb => ?_)
  · have h1 : x.den = 1 := dec_eq.1 (eqB_iff.1 hb)
    simp only [go_sem]
    rw [show ratS x = zed x.num from if_pos h1]
    exact .refl _
  · have h1 : x.den ≠ 1 := fun e => eqB_no.1 hb (by rw [e])
    simp only [go_sem]
    have z1 := zs hsm.1
    have z2 := dec_size hsm.2
    have z3 : (zed x.num ++ slB).size = (zed x.num).size + 1 := by rw [ByteArray.size_append]; rfl
    refine ⟨by show ((zed x.num).size + (1 : Nat) : Int) ≤ 9223372036854775807; omega, ?_⟩
    refine ⟨by show (((zed x.num).size + 1 + (dec x.den).size : Nat) : Int) ≤ 9223372036854775807; omega, ?_⟩
    rw [show ratS x = zed x.num ++ slB ++ dec x.den from if_neg h1]
    exact .refl _
end Go.Proofs.YtdlijlecpopadaaGreatDoor.Nu
end

section
set_option linter.unusedSimpArgs false
set_option linter.unusedVariables false
namespace Go.Proofs.YtdlijlecpopadaaGreatDoor.Nu
open Go.Aw Go.Aw.D Go.Proofs Ty Go.Nu
set_option maxRecDepth 100000
abbrev Pr := ByteArray × ByteArray
def encPr (p : Pr) : List AV := [str p.1, str p.2]
theorem encPr_len (p : Pr) : (encPr p).length = 2 := (rfl)
theorem encPr_0 (p : Pr) : (encPr p).getD 0 .any = str p.1 := (rfl)
theorem encPr_1 (p : Pr) : (encPr p).getD 1 .any = str p.2 := (rfl)
theorem encPr_all (p : Pr) : (encPr p).take 2 = encPr p := (rfl)
attribute [go_sem] encPr_len encPr_0 encPr_1 encPr_all
def prA (p : Pr) : List AV := [str (mulZ p.1 p.2).1]
def prE : List Pr → Int
  | [] => 0
  | p :: l => if (mulZ p.1 p.2).2 ≠ 0 then (mulZ p.1 p.2).2 else prE l
theorem prE_zero : ∀ {l : List Pr}, (∀ p ∈ l, (mulZ p.1 p.2).2 = 0) → prE l = 0
  | [], _ => rfl
  | p :: l, h => by unfold prE; rw [if_neg (by simp [h p (by simp)])]; exact prE_zero fun q hq => h q (by simp [hq])
theorem prE_at : ∀ {l : List Pr} {k : Nat} {p : Pr}, l[k]? = some p → (∀ q ∈ l.take k, (mulZ q.1 q.2).2 = 0) → (mulZ p.1 p.2).2 ≠ 0 → prE l = (mulZ p.1 p.2).2
  | [], k, p, h, _, _ => by simp at h
  | a :: l, 0, p, h, _, h2 => by
    simp at h
    subst h
    unfold prE
    rw [if_pos h2]
  | a :: l, k + 1, p, h, h1, h2 => by
    unfold prE
    rw [if_neg (by simp [h1 a (by simp)])]
    exact prE_at (k := k) (by simpa using h) (fun q hq => h1 q (by simp [hq])) h2
def sRow (l : List (List AV)) : Row := ⟨9, 1, l⟩
theorem products_c (l : List Pr) (hl : l.length ≤ 1048576) (hs : ∀ p ∈ l, p.1.size ≤ 1048576 ∧ p.2.size ≤ 1048576) : PC Tryz.prog 117 [.sl (l.map encPr)] (.tup [.sl (if prE l = 0 then l.map prA else []), int (prE l)]) := by
  refine PC.body (c := Tryz.f117.body.getD .skip) (fun t => t == 6 || t == 11) mixed Tryz.func117 rfl (by kernel_rfl) ?_
  unfold Tryz.f117
  simp only [Option.getD_some]
  simp only [go_sem]
  refine ⟨⟨⟨by omega, by omega⟩, by omega⟩, ?_⟩
  refine anew_i fun j hj => ?_
  simp only [go_sem]
  refine ⟨fun ρ H => ∃ (k j : Nat), k ≤ l.length ∧ ρ 12 = .sl (l.map encPr) ∧ ρ 13 = int l.length ∧ ρ 4 = .os j ∧ ρ 14 = int k ∧ H j = some (sRow ((l.take k).map prA)) ∧ ∀ p ∈ l.take k, (mulZ p.1 p.2).2 = 0, fun ρ _ => l.length - natOf (ρ 14),
    ⟨0, j, Nat.zero_le _, by simp only [go_sem], by simp only [go_sem, List.length_map], by simp only [go_sem], by simp only [go_sem]; rfl, updH_same _ _ _, by simp⟩, ?_⟩
  clear hj j
  rintro ρ H ⟨k, j, hk, h12, h13, h4, h14, Rj, hz⟩
  simp only [go_sem, h12, h13, h4, h14]
  refine acond_i (fun hlt => ?_) (fun hge => ?_)
  · have hlt := ltB hlt
    obtain ⟨p, hp0⟩ := getIn hlt
    have b1 := inB hlt
    have hps := hs p (List.mem_of_getElem? hp0)
    simp only [go_sem, h12, h13, h4, h14, getD_map hp0, b1]
    refine anew_i fun i hi => ?_
    have nji : j ≠ i := ne_new Rj hi
    simp only [go_sem, h12, h13, h4, h14]
    refine wputE_n (updH_same _ _ _) (by simp [encPr_len]) ?_
    generalize hG : updH (updH _ i _) i _ = HG
    have Ri : HG i = some (⟨189, 2, [encPr p]⟩ : Row) := by rw [← hG, updH_same]; rfl
    have Rj' : HG j = some (sRow ((l.take k).map prA)) := by rw [← hG, updH_ne _ _ _ _ nji, updH_ne _ _ _ _ nji]; exact Rj
    clear hG hi Rj
    simp only [go_sem, h12, h13, h4, h14, Ri]
    repeat (refine ⟨by first | decide | omega, ?_⟩)
    refine PC.use (wMul_c p.1 p.2 hps.1 hps.2) ?_
    simp only [go_sem, h12, h13, h4, h14]
    refine acond_i (fun hb => ?_) (fun hb => ?_)
    · have hb : (mulZ p.1 p.2).2 ≠ 0 := by simpa using hb
      simp only [go_sem]
      have e : prE l = (mulZ p.1 p.2).2 := prE_at hp0 hz hb
      rw [e, if_neg hb]
      exact .refl _
    · have hb : (mulZ p.1 p.2).2 = 0 := by simpa using hb
      simp only [go_sem, h12, h13, h4, h14]
      refine wappE_i Rj' ⟨rfl, rfl⟩ ⟨rfl, trivial⟩ (by simp only [sRow, List.length_map, List.length_take, List.length_cons, List.length_nil]; omega) (fun j' hj' => ?_)
      simp only [go_sem, h12, h13, h4, h14, wrapS (show k ≤ 4611686018427387904 by omega)]
      refine ⟨⟨k + 1, j', hlt, rfl, rfl, ?_, ?_⟩, by simp only [natOf_int]; omega⟩
      · rw [updH_same]
        simp only [sRow, take_succ hp0, List.map_append, List.map_cons, List.map_nil]
        rfl
      · intro q hq
        rw [take_succ hp0] at hq
        rcases List.mem_append.1 hq with hq | hq
        · exact hz q hq
        · rw [List.mem_singleton.1 hq]; exact hb
  · have hge := geB hk hge
    subst hge
    rw [List.take_length] at Rj hz
    simp only [go_sem, h4, Rj]
    have e : prE l = 0 := prE_zero hz
    rw [if_pos e, e]
    exact .tup _ _ (.cons _ _ _ _ (.row _ _ _ Rj (ConvE.refl _)) (ConvL.refl _))
theorem mulZ_zed {m n : Int} (hm : m.natAbs < maxN) (hn : n.natAbs < maxN) : mulZ (zed m) (zed n) = szZ (m * n) := by unfold mulZ; rw [if_pos (errZ_zed hm hn), valZ_zed, valZ_zed]
theorem addZ_zed {m n : Int} (hm : m.natAbs < maxN) (hn : n.natAbs < maxN) : addZ (zed m) (zed n) = szZ (m + n) := by unfold addZ; rw [if_pos (errZ_zed hm hn), valZ_zed, valZ_zed]
theorem subZ_zed {m n : Int} (hm : m.natAbs < maxN) (hn : n.natAbs < maxN) : subZ (zed m) (zed n) = szZ (m - n) := by unfold subZ; rw [if_pos (errZ_zed hm hn), valZ_zed, valZ_zed]
theorem szZ_ok {n : Int} (h : bigI n = false) : szZ n = (zed n, 0) := if_pos (bigI_iff.1 h)
theorem szZ_big {n : Int} (h : bigI n = true) : szZ n = (emp, 4) := if_neg (fun h2 => by rw [bigI_iff.2 h2] at h; cases h)
theorem zed_size {m : Int} (hm : m.natAbs < maxN) : (zed m).size ≤ 1048576 := by
  have := (digZ_size m).2 hm
  unfold digZ at this
  split at this
  · rw [← bl_size, bl_mk, List.length_drop] at this
    rw [← bl_size]; omega
  · omega
theorem products2_c {a b c d : Int} (ha : a.natAbs < maxN) (hb : b.natAbs < maxN) (hc : c.natAbs < maxN) (hd : d.natAbs < maxN) :
    PC Tryz.prog 117 [.sl [[str (zed a), str (zed b)], [str (zed c), str (zed d)]]] (if (bigI (a * b) || bigI (c * d)) = true then .tup [.sl [], int 4] else .tup [.sl [[str (zed (a * b))], [str (zed (c * d))]], int 0]) := by
  have := products_c [(zed a, zed b), (zed c, zed d)] (by simp) (by simp [zed_size, ha, hb, hc, hd])
  simp only [prE, mulZ_zed ha hb, mulZ_zed hc hd, List.map_cons, List.map_nil, prA, encPr] at this
  cases h1 : bigI (a * b) with
  | true => rw [szZ_big h1] at this; simpa using this
  | false =>
    rw [szZ_ok h1] at this
    cases h2 : bigI (c * d) with
    | true => rw [szZ_big h2] at this; simpa using this
    | false => rw [szZ_ok h2] at this; simpa using this
theorem products1_c {a b : Int} (ha : a.natAbs < maxN) (hb : b.natAbs < maxN) :
    PC Tryz.prog 117 [.sl [[str (zed a), str (zed b)]]] (if bigI (a * b) = true then .tup [.sl [], int 4] else .tup [.sl [[str (zed (a * b))]], int 0]) := by
  have := products_c [(zed a, zed b)] (by simp) (by simp [zed_size, ha, hb])
  simp only [prE, mulZ_zed ha hb, List.map_cons, List.map_nil, prA, encPr] at this
  cases h1 : bigI (a * b) with
  | true => rw [szZ_big h1] at this; simpa using this
  | false => rw [szZ_ok h1] at this; simpa using this
def fv (g : FuncId) : AV := .v (.func (.func g) #[] #[])
def combQ (op : Int → Int → Int) (x y : Rat) : ByteArray × Int :=
  if (bigI (x.num * y.den) || bigI (y.num * x.den) || bigI (op (x.num * y.den) (y.num * x.den)) || bigI (x.den * y.den)) = true then (emp, 4) else (ratS (mkRat (op (x.num * y.den) (y.num * x.den)) (x.den * y.den)), 0)
def combR (op : Int → Int → Int) (a b : ByteArray) : ByteArray × Int := if (rightR a && rightR b) = true then combQ op (valR a) (valR b) else (emp, 3)
theorem combine_c (g : FuncId) (op : Int → Int → Int) (hok : callOk Tryz.prog g = true) (hg : ∀ m n : Int, m.natAbs < maxN → n.natAbs < maxN → PC Tryz.prog g [str (zed m), str (zed n)] (.tup [str (szZ (op m n)).1, int (szZ (op m n)).2]))
    (a b : ByteArray) (ha : a.size ≤ 1048576) (hb : b.size ≤ 1048576) : PC Tryz.prog 59 [str a, str b, fv g] (.tup [str (combR op a b).1, int (combR op a b).2]) := by
  have htwo := two_rc a b ha hb
  by_cases hr : (rightR a && rightR b) = true
  rotate_left
  · rw [show twoL a b = _ from if_neg hr] at htwo
    rw [show combR op a b = (emp, 3) from if_neg hr]
    unfold fv
    refine PC.body (c := Tryz.f59.body.getD .skip) (fun _ => false) mixed Tryz.func59 rfl (by kernel_rfl) ?_
    unfold Tryz.f59
    simp only [Option.getD_some]
    simp only [go_sem]
    refine PC.use htwo ?_
    simp only [go_sem]
    refine acond_i (fun _ => ?_) (fun hb => by cases hb)
    simp only [go_sem]
    exact .refl _
  rw [show twoL a b = _ from if_pos hr] at htwo
  rw [show combR op a b = _ from if_pos hr]
  simp only [Bool.and_eq_true] at hr
  obtain ⟨x, rfl, hx, e1, e2⟩ := right_parts hr.1
  obtain ⟨y, rfl, hy, e3, e4⟩ := right_parts hr.2
  rw [e1, e2, e3, e4] at htwo
  rw [valR_ratS, valR_ratS]
  have xd : ((x.den : Int)).natAbs < maxN := by rw [Int.natAbs_natCast]; exact hx.2
  have yd : ((y.den : Int)).natAbs < maxN := by rw [Int.natAbs_natCast]; exact hy.2
  have p2 := products2_c hx.1 yd hy.1 xd
  have p1 := products1_c xd yd
  rw [zed_nat, zed_nat] at p2 p1
  unfold fv
  refine PC.body (c := Tryz.f59.body.getD .skip) (fun _ => false) mixed Tryz.func59 rfl (by kernel_rfl) ?_
  unfold Tryz.f59
  simp only [Option.getD_some]
  simp only [go_sem]
  refine PC.use htwo ?_
  simp only [go_sem]
  refine acond_i (fun hb => by cases hb) (fun _ => ?_)
  simp only [go_sem]
  unfold combQ
  cases hb1 : (bigI (x.num * y.den) || bigI (y.num * x.den)) with
  | true =>
    rw [hb1, if_pos rfl] at p2
    refine PC.use p2 ?_
    simp only [go_sem]
    refine acond_i (fun _ => ?_) (fun hb => by cases hb)
    exact .refl _
  | false =>
    rw [hb1] at p2
    simp only [Bool.false_eq_true, if_false] at p2
    refine PC.use p2 ?_
    simp only [go_sem]
    refine acond_i (fun hb => by cases hb) (fun _ => ?_)
    simp only [go_sem]
    have hb1' := hb1
    simp only [Bool.or_eq_false_iff] at hb1'
    have hgg := hg _ _ (bigI_iff.1 hb1'.1) (bigI_iff.1 hb1'.2)
    refine adraw_q (by rfl) (by kernel_rfl) ?_
    simp only [go_sem, List.length_cons, List.length_nil]
    repeat (refine ⟨by first | decide | omega, ?_⟩)
    refine ⟨_, hgg.q rfl, ?_⟩
    simp only [go_sem]
    generalize hN : op (x.num * y.den) (y.num * x.den) = N
    cases hb2 : bigI N with
    | true =>
      rw [szZ_big hb2]
      refine acond_i (fun _ => ?_) (fun hb => by cases hb)
      simp only [go_sem, hb1, Bool.false_or, Bool.true_or, if_true]
      exact .refl _
    | false =>
      rw [szZ_ok hb2]
      refine acond_i (fun hb => by cases hb) (fun _ => ?_)
      simp only [go_sem]
      cases hb3 : bigI ((x.den : Int) * y.den) with
      | true =>
        rw [hb3, if_pos rfl] at p1
        refine PC.use p1 ?_
        simp only [go_sem]
        refine acond_i (fun _ => ?_) (fun hb => by cases hb)
        simp only [go_sem, Bool.or_true, if_true]
        exact .refl _
      | false =>
        rw [hb3] at p1
        simp only [Bool.false_eq_true, if_false] at p1
        refine PC.use p1 ?_
        simp only [go_sem]
        refine acond_i (fun hb => by cases hb) (fun _ => ?_)
        simp only [go_sem, List.length_cons, List.length_nil]
        repeat (refine ⟨by first | decide | omega, ?_⟩)
        have hD : x.den * y.den < maxN := by rw [← den_abs]; exact bigI_iff.1 hb3
        have := rlow_c N (x.den * y.den) (den_ne x y) (bigI_iff.1 hb2) hD
        rw [← zed_nat, Int.natCast_mul] at this
        refine PC.use this ?_
        simp only [go_sem]
        exact .refl _
theorem combR_add (a b : ByteArray) : combR (· + ·) a b = addR a b := by
  unfold combR addR combQ sumR
  simp only [add_mk]
theorem combR_sub (a b : ByteArray) : combR (· - ·) a b = subR a b := by
  unfold combR subR combQ sumR
  simp only [add_mk, Rat.neg_num, Rat.neg_den, Int.neg_mul, ← Int.sub_eq_add_neg]
  have : ∀ n : Int, bigI (-n) = bigI n := fun n => by unfold bigI; rw [Int.natAbs_neg]
  simp only [this]
theorem rAdd_c (a b : ByteArray) (ha : a.size ≤ 1048576) (hb : b.size ≤ 1048576) : PC Tryz.prog 25 [str a, str b] (.tup [str (addR a b).1, int (addR a b).2]) := by
  have := combine_c 60 (· + ·) (by kernel_rfl) (fun m n hm hn => by rw [← addZ_zed hm hn]; exact wAdd_c _ _ (zed_size hm) (zed_size hn)) a b ha hb
  rw [combR_add] at this
  unfold fv at this
  refine PC.body (c := Tryz.f25.body.getD .skip) (fun _ => false) mixed Tryz.func25 rfl (by kernel_rfl) ?_
  unfold Tryz.f25
  simp only [Option.getD_some]
  simp only [go_sem]
  refine PC.use this ?_
  simp only [go_sem]
  exact .refl _
theorem rSub_c (a b : ByteArray) (ha : a.size ≤ 1048576) (hb : b.size ≤ 1048576) : PC Tryz.prog 28 [str a, str b] (.tup [str (subR a b).1, int (subR a b).2]) := by
  have := combine_c 67 (· - ·) (by kernel_rfl) (fun m n hm hn => by rw [← subZ_zed hm hn]; exact wSub_c _ _ (zed_size hm) (zed_size hn)) a b ha hb
  rw [combR_sub] at this
  unfold fv at this
  refine PC.body (c := Tryz.f28.body.getD .skip) (fun _ => false) mixed Tryz.func28 rfl (by kernel_rfl) ?_
  unfold Tryz.f28
  simp only [Option.getD_some]
  simp only [go_sem]
  refine PC.use this ?_
  simp only [go_sem]
  exact .refl _
end Go.Proofs.YtdlijlecpopadaaGreatDoor.Nu
end

section
set_option linter.unusedSimpArgs false
set_option linter.unusedVariables false
namespace Go.Nu
open Go Go.Lib
theorem zed_size {m : Int} (hm : m.natAbs < maxN) : (zed m).size ≤ 4097 := by
  have := (digZ_size m).2 hm
  unfold digZ at this
  split at this
  · rw [← bl_size, bl_mk, List.length_drop] at this
    rw [← bl_size]; omega
  · omega
theorem ratS_size {x : Rat} (h : SmallR x) : (ratS x).size ≤ 8194 := by
  have h1 := zed_size h.1
  have h2 := (size_max x.den).2 h.2
  unfold ratS
  split
  · omega
  · rw [ByteArray.size_append, ByteArray.size_append]
    have : slB.size = 1 := rfl
    omega
theorem right_size' {s : ByteArray} (h : rightR s = true) : s.size ≤ 8194 := by
  obtain ⟨x, rfl, hs, _⟩ := right_parts h
  exact ratS_size hs
theorem zero_right : rightR (dec 0) = true := by
  have : dec 0 = ratS 0 := (zed_nat 0).symm.trans (if_pos (show (0 : Rat).den = 1 from rfl)).symm
  rw [this]
  exact rightR_ratS ⟨max_pos, lt_max (k := 1) (by decide) (by decide)⟩
end Go.Nu
end

section
set_option linter.unusedSimpArgs false
set_option linter.unusedVariables false
namespace Go.Proofs.YtdlijlecpopadaaGreatDoor.Nu
open Go.Aw Go.Aw.D Go.Proofs Ty Go.Nu
set_option maxRecDepth 100000
theorem fdiv_abs {p q : Int} (hq : 0 < q) : (p.fdiv q).natAbs ≤ p.natAbs := by
  obtain ⟨e, h0, h1⟩ := fdiv_pos (p := p) hq
  generalize p.fdiv q = d at *
  generalize p.fmod q = m at *
  rcases Int.lt_or_le d 0 with hd | hd
  · have h2 : (d + 1) * q ≤ (d + 1) * 1 := Int.mul_le_mul_of_nonpos_left (by omega) (by omega)
    rw [Int.add_mul] at h2
    omega
  · have h2 : d * 1 ≤ d * q := Int.mul_le_mul_of_nonneg_left (by omega) hd
    omega
theorem divZ_zed {p q : Int} (hp : p.natAbs < maxN) (hq : q.natAbs < maxN) (h : 0 < q) : divZ (zed p) (zed q) = (zed (p.fdiv q), zed (p.fmod q), 0) := by
  unfold divZ
  rw [if_pos (errZ_zed hp hq), valZ_zed, valZ_zed, if_neg (by omega)]
theorem cmpZ_zed (i j : Int) : cmpZ (zed i) (zed j) = cmpI i j := by unfold cmpZ; rw [if_pos ⟨rightZ_zed _, rightZ_zed _⟩, valZ_zed, valZ_zed]
theorem cmpI_three (i j : Int) : cmpI i j = -1 ∨ cmpI i j = 0 ∨ cmpI i j = 1 := by unfold cmpI; split; · exact .inl rfl
                                                                                   · split; · exact .inr (.inr rfl)
                                                                                     · exact .inr (.inl rfl)
def absS : AV → Nat
  | .v (.string s) => (valZ s).natAbs
  | _ => 0
theorem absS_zed (n : Int) : absS (str (zed n)) = n.natAbs := by show (valZ (zed n)).natAbs = _; rw [valZ_zed]
theorem eq_zeroZ (n : Int) : (bl (zed n) == [48]) = decide (n = 0) := by
  rw [eq_zero, ← show zed ((0 : Nat) : Int) = dec 0 from zed_nat 0, Bool.eq_iff_iff, eqB_iff, zed_eq, decide_eq_true_iff]
  exact Iff.rfl
theorem wrap1 {a b : Int} (ha : a = 1 ∨ a = -1) (hb : b = -1 ∨ b = 0 ∨ b = 1) : IntKind.i64.wrap (a * b) = a * b := by
  rcases ha with rfl | rfl <;> rcases hb with rfl | rfl | rfl <;> rfl
theorem wrapN {a : Int} (ha : a = 1 ∨ a = -1) : IntKind.i64.wrap (0 - a) = -a := by rcases ha with rfl | rfl <;> rfl
theorem rCompare_c (a b : ByteArray) (ha : a.size ≤ 1048576) (hb : b.size ≤ 1048576) : PC Tryz.prog 24 [str a, str b] (int (cmpR a b)) := by
  have htwo := two_rc a b ha hb
  by_cases hr : (rightR a && rightR b) = true
  rotate_left
  · rw [show twoL a b = _ from if_neg hr] at htwo
    rw [show cmpR a b = 0 from if_neg hr]
    refine PC.body (c := Tryz.f24.body.getD .skip) (fun _ => false) mixed Tryz.func24 rfl (by kernel_rfl) ?_
    unfold Tryz.f24
    simp only [Option.getD_some]
    simp only [go_sem]
    refine PC.use htwo ?_
    simp only [go_sem]
    refine acond_i (fun _ => ?_) (fun hb => by cases hb)
    simp only [go_sem]
    exact .refl _
  rw [show twoL a b = _ from if_pos hr] at htwo
  rw [show cmpR a b = _ from if_pos hr]
  simp only [Bool.and_eq_true] at hr
  obtain ⟨x, rfl, hx, e1, e2⟩ := right_parts hr.1
  obtain ⟨y, rfl, hy, e3, e4⟩ := right_parts hr.2
  rw [e1, e2, e3, e4] at htwo
  rw [valR_ratS, valR_ratS]
  have xd : ((x.den : Int)).natAbs < maxN := by rw [Int.natAbs_natCast]; exact hx.2
  have yd : ((y.den : Int)).natAbs < maxN := by rw [Int.natAbs_natCast]; exact hy.2
  have x0 := x.den_nz
  have y0 := y.den_nz
  rw [← zed_nat, ← zed_nat] at htwo
  refine PC.body (c := Tryz.f24.body.getD .skip) (fun _ => false) mixed Tryz.func24 rfl (by kernel_rfl) ?_
  unfold Tryz.f24
  simp only [Option.getD_some]
  simp only [go_sem]
  refine PC.use htwo ?_
  simp only [go_sem]
  refine acond_i (fun hb => by cases hb) (fun _ => ?_)
  simp only [go_sem]
  refine ⟨fun ρ _ => ∃ (p q r s g : Int), ρ 5 = str (zed p) ∧ ρ 6 = str (zed q) ∧ ρ 7 = str (zed r) ∧ ρ 8 = str (zed s) ∧ ρ 10 = int g ∧ (g = 1 ∨ g = -1) ∧ 0 < q ∧ 0 < s ∧ p.natAbs < maxN ∧ q.natAbs < maxN ∧ r.natAbs < maxN ∧ s.natAbs < maxN ∧ cmpQ x y = g * cmpX p q r s, fun ρ _ => absS (ρ 6),
    ⟨x.num, x.den, y.num, y.den, 1, by simp only [go_sem], by simp only [go_sem], by simp only [go_sem], by simp only [go_sem], by simp only [go_sem], .inl rfl, by omega, by omega, hx.1, xd, hy.1, yd, by rw [Int.one_mul, cmpQ_X]⟩, ?_⟩
  rintro ρ H ⟨p, q, r, s, g, h5, h6, h7, h8, h10, hg, hq, hs, bp, bq, br, bs, hinv⟩
  simp only [go_sem, h5, h6, h7, h8, h10]
  refine PC.use (wDiv_c (zed p) (zed q) (zed_size bp) (zed_size bq)) ?_
  rw [divZ_zed bp bq hq]
  simp only [go_sem, h5, h6, h7, h8, h10]
  refine PC.use (wDiv_c (zed r) (zed s) (zed_size br) (zed_size bs)) ?_
  rw [divZ_zed br bs hs]
  simp only [go_sem, h5, h6, h7, h8, h10]
  have d1 := fdiv_abs (p := p) hq
  have d2 := fdiv_abs (p := r) hs
  refine PC.use (wCompare_c (zed (p.fdiv q)) (zed (r.fdiv s)) (zed_size (by omega)) (zed_size (by omega))) ?_
  rw [cmpZ_zed]
  simp only [go_sem, h5, h6, h7, h8, h10]
  obtain ⟨_, m0, m1⟩ := fdiv_pos (p := p) hq
  obtain ⟨_, n0, n1⟩ := fdiv_pos (p := r) hs
  have c3 := cmpI_three (p.fdiv q) (r.fdiv s)
  refine acond_i (fun hc => ?_) (fun hc => ?_)
  · have hc : cmpI (p.fdiv q) (r.fdiv s) ≠ 0 := by simpa using hc
    simp only [go_sem, h10, wrap1 hg c3]
    refine cI ?_
    rw [hinv, cmpX_floor hq hs (fun e => hc (cmpI_eq e))]
  have hc : p.fdiv q = r.fdiv s := cmpI_zero.1 (by simpa using hc)
  have hX := cmpX_rest hq hs hc
  generalize p.fmod q = m at *
  generalize r.fmod s = n at *
  simp only [go_sem, h5, h6, h7, h8, h10, eq_zeroZ]
  refine acond_i (fun hz => ?_) (fun hz => ?_)
  · have hz : m = 0 ∧ n = 0 := by simpa using hz
    simp only [go_sem]
    refine cI ?_
    rw [hinv, hX, hz.1, hz.2, Int.zero_mul, Int.zero_mul, cmpI_eq rfl, Int.mul_zero]
  simp only [go_sem, h5, h6, h7, h8, h10, eq_zeroZ]
  refine acond_i (fun hm => ?_) (fun hm => ?_)
  · have hm : m = 0 := of_decide_eq_true hm
    have hn : 0 < n := by
      rcases Int.lt_or_le 0 n with h | h
      · exact h
      · exfalso
        have : n = 0 := by omega
        rw [hm, this] at hz
        cases hz
    simp only [go_sem, h10, wrapN hg]
    refine cI ?_
    rw [hinv, hX, hm, Int.zero_mul, cmpI_lt (Int.mul_pos hn hq)]
    omega
  have hm : 0 < m := by have := of_decide_eq_false hm; omega
  simp only [go_sem, h5, h6, h7, h8, h10, eq_zeroZ]
  refine acond_i (fun hn => ?_) (fun hn => ?_)
  · have hn : n = 0 := of_decide_eq_true hn
    simp only [go_sem, h10]
    refine cI ?_
    rw [hinv, hX, hn, Int.zero_mul, cmpI_gt (Int.mul_pos hm hs)]
    omega
  have hn : 0 < n := by have := of_decide_eq_false hn; omega
  simp only [go_sem, h5, h6, h7, h8, h10, wrapN hg]
  refine ⟨⟨q, m, s, n, -g, rfl, rfl, rfl, rfl, rfl, by omega, hm, hn, bq, by omega, bs, by omega, ?_⟩, ?_⟩
  · rw [hinv, hX, cmpX_flip]
    rw [Int.mul_neg, Int.neg_mul]
  · rw [absS_zed, absS_zed]; omega
end Go.Proofs.YtdlijlecpopadaaGreatDoor.Nu
end
