/- lorryref01/06/07/10: loops over what is read. -/
import Derived.Test.YtjlbikpgjejkjaaRefA
set_option linter.unusedSimpArgs false
set_option linter.unusedVariables false
namespace Go.Proofs.Ytjlbikpgjejkjaa
open Go.Aw Go.Aw.D Go.Proofs Ty
set_option maxRecDepth 100000

def rightR (l : List Int) (d : Int) : Bool := if (l.length : Int) = d then l.all fun n => !(decide (n < 0) || decide (n > 1000)) else false
theorem all_take {α : Type} {p : α → Bool} {l : List α} (h : ∀ x ∈ l, p x = true) : l.all p = true := List.all_eq_true.2 h
theorem all_miss {α : Type} {p : α → Bool} {l : List α} {x : α} (h : x ∈ l) (hp : p x = false) : l.all p = false := by
  cases hb : l.all p with
  | false => rfl
  | true => rw [List.all_eq_true.1 hb x h] at hp; cases hp
theorem mem_of_get {α : Type} {l : List α} {k : Nat} {x : α} (h : l[k]? = some x) : x ∈ l := List.mem_of_getElem? h
theorem take_all {α : Type} {q : α → Prop} {l : List α} {k : Nat} {x : α} (hr : l[k]? = some x) (h : ∀ y ∈ l.take k, q y) (hx : q x) : ∀ y ∈ l.take (k + 1), q y := by
  rw [take_succ hr]
  intro y hy
  rcases List.mem_append.1 hy with hy | hy
  · exact h y hy
  · simp at hy; subst hy; exact hx
theorem le_of_lt_b {k n : Nat} (h : decide ((k : Int) < (n : Int)) = true) : k < n := by simpa using h
theorem eq_of_ge_b {k n : Nat} (hk : k ≤ n) (h : decide ((k : Int) < (n : Int)) = false) : k = n := by
  have : ¬ k < n := by simpa using h
  omega
theorem right_c (l : List Int) (d : Int) (hl : l.length ≤ 1048576) : PC Try.prog 99 [.sl (l.map encInt), int d] (boo (rightR l d)) := by
  refine PC.body (c := Try.f99.body.getD .skip) (fun _ => false) mixed Try.func99 rfl (by kernel_rfl) ?_
  unfold Try.f99
  simp only [Option.getD_some]
  simp only [go_sem]
  refine acond_i (fun hd => ?_) (fun hd => ?_)
  · simp only [go_sem]
    have : rightR l d = false := by unfold rightR; rw [if_neg (by simpa using hd)]
    rw [this]; exact .refl _
  · have hd : (l.length : Int) = d := by simpa using hd
    simp only [go_sem]
    refine ⟨fun ρ _ => ∃ k : Nat, k ≤ l.length ∧ ρ 0 = .sl (l.map encInt) ∧ ρ 5 = int k ∧ ∀ n ∈ l.take k, (decide (n < 0) || decide (n > 1000)) = false, fun ρ _ => l.length - natOf (ρ 5), ⟨0, Nat.zero_le _, rfl, rfl, by simp⟩, ?_⟩
    rintro ρ H ⟨k, hk, h0, h5, hn⟩
    simp only [go_sem, h0, h5]
    refine acond_i (fun hlt => ?_) (fun hge => ?_)
    · have hlt := le_of_lt_b hlt
      obtain ⟨r, hr⟩ := getIn hlt
      have b1 := inB hlt
      simp only [go_sem, h0, h5, b1, getD_map hr]
      refine acond_i (fun hb => ?_) (fun hb => ?_)
      · simp only [go_sem]
        have : rightR l d = false := by unfold rightR; rw [if_pos hd]; exact all_miss (mem_of_get hr) (by simp only [hb]; rfl)
        rw [this]; exact .refl _
      · simp only [go_sem, h0, h5, wrapS (show k ≤ 4611686018427387904 by omega)]
        exact ⟨⟨k + 1, hlt, rfl, take_all hr hn hb⟩, by simp only [natOf_int]; omega⟩
    · have hge := eq_of_ge_b hk hge
      subst hge
      simp only [go_sem]
      have : rightR l d = true := by unfold rightR; rw [if_pos hd]; exact all_take fun n h => by rw [hn n (by simpa using h)]; rfl
      rw [this]; exact .refl _
def capR (l : List Int) (d : Int) : Bool := if (!inR l.length 1 3 || (l.length : Int) != d) = true then false else l.all fun n => inR n 0 1000
theorem cap_c (l : List Int) (d : Int) (hl : l.length ≤ 1048576) : PC Try.prog 98 [.sl (l.map encInt), int d] (boo (capR l d)) := by
  refine PC.body (c := Try.f98.body.getD .skip) (fun _ => false) mixed Try.func98 rfl (by kernel_rfl) ?_
  unfold Try.f98
  simp only [Option.getD_some]
  simp only [go_sem]
  refine PC.use (in10_c _ _ _) ?_
  simp only [go_sem]
  refine acond_i (fun hd => ?_) (fun hd => ?_)
  · simp only [go_sem]
    have : capR l d = false := by unfold capR; rw [if_pos hd]
    rw [this]; exact .refl _
  · simp only [go_sem]
    refine ⟨fun ρ _ => ∃ k : Nat, k ≤ l.length ∧ ρ 0 = .sl (l.map encInt) ∧ ρ 5 = int k ∧ ∀ n ∈ l.take k, inR n 0 1000 = true, fun ρ _ => l.length - natOf (ρ 5), ⟨0, Nat.zero_le _, rfl, rfl, by simp⟩, ?_⟩
    rintro ρ H ⟨k, hk, h0, h5, hn⟩
    simp only [go_sem, h0, h5]
    refine acond_i (fun hlt => ?_) (fun hge => ?_)
    · have hlt := le_of_lt_b hlt
      obtain ⟨r, hr⟩ := getIn hlt
      have b1 := inB hlt
      simp only [go_sem, h0, h5, b1, getD_map hr]
      refine PC.use (in10_c _ _ _) ?_
      simp only [go_sem]
      refine acond_i (fun hb => ?_) (fun hb => ?_)
      · simp only [go_sem]
        have : capR l d = false := by unfold capR; rw [if_neg (by rw [hd]; simp)]; exact all_miss (mem_of_get hr) (by simpa using hb)
        rw [this]; exact .refl _
      · simp only [go_sem, h0, h5, wrapS (show k ≤ 4611686018427387904 by omega)]
        exact ⟨⟨k + 1, hlt, rfl, take_all hr hn (by simpa using hb)⟩, by simp only [natOf_int]; omega⟩
    · have hge := eq_of_ge_b hk hge
      subst hge
      simp only [go_sem]
      have : capR l d = true := by unfold capR; rw [if_neg (by rw [hd]; simp)]; exact all_take fun n h => hn n (by simpa using h)
      rw [this]; exact .refl _
def byteAt (s : ByteArray) (i : Nat) : Int := ((s.data.getD i 0).toNat : Int)
def nameR (s : ByteArray) : Bool := if (decide ((s.size : Int) < 1) || decide ((s.size : Int) > 16) || digitR (byteAt s 0)) = true then false else (List.range s.size).all fun i => letterR (byteAt s i) || digitR (byteAt s i)
theorem range_get {n k : Nat} (h : k < n) : (List.range n)[k]? = some k := by simp [h]
theorem name_c (s : ByteArray) (hl : s.size ≤ 1048576) : PC Try.prog 94 [str s] (boo (nameR s)) := by
  refine PC.body (c := Try.f94.body.getD .skip) (fun _ => false) mixed Try.func94 rfl (by kernel_rfl) ?_
  unfold Try.f94
  simp only [Option.getD_some]
  simp only [go_sem]
  refine ⟨fun h => ⟨by omega, by simp at h; omega⟩, _, fun _ => (digit_c _).q rfl, ?_⟩
  simp only [go_sem]
  refine acond_i (fun hd => ?_) (fun hd => ?_)
  · simp only [go_sem]
    have : nameR s = false := by unfold nameR; rw [if_pos (by exact hd)]
    rw [this]; exact .refl _
  · simp only [go_sem]
    refine ⟨fun ρ _ => ∃ k : Nat, k ≤ s.size ∧ ρ 0 = str s ∧ ρ 3 = int k ∧ ∀ i ∈ (List.range s.size).take k, (letterR (byteAt s i) || digitR (byteAt s i)) = true, fun ρ _ => s.size - natOf (ρ 3), ⟨0, Nat.zero_le _, rfl, rfl, by simp⟩, ?_⟩
    rintro ρ H ⟨k, hk, h0, h3, hn⟩
    simp only [go_sem, h0, h3]
    refine acond_i (fun hlt => ?_) (fun hge => ?_)
    · have hlt := le_of_lt_b hlt
      have b1 := inB hlt
      simp only [go_sem, h0, h3, b1]
      refine PC.use (letter_c _) ?_
      simp only [go_sem, h0, h3, b1]
      refine ⟨_, fun _ => (digit_c _).q rfl, ?_⟩
      simp only [go_sem]
      refine acond_i (fun hb => ?_) (fun hb => ?_)
      · simp only [go_sem]
        have : nameR s = false := by unfold nameR; rw [if_neg (by intro h; exact absurd (h.symm.trans hd) (by simp))]; exact all_miss (mem_of_get (range_get hlt)) (by simpa [byteAt] using hb)
        rw [this]; exact .refl _
      · simp only [go_sem, h0, h3, wrapS (show k ≤ 4611686018427387904 by omega)]
        exact ⟨⟨k + 1, hlt, rfl, take_all (range_get hlt) hn (by
          have : (!letterR (byteAt s k) && !digitR (byteAt s k)) = false := hb
          revert this; cases letterR (byteAt s k) <;> cases digitR (byteAt s k) <;> simp)⟩, by simp only [natOf_int]; omega⟩
    · have hge := eq_of_ge_b hk hge
      subst hge
      simp only [go_sem]
      have : nameR s = true := by unfold nameR; rw [if_neg (by intro h; exact absurd (h.symm.trans hd) (by simp))]; exact all_take fun n h => hn n (by rw [List.take_of_length_le (by simp)]; exact h)
      rw [this]; exact .refl _
def dimsR (l : List VType) : Int := match l with | [] => 0 | t :: _ => t.cap.length
theorem dims_c (l : List VType) : PC Try.prog 45 [.sl (l.map encVType)] (int (dimsR l)) := by
  refine PC.body (c := Try.f45.body.getD .skip) (fun _ => false) mixed Try.func45 rfl (by kernel_rfl) ?_
  unfold Try.f45
  simp only [Option.getD_some]
  simp only [go_sem]
  cases l with
  | nil =>
    simp only [go_sem]
    refine acond_i (fun hb => ?_) (fun hb => ?_)
    · simp only [go_sem]; exact .refl _
    · simp at hb
  | cons t l =>
    refine acond_i (fun hb => ?_) (fun hb => ?_)
    · simp at hb; omega
    · simp only [go_sem]
      exact ⟨⟨by omega, by omega⟩, .refl _⟩
def knownR (l : List VType) (k : Nat) (s : ByteArray) : Bool := (l.take k).any fun t => t.name.toList == s.toList
theorem known_c (l : List VType) (m : Nat) (s : ByteArray) (hm : m ≤ l.length) (hl : l.length ≤ 1048576) : PC Try.prog 97 [.sl (l.map encVType), int m, str s] (boo (knownR l m s)) := by
  refine PC.body (c := Try.f97.body.getD .skip) (fun _ => false) mixed Try.func97 rfl (by kernel_rfl) ?_
  unfold Try.f97
  simp only [Option.getD_some]
  simp only [go_sem]
  refine ⟨fun ρ _ => ∃ k : Nat, k ≤ m ∧ ρ 0 = .sl (l.map encVType) ∧ ρ 1 = int m ∧ ρ 2 = str s ∧ ρ 7 = int k ∧ ∀ t ∈ l.take k, (t.name.toList == s.toList) = false, fun ρ _ => m - natOf (ρ 7), ⟨0, Nat.zero_le _, rfl, rfl, rfl, rfl, by simp⟩, ?_⟩
  rintro ρ H ⟨k, hk, h0, h1, h2, h7, hn⟩
  simp only [go_sem, h0, h1, h2, h7]
  refine acond_i (fun hlt => ?_) (fun hge => ?_)
  · have hlt := le_of_lt_b hlt
    obtain ⟨r, hr⟩ := getIn (show k < l.length by omega)
    have b1 := inB (show k < l.length by omega)
    simp only [go_sem, h0, h1, h2, h7, b1, getD_map hr]
    refine acond_i (fun hb => ?_) (fun hb => ?_)
    · simp only [go_sem]
      have : knownR l m s = true := by
        refine List.any_eq_true.2 ⟨r, ?_, hb⟩
        exact List.mem_of_getElem? (i := k) (by rw [List.getElem?_take]; simp [hlt, hr])
      rw [this]; exact .refl _
    · simp only [go_sem, h0, h1, h2, h7, wrapS (show k ≤ 4611686018427387904 by omega)]
      exact ⟨⟨k + 1, hlt, rfl, take_all hr hn hb⟩, by simp only [natOf_int]; omega⟩
  · have hge := eq_of_ge_b hk hge
    subst hge
    simp only [go_sem]
    have : knownR l k s = false := List.any_eq_false.2 fun t ht => by simp [hn t ht]
    rw [this]; exact .refl _
def badPoint (p : Point) : Bool := decide (p.t < 0) || decide (p.t > 4096) || decide (p.a < p.t) || decide (p.a > IntKind.i64.wrap (p.t + 4096))
def noFifo (p q : Point) : Bool := decide (p.t ≤ q.t) || decide (p.a < q.a)
def ptAt (l : List Point) (i : Nat) : Point := l.getD i ⟨0, 0⟩
def badLen (n lo hi : Int) : Bool := decide (n < lo) || decide (n > hi)
def pointFaults (l : List Point) (i : Nat) : List Fault :=
  opt (badPoint (ptAt l i)) ⟨2, decN i⟩ ++ opt (decide ((i : Int) > 0) && noFifo (ptAt l i) (ptAt l (i - 1))) ⟨13, decN i⟩
def travelR (l : List Point) : List Fault := opt (badLen l.length 1 16) ⟨4, ByteArray.empty⟩ ++ (List.range l.length).flatMap (pointFaults l)
theorem pf_len (l : List Point) (i : Nat) : (pointFaults l i).length ≤ 2 := by
  unfold pointFaults
  rw [List.length_append]
  have := opt_len (badPoint (ptAt l i)) (⟨2, decN i⟩ : Fault)
  have := opt_len (decide ((i : Int) > 0) && noFifo (ptAt l i) (ptAt l (i - 1))) (⟨13, decN i⟩ : Fault)
  omega
theorem flat_len_le {α β : Type} {f : α → List β} {c : Nat} (h : ∀ x, (f x).length ≤ c) : ∀ l : List α, (l.flatMap f).length ≤ c * l.length
  | [] => by simp
  | x :: r => by
    have h1 := h x
    have h2 := flat_len_le h r
    simp only [List.flatMap_cons, List.length_append, List.length_cons, Nat.mul_add, Nat.mul_one]
    omega
theorem flat_range_succ {β : Type} (f : Nat → List β) (k : Nat) : (List.range (k + 1)).flatMap f = (List.range k).flatMap f ++ f k := by rw [List.range_succ, List.flatMap_append]; simp
theorem ptAt_get {l : List Point} {k : Nat} {p : Point} (h : l[k]? = some p) : ptAt l k = p := by simp [ptAt, List.getD, h]
theorem travel_c (l : List Point) (hl : l.length ≤ 1048576) : NC Try.prog 95 [.sl (l.map encPoint)] (faultRow (travelR l)) .os := by
  refine NC.body (c := Try.f95.body.getD .skip) (fun t => t == 3) mixed Try.func95 rfl (by kernel_rfl) ?_
  unfold Try.f95
  simp only [Option.getD_some]
  simp only [go_sem]
  refine anew_i fun j hj => ?_
  simp only [go_sem]
  refine acond_join (fun ρ H => ∃ j, ρ 0 = .sl (l.map encPoint) ∧ ρ 3 = .os j ∧ H j = some (faultRow (opt (badLen l.length 1 16) ⟨4, ByteArray.empty⟩))) ?_ fun K hK => acond_i (fun hb => ?_) (fun hb => ?_)
  · rintro ρ H ⟨j, h0, h3, hH⟩
    simp only [go_sem, h0, h3]
    generalize hpre : opt (badLen l.length 1 16) (⟨4, ByteArray.empty⟩ : Fault) = pre at hH
    have hpl : pre.length ≤ 1 := by rw [← hpre]; exact opt_len _ _
    refine ⟨fun ρ H => ∃ k : Nat, k ≤ l.length ∧ ρ 0 = .sl (l.map encPoint) ∧ ρ 4 = int k ∧ ∃ j, ρ 3 = .os j ∧ H j = some (faultRow (pre ++ (List.range k).flatMap (pointFaults l))), fun ρ _ => l.length - natOf (ρ 4), ⟨0, Nat.zero_le _, by simp only [go_sem, h0], by simp only [go_sem]; rfl, j, by simp only [go_sem, h3], by simpa using hH⟩, ?_⟩
    rintro ρ H ⟨k, hk, h0, h4, j, h3, hH⟩
    generalize hes : pre ++ (List.range k).flatMap (pointFaults l) = es at hH
    have hlen : es.length ≤ 2 * k + 1 := by
      have := flat_len_le (pf_len l) (List.range k)
      rw [← hes, List.length_append]; rw [List.length_range] at this; omega
    simp only [go_sem, h0, h3, h4]
    refine acond_i (fun hlt => ?_) (fun hge => ?_)
    · have hlt := le_of_lt_b hlt
      obtain ⟨p, hp⟩ := getIn hlt
      have b1 := inB hlt
      simp only [go_sem, h0, h3, h4, b1, getD_map hp]
      refine anew_i fun i hi => ?_
      simp only [go_sem]
      refine wputE_n (r := ⟨145, 2, [[int 0, int 0]]⟩) (by rw [updH_same]) (by simp [encPoint_len]) ?_
      simp only [go_sem]
      have hji : j ≠ i := ne_new hH hi
      have hH' : updH (updH H i (some ⟨145, 2, [[int 0, int 0]]⟩)) i (some ⟨145, 2, [encPoint p]⟩) j = some (faultRow es) := by rw [updH_ne _ _ _ _ hji, updH_ne _ _ _ _ hji, hH]
      refine acond_join (fun ρ' H' => ∃ j', ρ' 0 = .sl (l.map encPoint) ∧ ρ' 4 = int k ∧ ρ' 3 = .os j' ∧ ρ' 5 = .op i 0 0 ∧ H' i = some ⟨145, 2, [encPoint p]⟩ ∧ j' ≠ i ∧
        H' j' = some (faultRow (es ++ opt (badPoint p) ⟨2, decN k⟩))) ?_ fun K hK => acond_i (fun hb => ?_) (fun hb => ?_)
      · rintro ρ H ⟨j, h0, h4, h3, h5, hi, hji, hH⟩
        generalize hfs : es ++ opt (badPoint p) ⟨2, decN k⟩ = fs at hH
        have hfl : fs.length ≤ 2 * k + 2 := by
          have := opt_len (badPoint p) (⟨2, decN k⟩ : Fault)
          rw [← hfs, List.length_append]; omega
        simp only [go_sem]
        refine adraw_q (by rfl) (by kernel_rfl) ?_
        simp only [go_sem, h0, h3, h4, h5, hi]
        obtain ⟨q, hq⟩ := getIn (show k - 1 < l.length by omega)
        simp only [go_sem, h0, h3, h4, h5, hi, wrapP (show k ≤ 4611686018427387904 by omega), getD_map hq]
        have hkk : k ≤ 4611686018427387904 := by omega
        have hg : decide ((k : Int) > 0) = true → 0 ≤ IntKind.i64.wrap ((k : Int) - 1) ∧ IntKind.i64.wrap ((k : Int) - 1) < (l.length : Int) := fun h => by
          have : (k : Int) > 0 := by simpa using h
          rw [wrapQ hkk]; omega
        have hpf : pre ++ (List.range (k + 1)).flatMap (pointFaults l) = fs ++ opt (decide ((k : Int) > 0) && noFifo p q) ⟨13, decN k⟩ := by
          rw [flat_range_succ, ← List.append_assoc, hes, ← hfs, pointFaults, ptAt_get hp, ptAt_get hq, List.append_assoc]
        refine ⟨hg, fun h => hg h.1, acond_joinL (fun ρ' H' => ρ' 0 = .sl (l.map encPoint) ∧ ρ' 4 = int k ∧ ∃ j, ρ' 3 = .os j ∧ H' j = some (faultRow (pre ++ (List.range (k + 1)).flatMap (pointFaults l)))) ?_ fun K hK _ _ => acond_i (fun hb => ?_) (fun hb => ?_)⟩
        · rintro ρ H ⟨h0, h4, j, h3, hH⟩
          simp only [go_sem, h0, h3, h4, wrapS hkk]
          exact ⟨⟨k + 1, hlt, rfl, j, rfl, hH⟩, by simp only [natOf_int]; omega⟩
        · simp only [go_sem, h0, h3, h4]
          refine PC.use (Decimal_c _ (by omega)) ?_
          simp only [go_sem, h0, h3, h4]
          refine wappE_i hH ⟨rfl, rfl⟩ (by simp only [go_sem]) (by simp only [List.length_map, List.length_cons, List.length_nil]; omega) (fun j' hj' => ?_)
          simp only [go_sem, h0, h3, h4]
          refine hK _ _ ⟨by simp only [go_sem, h0], by simp only [go_sem, h4], j', by simp only [go_sem], ?_⟩
          rw [hpf, opt_t (by exact hb)]
          exact row_app (l' := [⟨13, decN k⟩]) rfl
        · simp only [go_sem]
          refine hK _ _ ⟨by simp only [go_sem, h0], by simp only [go_sem, h4], j, by simp only [go_sem, h3], ?_⟩
          rw [hpf, opt_f (by exact hb), List.append_nil, hH]
      · simp only [go_sem, h0, h3, h4]
        refine PC.use (Decimal_c _ (by omega)) ?_
        simp only [go_sem, h0, h3, h4]
        refine wappE_i hH' ⟨rfl, rfl⟩ (by simp only [go_sem]) (by simp only [List.length_map, List.length_cons, List.length_nil]; omega) (fun j' hj' => ?_)
        simp only [go_sem, h0, h3, h4]
        have hi' := updH_same (updH H i (some ⟨145, 2, [[int 0, int 0]]⟩)) i (some ⟨145, 2, [encPoint p]⟩)
        refine hK _ _ ⟨j', by simp only [go_sem, h0], by simp only [go_sem, h4], by simp only [go_sem], by simp only [go_sem], keep_app hi' hji hj', (ne_new hi' hj').symm, ?_⟩
        rw [opt_t (show badPoint p = true from hb)]
        exact row_app (l' := [⟨2, decN k⟩]) rfl
      · simp only [go_sem]
        refine hK _ _ ⟨j, by simp only [go_sem, h0], by simp only [go_sem, h4], by simp only [go_sem, h3], by simp only [go_sem], by rw [updH_same], hji, ?_⟩
        rw [hH', opt_f (show badPoint p = false from hb), List.append_nil]
    · have hge := eq_of_ge_b hk hge
      subst hge
      simp only [go_sem, h3]
      exact ⟨_, rfl, by rw [hH, ← hes, ← hpre]; rfl⟩
  · simp only [go_sem]
    refine wappE_i (r := faultRow []) (by simp only [go_sem]; rfl) ⟨rfl, rfl⟩ (by simp only [go_sem]) (by simp) (fun j' hj' => ?_)
    simp only [go_sem]
    refine hK _ _ ⟨j', rfl, rfl, ?_⟩
    rw [opt_t (by exact hb)]
    exact row_app (l := []) (l' := [⟨4, ByteArray.empty⟩]) rfl
  · simp only [go_sem]
    refine hK _ _ ⟨j, rfl, rfl, ?_⟩
    rw [opt_f (by exact hb), updH_same]; rfl
end Go.Proofs.Ytjlbikpgjejkjaa
