/- lorryref12.faults, Check -/
import Derived.Test.YtjlbikpgjejkjaaRefC
set_option linter.unusedSimpArgs false
set_option linter.unusedVariables false
namespace Go.Proofs.Ytjlbikpgjejkjaa
open Go.Aw Go.Aw.D Go.Proofs Ty
set_option maxRecDepth 100000

def pAt (l : List Pair) (i : Nat) : Pair := l.getD i ⟨0, 0⟩
theorem pAt_get {l : List Pair} {k : Nat} {p : Pair} (h : l[k]? = some p) : pAt l k = p := by simp [pAt, List.getD, h]
def pairS (w : ByteArray) (k : Nat) : ByteArray := w ++ ⟨#[32]⟩ ++ decN k
def badPair (N : Int) (p : Pair) : Bool := decide (p.a < 0) || decide (p.a ≥ N) || decide (p.b < 0) || decide (p.b ≥ N) || p.a == p.b
def samePair (b : Bool) (p q : Pair) : Bool := (q.a == p.a && q.b == p.b) || (b && q.a == p.b && q.b == p.a)
def pairFaults (N : Int) (l : List Pair) (w : ByteArray) (b : Bool) (k : Nat) : List Fault := match badPair N (pAt l k) with
  | true => [⟨2, pairS w k⟩]
  | false => opt ((l.take k).any (samePair b (pAt l k))) ⟨6, pairS w k⟩
theorem pairFaults_len (N : Int) (l : List Pair) (w : ByteArray) (b : Bool) (k : Nat) : (pairFaults N l w b k).length ≤ 1 := by
  unfold pairFaults
  split
  · simp
  · exact opt_len _ _
def pairsR (N : Int) (l : List Pair) (w : ByteArray) (b : Bool) : List Fault := opt (decide ((l.length : Int) > 16)) ⟨4, w⟩ ++ (List.range l.length).flatMap (pairFaults N l w b)
theorem faults_c (N : Int) (l : List Pair) (w : ByteArray) (b : Bool) (hl : l.length ≤ 1048576) (hw : w.size ≤ 1048576) :
    NC Try.prog 81 [int N, .sl (l.map encPair), str w, boo b] (faultRow (pairsR N l w b)) .os := by
  refine NC.body (c := Try.f81.body.getD .skip) (fun t => t == 9) mixed Try.func81 rfl (by kernel_rfl) ?_
  unfold Try.f81
  simp only [Option.getD_some]
  simp only [go_sem]
  refine anew_i fun j hj => ?_
  simp only [go_sem]
  refine acond_cut (fun ρ' H' => ρ' 0 = int N ∧ ρ' 1 = .sl (l.map encPair) ∧ ρ' 2 = str w ∧ ρ' 3 = boo b ∧ ∃ j', ρ' 9 = .os j' ∧ H' j' = some (faultRow [])) ⟨by simp only [go_sem], by simp only [go_sem], by simp only [go_sem], by simp only [go_sem], _, by simp only [go_sem], updH_same _ _ _⟩ ?_
  rintro ρ H ⟨h0, h1, h2, h3, j, h9, hH⟩
  generalize hes0 : ([] : List Fault) = es0 at hH
  have hln0 : es0.length ≤ 0 := by rw [← hes0]; exact Nat.le_refl _
  refine acond_join (fun ρ' H' => ρ' 0 = int N ∧ ρ' 1 = .sl (l.map encPair) ∧ ρ' 2 = str w ∧ ρ' 3 = boo b ∧ ∃ j', ρ' 9 = .os j' ∧ H' j' = some (faultRow (es0 ++ opt (decide ((l.length : Int) > 16)) ⟨4, w⟩))) ?_ fun K hK => acond_i (fun hb => ?_) (fun hb => ?_)
  rotate_left
  · simp only [go_sem, h0, h1, h2, h3, h9]
    refine wappE_i hH ⟨rfl, rfl⟩ (by simp only [go_sem]) (by simp only [List.length_map, List.length_cons, List.length_nil]; omega) (fun j' hj' => ?_)
    simp only [go_sem]
    refine hK _ _ ⟨by simp only [go_sem, h0], by simp only [go_sem, h1], by simp only [go_sem, h2], by simp only [go_sem, h3], j', by simp only [go_sem], ?_⟩
    rw [opt_t (show (decide ((l.length : Int) > 16)) = true from hb)]
    exact row_app (l' := [⟨4, w⟩]) rfl
  · simp only [go_sem]
    refine hK _ _ ⟨by simp only [go_sem, h0], by simp only [go_sem, h1], by simp only [go_sem, h2], by simp only [go_sem, h3], j, by simp only [go_sem, h9], ?_⟩
    rw [opt_f (show (decide ((l.length : Int) > 16)) = false from hb), List.append_nil, hH]
  clear hH h0 h1 h2 h3 h9
  rintro ρ H ⟨h0, h1, h2, h3, j, h9, hH⟩
  generalize hes1 : es0 ++ opt (decide ((l.length : Int) > 16)) (⟨4, w⟩ : Fault) = es1 at hH
  have hln1 : es1.length ≤ es0.length + 1 := by rw [← hes1, List.length_append]; have := opt_len (decide ((l.length : Int) > 16)) (⟨4, w⟩ : Fault); omega
  simp only [go_sem, h0, h1, h2, h3, h9]
  refine ⟨fun ρ H => ∃ k : Nat, k ≤ l.length ∧ ρ 0 = int N ∧ ρ 1 = .sl (l.map encPair) ∧ ρ 2 = str w ∧ ρ 3 = boo b ∧ ρ 10 = int k ∧ ∃ j, ρ 9 = .os j ∧ H j = some (faultRow (es1 ++ (List.range k).flatMap (pairFaults N l w b))), fun ρ _ => l.length - natOf (ρ 10),
    ⟨0, Nat.zero_le _, by simp only [go_sem, h0], by simp only [go_sem, h1], by simp only [go_sem, h2], by simp only [go_sem, h3], by simp only [go_sem]; rfl, j, by simp only [go_sem, h9], by simpa using hH⟩, ?_⟩
  clear hH h0 h1 h2 h3 h9 hj
  rintro ρ H ⟨k, hk, h0, h1, h2, h3, h10, j, h9, hH⟩
  generalize hes : es1 ++ (List.range k).flatMap (pairFaults N l w b) = es at hH
  have hlen : es.length ≤ k + 1 := by
    have := flat_len_le (pairFaults_len N l w b) (List.range k)
    rw [← hes, List.length_append]; rw [List.length_range] at this; omega
  simp only [go_sem, h0, h1, h2, h3, h9, h10]
  refine acond_i (fun hlt => ?_) (fun hge => ?_)
  · have hlt := le_of_lt_b hlt
    have hkk : k ≤ 4611686018427387904 := by omega
    obtain ⟨p, hp⟩ := getIn hlt
    have b1 := inB hlt
    have hds := decN_size k
    have h32 : (#[32] : Array UInt8).size = 1 := rfl
    have hfl : es1 ++ (List.range (k + 1)).flatMap (pairFaults N l w b) = es ++ pairFaults N l w b k := by rw [flat_range_succ, ← List.append_assoc, hes]
    simp only [go_sem, h0, h1, h2, h3, h9, h10, b1, getD_map hp]
    refine ⟨by omega, by omega, by rw [i64max]; omega, ?_⟩
    refine PC.use (dec12_c _ (by omega)) ?_
    simp only [go_sem, h0, h1, h2, h3, h9, h10]
    refine ⟨by rw [i64max]; omega, ?_⟩
    refine acond_i (fun hb => ?_) (fun hb => ?_)
    · simp only [go_sem, h0, h1, h2, h3, h9, h10]
      refine wappE_i hH ⟨rfl, rfl⟩ (by simp only [go_sem]) (by simp only [List.length_map, List.length_cons, List.length_nil]; omega) (fun j' hj' => ?_)
      simp only [go_sem, h0, h1, h2, h3, h10, wrapS hkk]
      refine ⟨⟨k + 1, hlt, rfl, j', rfl, ?_⟩, by simp only [natOf_int]; omega⟩
      have hn : badPair N (pAt l k) = true := by rw [pAt_get hp]; exact hb
      rw [hfl, pairFaults, hn]
      exact row_app (l' := [⟨2, pairS w k⟩]) rfl
    · simp only [go_sem, h0, h1, h2, h3, h9, h10]
      have hn : badPair N (pAt l k) = false := by rw [pAt_get hp]; exact hb
      refine ⟨fun ρ H' => ∃ m : Nat, m ≤ k ∧ ρ 0 = int N ∧ ρ 1 = .sl (l.map encPair) ∧ ρ 2 = str w ∧ ρ 3 = boo b ∧ ρ 9 = .os j ∧ ρ 10 = int k ∧ ρ 11 = int p.a ∧ ρ 12 = int p.b ∧ ρ 13 = str (pairS w k) ∧ ρ 14 = boo ((l.take m).any (samePair b p)) ∧ ρ 15 = int m ∧ H' = H, fun ρ _ => k - natOf (ρ 15),
        ⟨0, Nat.zero_le _, by simp only [go_sem, h0], by simp only [go_sem, h1], by simp only [go_sem, h2], by simp only [go_sem, h3], by simp only [go_sem, h9], by simp only [go_sem, h10], by simp only [go_sem], by simp only [go_sem], by simp only [go_sem]; rfl, by simp only [go_sem]; rfl, by simp only [go_sem]; rfl, rfl⟩, ?_⟩
      clear h0 h1 h2 h3 h9 h10
      rintro ρ H' ⟨m, hm, h0, h1, h2, h3, h9, h10, h11, h12, h13, h14, h15, rfl⟩
      simp only [go_sem, h0, h1, h2, h3, h9, h10, h11, h12, h13, h14, h15]
      refine acond_i (fun hlt2 => ?_) (fun hge2 => ?_)
      · have hlt2 := le_of_lt_b hlt2
        obtain ⟨q, hq⟩ := getIn (show m < l.length by omega)
        have b2 := inB (show m < l.length by omega)
        simp only [go_sem, h0, h1, h2, h3, h9, h10, h11, h12, h13, h14, h15, b2, getD_map hq, wrapS (show m ≤ 4611686018427387904 by omega)]
        refine ⟨fun _ => by omega, fun _ => by omega, fun _ => by omega, fun _ => by omega, ⟨m + 1, hlt2, ?_, rfl⟩, by simp only [natOf_int]; omega⟩
        rw [any_succ hq]
        simp only [samePair, Bool.or_assoc]
      · have hge2 := eq_of_ge_b hm hge2
        subst hge2
        simp only [go_sem, h14]
        have hsb : (l.take m).any (samePair b (pAt l m)) = (l.take m).any (samePair b p) := by rw [pAt_get hp]
        refine acond_joinL (fun ρ' H' => ρ' 0 = int N ∧ ρ' 1 = .sl (l.map encPair) ∧ ρ' 2 = str w ∧ ρ' 3 = boo b ∧ ρ' 10 = int m ∧ ∃ j, ρ' 9 = .os j ∧ H' j = some (faultRow (es1 ++ (List.range (m + 1)).flatMap (pairFaults N l w b)))) ?_ fun K hK _ _ => acond_i (fun hb => ?_) (fun hb => ?_)
        · clear hH h0 h1 h2 h3 h9 h10
          rintro ρ H ⟨h0, h1, h2, h3, h10, j, h9, hH⟩
          simp only [go_sem, h0, h1, h2, h3, h9, h10, wrapS hkk]
          exact ⟨⟨m + 1, hlt, rfl, j, rfl, hH⟩, by simp only [natOf_int]; omega⟩
        · simp only [go_sem, h0, h1, h2, h3, h9, h10, h13]
          refine wappE_i hH ⟨rfl, rfl⟩ (by simp only [go_sem]) (by simp only [List.length_map, List.length_cons, List.length_nil]; omega) (fun j' hj' => ?_)
          simp only [go_sem]
          refine hK _ _ ⟨by simp only [go_sem, h0], by simp only [go_sem, h1], by simp only [go_sem, h2], by simp only [go_sem, h3], by simp only [go_sem, h10], j', by simp only [go_sem], ?_⟩
          rw [hfl, pairFaults, hn]
          show _ = some (faultRow (es ++ opt _ ⟨6, pairS w m⟩))
          rw [opt_t (hsb.trans hb)]
          exact row_app (l' := [⟨6, pairS w m⟩]) rfl
        · simp only [go_sem]
          refine hK _ _ ⟨by simp only [go_sem, h0], by simp only [go_sem, h1], by simp only [go_sem, h2], by simp only [go_sem, h3], by simp only [go_sem, h10], j, by simp only [go_sem, h9], ?_⟩
          rw [hfl, pairFaults, hn]
          show _ = some (faultRow (es ++ opt _ ⟨6, pairS w m⟩))
          rw [opt_f (hsb.trans hb), List.append_nil, hH]
  · have hge := eq_of_ge_b hk hge
    subst hge
    simp only [go_sem, h9]
    exact ⟨_, rfl, by rw [hH, ← hes, ← hes1, ← hes0]; rfl⟩
theorem faults_all : ∀ l : List Fault, allLen 2 (l.map encFault)
  | [] => trivial
  | f :: r => ⟨rfl, faults_all r⟩
theorem pairsR_len (N : Int) (l : List Pair) (w : ByteArray) (b : Bool) : (pairsR N l w b).length ≤ l.length + 1 := by
  have := flat_len_le (pairFaults_len N l w b) (List.range l.length)
  have h2 := opt_len (decide ((l.length : Int) > 16)) (⟨4, w⟩ : Fault)
  rw [pairsR, List.length_append]; rw [List.length_range] at this; omega
theorem rulesCheck_c (N : Int) (ap be : List Pair) (hl : ap.length ≤ 1048576) (hl2 : be.length ≤ 1048576) :
    NC Try.prog 46 [int N, .sl (ap.map encPair), .sl (be.map encPair)] (faultRow (pairsR N ap ⟨#[97, 112, 97, 114, 116]⟩ true ++ pairsR N be ⟨#[98, 101, 102, 111, 114, 101]⟩ false)) .os := by
  refine NC.body (c := Try.f46.body.getD .skip) (fun t => t == 7) mixed Try.func46 rfl (by kernel_rfl) ?_
  unfold Try.f46
  simp only [Option.getD_some]
  simp only [go_sem]
  refine NC.use (faults_c N ap ⟨#[97, 112, 97, 114, 116]⟩ true hl (by decide)) fun j hj => ?_
  simp only [go_sem]
  refine NC.use (faults_c N be ⟨#[98, 101, 102, 111, 114, 101]⟩ false hl2 (by decide)) fun i hi => ?_
  simp only [go_sem]
  have l1 := pairsR_len N ap ⟨#[97, 112, 97, 114, 116]⟩ true
  have l2 := pairsR_len N be ⟨#[98, 101, 102, 111, 114, 101]⟩ false
  refine wappE_o (keep_new (updH_same _ _ _) hi) (updH_same _ _ _) ⟨rfl, rfl⟩ (faults_all _) (by simp only [List.length_map]; omega) (fun j' hj' => ?_)
  simp only [go_sem]
  exact ⟨_, rfl, row_app rfl⟩
end Go.Proofs.Ytjlbikpgjejkjaa
