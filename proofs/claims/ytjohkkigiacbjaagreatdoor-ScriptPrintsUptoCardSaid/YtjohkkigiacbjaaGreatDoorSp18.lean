/- Texts joined by a program: RefI. -/
import Derived.Test.YtjohkkigiacbjaaGreatDoorSp16
import Derived.Test.YtjohkkigiacbjaaGreatDoorSp17

set_option linter.unusedSimpArgs false
set_option linter.unusedVariables false
namespace Go.Proofs.YtjohkkigiacbjaaGreatDoor
open Go.Aw Go.Aw.D Go.Proofs Ty
set_option maxRecDepth 100000
def pAt (l : List Pair) (i : Nat) : Pair := l.getD i ⟨0, 0⟩
theorem pAt_get {l : List Pair} {k : Nat} {p : Pair} (h : l[k]? = some p) : pAt l k = p := by simp [pAt, List.getD, h]
def pairS (w : ByteArray) (k : Nat) : ByteArray := w ++ ⟨#[32]⟩ ++ decN k
def badPair (N : Int) (p : Pair) : Bool := decide (p.a < 0) || decide (p.a ≥ N) || decide (p.b < 0) || decide (p.b ≥ N) || p.a == p.b
def samePair (b : Bool) (p q : Pair) : Bool := (q.a == p.a && q.b == p.b) || (b && q.a == p.b && q.b == p.a)
def pairFaults (N : Int) (l : List Pair) (w : ByteArray) (b : Bool) (k : Nat) : List Fault := match badPair N (pAt l k) with
  | true => [⟨2, pairS w k⟩]
  | false => opt ((l.take k).any (samePair b (pAt l k))) ⟨6, pairS w k⟩
theorem pairFaults_len (N : Int) (l : List Pair) (w : ByteArray) (b : Bool) (k : Nat) : (pairFaults N l w b k).length ≤ 1 := by
  unfold pairFaults
  split
  · simp
  · exact opt_len _ _
def pairsR (N : Int) (l : List Pair) (w : ByteArray) (b : Bool) : List Fault := opt (decide ((l.length : Int) > 16)) ⟨4, w⟩ ++ (List.range l.length).flatMap (pairFaults N l w b)
theorem faults_c (N : Int) (l : List Pair) (w : ByteArray) (b : Bool) (hl : l.length ≤ 1048576) (hw : w.size ≤ 1048576) :
    NC Tryz.prog 119 [int N, .sl (l.map encPair), str w, boo b] (faultRow (pairsR N l w b)) .os := by
  refine NC.body (c := Tryz.f119.body.getD .skip) (fun t => t == 9) mixed Tryz.func119 rfl (by kernel_rfl) ?_
  unfold Tryz.f119
  simp only [Option.getD_some]
  simp only [go_sem]
  refine anew_i fun j hj => ?_
  simp only [go_sem]
  refine acond_cut (fun ρ' H' => ρ' 0 = int N ∧ ρ' 1 = .sl (l.map encPair) ∧ ρ' 2 = str w ∧ ρ' 3 = boo b ∧ ∃ j', ρ' 9 = .os j' ∧ H' j' = some (faultRow [])) ⟨by simp only [go_sem], by simp only [go_sem], by simp only [go_sem], by simp only [go_sem], _, by simp only [go_sem], updH_same _ _ _⟩ ?_
  rintro ρ H ⟨h0, h1, h2, h3, j, h9, hH⟩
  generalize hes0 : ([] : List Fault) = es0 at hH
  have hln0 : es0.length ≤ 0 := by rw [← hes0]; exact Nat.le_refl _
  refine acond_join (fun ρ' H' => ρ' 0 = int N ∧ ρ' 1 = .sl (l.map encPair) ∧ ρ' 2 = str w ∧ ρ' 3 = boo b ∧ ∃ j', ρ' 9 = .os j' ∧ H' j' = some (faultRow (es0 ++ opt (decide ((l.length : Int) > 16)) ⟨4, w⟩))) ?_ fun K hK => acond_i (fun hb => ?_) (fun hb => ?_)
  rotate_left
  · simp only [go_sem, h0, h1, h2, h3, h9]
    refine wappE_i hH ⟨rfl, rfl⟩ (by simp only [go_sem]) (by simp only [List.length_map, List.length_cons, List.length_nil]; omega) (fun j' hj' => ?_)
    simp only [go_sem]
    refine hK _ _ ⟨by simp only [go_sem, h0], by simp only [go_sem, h1], by simp only [go_sem, h2], by simp only [go_sem, h3], j', by simp only [go_sem], ?_⟩
    rw [opt_t (show (decide ((l.length : Int) > 16)) = true from hb)]
    exact row_app (l' := [⟨4, w⟩]) rfl
  · simp only [go_sem]
    refine hK _ _ ⟨by simp only [go_sem, h0], by simp only [go_sem, h1], by simp only [go_sem, h2], by simp only [go_sem, h3], j, by simp only [go_sem, h9], ?_⟩
    rw [opt_f (show (decide ((l.length : Int) > 16)) = false from hb), List.append_nil, hH]
  clear hH h0 h1 h2 h3 h9
  rintro ρ H ⟨h0, h1, h2, h3, j, h9, hH⟩
  generalize hes1 : es0 ++ opt (decide ((l.length : Int) > 16)) (⟨4, w⟩ : Fault) = es1 at hH
  have hln1 : es1.length ≤ es0.length + 1 := by rw [← hes1, List.length_append]; have := opt_len (decide ((l.length : Int) > 16)) (⟨4, w⟩ : Fault); omega
  simp only [go_sem, h0, h1, h2, h3, h9]
  refine ⟨fun ρ H => ∃ k : Nat, k ≤ l.length ∧ ρ 0 = int N ∧ ρ 1 = .sl (l.map encPair) ∧ ρ 2 = str w ∧ ρ 3 = boo b ∧ ρ 10 = int k ∧ ∃ j, ρ 9 = .os j ∧ H j = some (faultRow (es1 ++ (List.range k).flatMap (pairFaults N l w b))), fun ρ _ => l.length - natOf (ρ 10),
    ⟨0, Nat.zero_le _, by simp only [go_sem, h0], by simp only [go_sem, h1], by simp only [go_sem, h2], by simp only [go_sem, h3], by simp only [go_sem]; rfl, j, by simp only [go_sem, h9], by simpa using hH⟩, ?_⟩
  clear hH h0 h1 h2 h3 h9 hj
  rintro ρ H ⟨k, hk, h0, h1, h2, h3, h10, j, h9, hH⟩
  generalize hes : es1 ++ (List.range k).flatMap (pairFaults N l w b) = es at hH
  have hlen : es.length ≤ k + 1 := by
    have := flat_len_le (pairFaults_len N l w b) (List.range k)
    rw [← hes, List.length_append]; rw [List.length_range] at this; omega
  simp only [go_sem, h0, h1, h2, h3, h9, h10]
  refine acond_i (fun hlt => ?_) (fun hge => ?_)
  · have hlt := le_of_lt_b hlt
    have hkk : k ≤ 4611686018427387904 := by omega
    obtain ⟨p, hp⟩ := getIn hlt
    have b1 := inB hlt
    have hds := decN_size k
    have h32 : (#[32] : Array UInt8).size = 1 := rfl
    have hfl : es1 ++ (List.range (k + 1)).flatMap (pairFaults N l w b) = es ++ pairFaults N l w b k := by rw [flat_range_succ, ← List.append_assoc, hes]
    simp only [go_sem, h0, h1, h2, h3, h9, h10, b1, getD_map hp]
    refine ⟨by omega, by omega, by rw [i64max]; omega, ?_⟩
    refine PC.use (dec12_c _ (by omega)) ?_
    simp only [go_sem, h0, h1, h2, h3, h9, h10]
    refine ⟨by rw [i64max]; omega, ?_⟩
    refine acond_i (fun hb => ?_) (fun hb => ?_)
    · simp only [go_sem, h0, h1, h2, h3, h9, h10]
      refine wappE_i hH ⟨rfl, rfl⟩ (by simp only [go_sem]) (by simp only [List.length_map, List.length_cons, List.length_nil]; omega) (fun j' hj' => ?_)
      simp only [go_sem, h0, h1, h2, h3, h10, wrapS hkk]
      refine ⟨⟨k + 1, hlt, rfl, j', rfl, ?_⟩, by simp only [natOf_int]; omega⟩
      have hn : badPair N (pAt l k) = true := by rw [pAt_get hp]; exact hb
      rw [hfl, pairFaults, hn]
      exact row_app (l' := [⟨2, pairS w k⟩]) rfl
    · simp only [go_sem, h0, h1, h2, h3, h9, h10]
      have hn : badPair N (pAt l k) = false := by rw [pAt_get hp]; exact hb
      refine ⟨fun ρ H' => ∃ m : Nat, m ≤ k ∧ ρ 0 = int N ∧ ρ 1 = .sl (l.map encPair) ∧ ρ 2 = str w ∧ ρ 3 = boo b ∧ ρ 9 = .os j ∧ ρ 10 = int k ∧ ρ 11 = int p.a ∧ ρ 12 = int p.b ∧ ρ 13 = str (pairS w k) ∧ ρ 14 = boo ((l.take m).any (samePair b p)) ∧ ρ 15 = int m ∧ H' = H, fun ρ _ => k - natOf (ρ 15),
        ⟨0, Nat.zero_le _, by simp only [go_sem, h0], by simp only [go_sem, h1], by simp only [go_sem, h2], by simp only [go_sem, h3], by simp only [go_sem, h9], by simp only [go_sem, h10], by simp only [go_sem], by simp only [go_sem], by simp only [go_sem]; rfl, by simp only [go_sem]; rfl, by simp only [go_sem]; rfl, rfl⟩, ?_⟩
      clear h0 h1 h2 h3 h9 h10
      rintro ρ H' ⟨m, hm, h0, h1, h2, h3, h9, h10, h11, h12, h13, h14, h15, rfl⟩
      simp only [go_sem, h0, h1, h2, h3, h9, h10, h11, h12, h13, h14, h15]
      refine acond_i (fun hlt2 => ?_) (fun hge2 => ?_)
      · have hlt2 := le_of_lt_b hlt2
        obtain ⟨q, hq⟩ := getIn (show m < l.length by omega)
        have b2 := inB (show m < l.length by omega)
        simp only [go_sem, h0, h1, h2, h3, h9, h10, h11, h12, h13, h14, h15, b2, getD_map hq, wrapS (show m ≤ 4611686018427387904 by omega)]
        refine ⟨fun _ => by omega, fun _ => by omega, fun _ => by omega, fun _ => by omega, ⟨m + 1, hlt2, ?_, rfl⟩, by simp only [natOf_int]; omega⟩
        rw [any_succ hq]
        simp only [samePair, Bool.or_assoc]
      · have hge2 := eq_of_ge_b hm hge2
        subst hge2
        simp only [go_sem, h14]
        have hsb : (l.take m).any (samePair b (pAt l m)) = (l.take m).any (samePair b p) := by rw [pAt_get hp]
        refine acond_joinL (fun ρ' H' => ρ' 0 = int N ∧ ρ' 1 = .sl (l.map encPair) ∧ ρ' 2 = str w ∧ ρ' 3 = boo b ∧ ρ' 10 = int m ∧ ∃ j, ρ' 9 = .os j ∧ H' j = some (faultRow (es1 ++ (List.range (m + 1)).flatMap (pairFaults N l w b)))) ?_ fun K hK _ _ => acond_i (fun hb => ?_) (fun hb => ?_)
        · clear hH h0 h1 h2 h3 h9 h10
          rintro ρ H ⟨h0, h1, h2, h3, h10, j, h9, hH⟩
          simp only [go_sem, h0, h1, h2, h3, h9, h10, wrapS hkk]
          exact ⟨⟨m + 1, hlt, rfl, j, rfl, hH⟩, by simp only [natOf_int]; omega⟩
        · simp only [go_sem, h0, h1, h2, h3, h9, h10, h13]
          refine wappE_i hH ⟨rfl, rfl⟩ (by simp only [go_sem]) (by simp only [List.length_map, List.length_cons, List.length_nil]; omega) (fun j' hj' => ?_)
          simp only [go_sem]
          refine hK _ _ ⟨by simp only [go_sem, h0], by simp only [go_sem, h1], by simp only [go_sem, h2], by simp only [go_sem, h3], by simp only [go_sem, h10], j', by simp only [go_sem], ?_⟩
          rw [hfl, pairFaults, hn]
          show _ = some (faultRow (es ++ opt _ ⟨6, pairS w m⟩))
          rw [opt_t (hsb.trans hb)]
          exact row_app (l' := [⟨6, pairS w m⟩]) rfl
        · simp only [go_sem]
          refine hK _ _ ⟨by simp only [go_sem, h0], by simp only [go_sem, h1], by simp only [go_sem, h2], by simp only [go_sem, h3], by simp only [go_sem, h10], j, by simp only [go_sem, h9], ?_⟩
          rw [hfl, pairFaults, hn]
          show _ = some (faultRow (es ++ opt _ ⟨6, pairS w m⟩))
          rw [opt_f (hsb.trans hb), List.append_nil, hH]
  · have hge := eq_of_ge_b hk hge
    subst hge
    simp only [go_sem, h9]
    exact ⟨_, rfl, by rw [hH, ← hes, ← hes1, ← hes0]; rfl⟩
theorem faults_all : ∀ l : List Fault, allLen 2 (l.map encFault)
  | [] => trivial
  | f :: r => ⟨rfl, faults_all r⟩
theorem pairsR_len (N : Int) (l : List Pair) (w : ByteArray) (b : Bool) : (pairsR N l w b).length ≤ l.length + 1 := by
  have := flat_len_le (pairFaults_len N l w b) (List.range l.length)
  have h2 := opt_len (decide ((l.length : Int) > 16)) (⟨4, w⟩ : Fault)
  rw [pairsR, List.length_append]; rw [List.length_range] at this; omega
theorem rulesCheck_c (N : Int) (ap be : List Pair) (hl : ap.length ≤ 1048576) (hl2 : be.length ≤ 1048576) :
    NC Tryz.prog 70 [int N, .sl (ap.map encPair), .sl (be.map encPair)] (faultRow (pairsR N ap ⟨#[97, 112, 97, 114, 116]⟩ true ++ pairsR N be ⟨#[98, 101, 102, 111, 114, 101]⟩ false)) .os := by
  refine NC.body (c := Tryz.f70.body.getD .skip) (fun t => t == 7) mixed Tryz.func70 rfl (by kernel_rfl) ?_
  unfold Tryz.f70
  simp only [Option.getD_some]
  simp only [go_sem]
  refine NC.use (faults_c N ap ⟨#[97, 112, 97, 114, 116]⟩ true hl (by decide)) fun j hj => ?_
  simp only [go_sem]
  refine NC.use (faults_c N be ⟨#[98, 101, 102, 111, 114, 101]⟩ false hl2 (by decide)) fun i hi => ?_
  simp only [go_sem]
  have l1 := pairsR_len N ap ⟨#[97, 112, 97, 114, 116]⟩ true
  have l2 := pairsR_len N be ⟨#[98, 101, 102, 111, 114, 101]⟩ false
  refine wappE_o (keep_new (updH_same _ _ _) hi) (updH_same _ _ _) ⟨rfl, rfl⟩ (faults_all _) (by simp only [List.length_map]; omega) (fun j' hj' => ?_)
  simp only [go_sem]
  exact ⟨_, rfl, row_app rfl⟩
theorem NC.pc {f : FuncId} {args : List AV} {row : Row} (h : NC Tryz.prog f args row .os) : PC Tryz.prog f args (.sl row.es) :=
  RC.conv (RC.mono h fun r H' ⟨k, e, hk⟩ => by subst e; exact .row k row row.es hk (ConvE.refl _))
def arcAt (l : List Arc) (i : Nat) : Arc := l.getD i ⟨0, 0, 0, 0, [], []⟩
theorem arcAt_get {l : List Arc} {k : Nat} {p : Arc} (h : l[k]? = some p) : arcAt l k = p := by simp [arcAt, List.getD, h]
def arcS (k : Nat) : ByteArray := ⟨#[97, 114, 99, 32]⟩ ++ decN k
def badEnds (N : Int) (a : Arc) : Bool := decide (a.src < 0) || decide (a.src ≥ N) || decide (a.dst < 0) || decide (a.dst ≥ N)
def badArc (a : Arc) : Bool := decide (a.profile < 0) || decide (a.profile > 7) || decide (a.miles < 0) || decide (a.miles > 10000) || a.src == a.dst
def sameArc (a b : Arc) : Bool := a.src == b.src && a.dst == b.dst && a.profile == b.profile
def badSlow (l : List Point) (i : Nat) : Bool := !inR (ptAt l i).t 0 4096 || !inR (ptAt l i).a 0 4096 || decide ((i : Int) > 0) && decide ((ptAt l i).t ≤ (ptAt l (i - 1)).t)
def arcR (n : Network) (k : Nat) : List Fault :=
  [] ++ opt (badEnds n.places.length (arcAt n.arcs k)) ⟨11, arcS k⟩ ++ opt (badArc (arcAt n.arcs k)) ⟨2, arcS k⟩ ++ opt ((n.arcs.take k).any (sameArc (arcAt n.arcs k))) ⟨6, arcS k⟩
    ++ (travelR (arcAt n.arcs k).travel).map (fun f => ⟨f.err, arcS k⟩) ++ opt (decide (((arcAt n.arcs k).slow.length : Int) > 16)) ⟨4, arcS k⟩
    ++ (List.range (arcAt n.arcs k).slow.length).flatMap fun i => opt (badSlow (arcAt n.arcs k).slow i) ⟨2, arcS k⟩
theorem travelP_c (l : List Point) (hl : l.length ≤ 1048576) : PC Tryz.prog 166 [.sl (l.map encPoint)] (.sl ((travelR l).map encFault)) := NC.pc (travel_c l hl)
theorem travelR_len (l : List Point) : (travelR l).length ≤ 2 * l.length + 1 := by
  have := flat_len_le (pf_len l) (List.range l.length)
  have h2 := opt_len (badLen l.length 1 16) (⟨4, ByteArray.empty⟩ : Fault)
  rw [travelR, List.length_append]; rw [List.length_range] at this; omega
theorem arc_c (n : Network) (k : Nat) (hk : k < n.arcs.length) (hp : n.places.length ≤ 1048576) (hl : n.arcs.length ≤ 1048576) (hs : ∀ a ∈ n.arcs, a.travel.length ≤ 1048576 ∧ a.slow.length ≤ 1048576) :
    NC Tryz.prog 115 [.agg (encNetwork n), int k] (faultRow (arcR n k)) .os := by
  refine NC.body (c := Tryz.f115.body.getD .skip) (fun t => t == 5) mixed Tryz.func115 rfl (by kernel_rfl) ?_
  unfold Tryz.f115
  simp only [Option.getD_some]
  simp only [go_sem]
  obtain ⟨a, ha⟩ := getIn hk
  have b1 := inB hk
  have hst := hs a (mem_of_get ha)
  have hds := decN_size k
  refine anew_i fun j hj => ?_
  simp only [go_sem]
  refine PC.use (Decimal_c _ (by omega)) ?_
  simp only [go_sem, b1, getD_map ha]
  have h4 : (#[97, 114, 99, 32] : Array UInt8).size = 4 := rfl
  refine ⟨by rw [i64max]; omega, anew_i fun i hi => ?_⟩
  simp only [go_sem]
  refine wputE_n (updH_same _ _ _) (by simp [encArc_len]) ?_
  simp only [go_sem]
  have hji : j ≠ i := ne_new (updH_same _ _ _) hi
  have he1 : arcS k = ⟨#[97, 114, 99, 32]⟩ ++ decN k := rfl
  refine acond_cut (fun ρ' H' => ρ' 1 = int k ∧ ρ' 2 = .rp (encNetwork n) 0 ∧ ρ' 6 = str (arcS k) ∧ ρ' 7 = .op i 0 0 ∧ H' i = some (arcRow a) ∧ ∃ j', ρ' 5 = .os j' ∧ j' ≠ i ∧ H' j' = some (faultRow []))
    ⟨by simp only [go_sem], by simp only [go_sem], by simp only [go_sem, he1], by simp only [go_sem], updH_same _ _ _, j, by simp only [go_sem], hji, by rw [updH_ne _ _ _ _ hji, updH_ne _ _ _ _ hji, updH_same]; rfl⟩ ?_
  clear hi hj hji
  rintro ρ H ⟨h1, h2, h6, h7, hi, j, h5, hji, hH⟩
  generalize hes0 : ([] : List Fault) = es0 at hH
  have hln0 : es0.length ≤ 0 := by rw [← hes0]; exact Nat.le_refl _
  refine acond_join (fun ρ' H' => ρ' 1 = int k ∧ ρ' 2 = .rp (encNetwork n) 0 ∧ ρ' 6 = str (arcS k) ∧ ρ' 7 = .op i 0 0 ∧ H' i = some (arcRow a) ∧ ∃ j', ρ' 5 = .os j' ∧ j' ≠ i ∧ H' j' = some (faultRow (es0 ++ opt (badEnds n.places.length a) ⟨11, arcS k⟩))) ?_ fun K hK => acond_i (fun hb => ?_) (fun hb => ?_)
  rotate_left
  · simp only [go_sem, h1, h2, h6, h7, h5]
    refine wappE_i hH ⟨rfl, rfl⟩ (by simp only [go_sem]) (by simp only [List.length_map, List.length_cons, List.length_nil]; omega) (fun j' hj' => ?_)
    simp only [go_sem]
    refine hK _ _ ⟨by simp only [go_sem, h1], by simp only [go_sem, h2], by simp only [go_sem, h6], by simp only [go_sem, h7], keep_app hi hji hj', j', by simp only [go_sem], (ne_new hi hj').symm, ?_⟩
    rw [opt_t (show (badEnds n.places.length a) = true from hb)]
    exact row_app (l' := [⟨11, arcS k⟩]) rfl
  · simp only [go_sem]
    refine hK _ _ ⟨by simp only [go_sem, h1], by simp only [go_sem, h2], by simp only [go_sem, h6], by simp only [go_sem, h7], hi, j, by simp only [go_sem, h5], hji, ?_⟩
    rw [opt_f (show (badEnds n.places.length a) = false from hb), List.append_nil, hH]
  clear hH h1 h2 h6 h7 h5
  rintro ρ H ⟨h1, h2, h6, h7, hi, j, h5, hji, hH⟩
  generalize hes1 : es0 ++ opt (badEnds n.places.length a) (⟨11, arcS k⟩ : Fault) = es1 at hH
  have hln1 : es1.length ≤ es0.length + 1 := by rw [← hes1, List.length_append]; have := opt_len (badEnds n.places.length a) (⟨11, arcS k⟩ : Fault); omega
  simp only [go_sem, h1, h2, h6, h7, h5, hi]
  refine acond_join (fun ρ' H' => ρ' 1 = int k ∧ ρ' 2 = .rp (encNetwork n) 0 ∧ ρ' 6 = str (arcS k) ∧ ρ' 7 = .op i 0 0 ∧ H' i = some (arcRow a) ∧ ∃ j', ρ' 5 = .os j' ∧ j' ≠ i ∧ H' j' = some (faultRow (es1 ++ opt (badArc a) ⟨2, arcS k⟩))) ?_ fun K hK => acond_i (fun hb => ?_) (fun hb => ?_)
  rotate_left
  · simp only [go_sem, h1, h2, h6, h7, h5]
    refine wappE_i hH ⟨rfl, rfl⟩ (by simp only [go_sem]) (by simp only [List.length_map, List.length_cons, List.length_nil]; omega) (fun j' hj' => ?_)
    simp only [go_sem]
    refine hK _ _ ⟨by simp only [go_sem, h1], by simp only [go_sem, h2], by simp only [go_sem, h6], by simp only [go_sem, h7], keep_app hi hji hj', j', by simp only [go_sem], (ne_new hi hj').symm, ?_⟩
    rw [opt_t (show (badArc a) = true from hb)]
    exact row_app (l' := [⟨2, arcS k⟩]) rfl
  · simp only [go_sem]
    refine hK _ _ ⟨by simp only [go_sem, h1], by simp only [go_sem, h2], by simp only [go_sem, h6], by simp only [go_sem, h7], hi, j, by simp only [go_sem, h5], hji, ?_⟩
    rw [opt_f (show (badArc a) = false from hb), List.append_nil, hH]
  clear hH h1 h2 h6 h7 h5
  rintro ρ H ⟨h1, h2, h6, h7, hi, j, h5, hji, hH⟩
  generalize hes2 : es1 ++ opt (badArc a) (⟨2, arcS k⟩ : Fault) = es2 at hH
  have hln2 : es2.length ≤ es1.length + 1 := by rw [← hes2, List.length_append]; have := opt_len (badArc a) (⟨2, arcS k⟩ : Fault); omega
  simp only [go_sem, h1, h2, h6, h7, h5, hi]
  refine ⟨fun ρ' H' => ∃ m : Nat, m ≤ k ∧ ρ' 1 = int k ∧ ρ' 2 = .rp (encNetwork n) 0 ∧ ρ' 6 = str (arcS k) ∧ ρ' 7 = .op i 0 0 ∧ ρ' 5 = .os j ∧ ρ' 8 = boo ((n.arcs.take m).any (sameArc a)) ∧ ρ' 9 = int m ∧ H' i = some (arcRow a) ∧ H' j = some (faultRow es2), fun ρ _ => k - natOf (ρ 9),
    ⟨0, Nat.zero_le _, by simp only [go_sem, h1], by simp only [go_sem, h2], by simp only [go_sem, h6], by simp only [go_sem, h7], by simp only [go_sem, h5], by simp only [go_sem]; rfl, by simp only [go_sem]; rfl, hi, hH⟩, ?_⟩
  clear h1 h2 h6 h7 h5 hi hH
  rintro ρ H ⟨m, hm, h1, h2, h6, h7, h5, h8, h9, hi, hH⟩
  simp only [go_sem, h1, h2, h6, h7, h5, h8, h9]
  refine acond_i (fun hlt => ?_) (fun hge => ?_)
  · have hlt := le_of_lt_b hlt
    obtain ⟨c, hc⟩ := getIn (show m < n.arcs.length by omega)
    have b2 := inB (show m < n.arcs.length by omega)
    simp only [go_sem, h1, h2, h6, h7, h5, h8, h9, b2, getD_map hc]
    refine anew_i fun x hx => ?_
    simp only [go_sem]
    refine wputE_n (updH_same _ _ _) (by simp [encArc_len]) ?_
    have hix := ne_new hi hx
    have hjx := ne_new hH hx
    simp only [go_sem, h1, h2, h6, h7, h5, h8, h9, updH_ne _ _ _ _ hix, hi, wrapS (show m ≤ 4611686018427387904 by omega)]
    refine ⟨⟨m + 1, hlt, ?_, rfl, ?_⟩, by simp only [natOf_int]; omega⟩
    · rw [any_succ hc]; simp only [sameArc]
    · rw [updH_ne _ _ _ _ hjx, updH_ne _ _ _ _ hjx, hH]
  · have hge := eq_of_ge_b hm hge
    subst hge
    simp only [go_sem, h1, h2, h6, h7, h5, h8, h9]
    clear h1 h2 h8 h9
    refine acond_join (fun ρ' H' => ρ' 6 = str (arcS m) ∧ ρ' 7 = .op i 0 0 ∧ H' i = some (arcRow a) ∧ ∃ j', ρ' 5 = .os j' ∧ j' ≠ i ∧ H' j' = some (faultRow (es2 ++ opt ((n.arcs.take m).any (sameArc a)) ⟨6, arcS m⟩))) ?_ fun K hK => acond_i (fun hb => ?_) (fun hb => ?_)
    rotate_left
    · simp only [go_sem, h6, h7, h5]
      refine wappE_i hH ⟨rfl, rfl⟩ (by simp only [go_sem]) (by simp only [List.length_map, List.length_cons, List.length_nil]; omega) (fun j' hj' => ?_)
      simp only [go_sem]
      refine hK _ _ ⟨by simp only [go_sem, h6], by simp only [go_sem, h7], keep_app hi hji hj', j', by simp only [go_sem], (ne_new hi hj').symm, ?_⟩
      rw [opt_t (show ((n.arcs.take m).any (sameArc a)) = true from hb)]
      exact row_app (l' := [⟨6, arcS m⟩]) rfl
    · simp only [go_sem]
      refine hK _ _ ⟨by simp only [go_sem, h6], by simp only [go_sem, h7], hi, j, by simp only [go_sem, h5], hji, ?_⟩
      rw [opt_f (show ((n.arcs.take m).any (sameArc a)) = false from hb), List.append_nil, hH]
    clear hH h6 h7 h5
    rintro ρ H ⟨h6, h7, hi, j, h5, hji, hH⟩
    generalize hes3 : es2 ++ opt ((n.arcs.take m).any (sameArc a)) (⟨6, arcS m⟩ : Fault) = es3 at hH
    have hln3 : es3.length ≤ es2.length + 1 := by rw [← hes3, List.length_append]; have := opt_len ((n.arcs.take m).any (sameArc a)) (⟨6, arcS m⟩ : Fault); omega
    simp only [go_sem, h6, h7, h5, hi]
    refine PC.use (travelP_c a.travel hst.1) ?_
    simp only [go_sem]
    have htl := travelR_len a.travel
    have htr : (travelR (arcAt n.arcs m).travel).map (fun f => (⟨f.err, arcS m⟩ : Fault)) = (travelR a.travel).map (fun f => ⟨f.err, arcS m⟩) := by rw [arcAt_get ha]
    generalize travelR a.travel = tr at htl htr
    refine ⟨fun ρ H => ∃ q : Nat, q ≤ tr.length ∧ ρ 6 = str (arcS m) ∧ ρ 7 = .op i 0 0 ∧ ρ 11 = .sl (tr.map encFault) ∧ ρ 12 = int q ∧ H i = some (arcRow a) ∧ ∃ j, ρ 5 = .os j ∧ j ≠ i ∧ H j = some (faultRow (es3 ++ (tr.take q).map fun f => ⟨f.err, arcS m⟩)), fun ρ _ => tr.length - natOf (ρ 12),
      ⟨0, Nat.zero_le _, by simp only [go_sem, h6], by simp only [go_sem, h7], by simp only [go_sem], by simp only [go_sem]; rfl, hi, j, by simp only [go_sem, h5], hji, by simpa using hH⟩, ?_⟩
    clear h6 h7 h5 hi hH hji
    rintro ρ H ⟨q, hq, h6, h7, h11, h12, hi, j, h5, hji, hH⟩
    simp only [go_sem, h6, h7, h5, h11, h12]
    refine acond_i (fun hlt => ?_) (fun hge => ?_)
    · have hlt := le_of_lt_b hlt
      obtain ⟨f, hf⟩ := getIn hlt
      have b2 := inB hlt
      simp only [go_sem, h6, h7, h5, h11, h12, b2, getD_map hf]
      refine wappE_i hH ⟨rfl, rfl⟩ (by simp only [go_sem]) (by simp only [List.length_map, List.length_append, List.length_take, List.length_cons, List.length_nil]; omega) (fun j' hj' => ?_)
      simp only [go_sem, h6, h7, h5, h11, h12, wrapS (show q ≤ 4611686018427387904 by omega)]
      refine ⟨⟨q + 1, hlt, rfl, keep_app hi hji hj', j', rfl, (ne_new hi hj').symm, ?_⟩, by simp only [natOf_int]; omega⟩
      rw [map_succ hf, ← List.append_assoc]
      exact row_app (l' := [⟨f.err, arcS m⟩]) rfl
    · have hge := eq_of_ge_b hq hge
      subst hge
      simp only [go_sem, h6, h7, h5, h11, h12, hi]
      clear h11 h12
      rw [List.take_length] at hH
      generalize hes4 : es3 ++ tr.map (fun f => (⟨f.err, arcS m⟩ : Fault)) = es4 at hH
      have hln4 : es4.length = es3.length + tr.length := by rw [← hes4, List.length_append, List.length_map]
      refine acond_join (fun ρ' H' => ρ' 6 = str (arcS m) ∧ ρ' 7 = .op i 0 0 ∧ H' i = some (arcRow a) ∧ ∃ j', ρ' 5 = .os j' ∧ j' ≠ i ∧ H' j' = some (faultRow (es4 ++ opt (decide ((a.slow.length : Int) > 16)) ⟨4, arcS m⟩))) ?_ fun K hK => acond_i (fun hb => ?_) (fun hb => ?_)
      rotate_left
      · simp only [go_sem, h6, h7, h5]
        refine wappE_i hH ⟨rfl, rfl⟩ (by simp only [go_sem]) (by simp only [List.length_map, List.length_cons, List.length_nil]; omega) (fun j' hj' => ?_)
        simp only [go_sem]
        refine hK _ _ ⟨by simp only [go_sem, h6], by simp only [go_sem, h7], keep_app hi hji hj', j', by simp only [go_sem], (ne_new hi hj').symm, ?_⟩
        rw [opt_t (show (decide ((a.slow.length : Int) > 16)) = true from hb)]
        exact row_app (l' := [⟨4, arcS m⟩]) rfl
      · simp only [go_sem]
        refine hK _ _ ⟨by simp only [go_sem, h6], by simp only [go_sem, h7], hi, j, by simp only [go_sem, h5], hji, ?_⟩
        rw [opt_f (show (decide ((a.slow.length : Int) > 16)) = false from hb), List.append_nil, hH]
      clear hH h6 h7 h5
      rintro ρ H ⟨h6, h7, hi, j, h5, hji, hH⟩
      generalize hes5 : es4 ++ opt (decide ((a.slow.length : Int) > 16)) (⟨4, arcS m⟩ : Fault) = es5 at hH
      have hln5 : es5.length ≤ es4.length + 1 := by rw [← hes5, List.length_append]; have := opt_len (decide ((a.slow.length : Int) > 16)) (⟨4, arcS m⟩ : Fault); omega
      simp only [go_sem, h6, h7, h5, hi]
      refine ⟨fun ρ H => ∃ k : Nat, k ≤ a.slow.length ∧ ρ 6 = str (arcS m) ∧ ρ 7 = .op i 0 0 ∧ ρ 13 = int k ∧ H i = some (arcRow a) ∧ ∃ j, ρ 5 = .os j ∧ j ≠ i ∧ H j = some (faultRow (es5 ++ (List.range k).flatMap fun x => opt (badSlow a.slow x) ⟨2, arcS m⟩)), fun ρ _ => a.slow.length - natOf (ρ 13),
        ⟨0, Nat.zero_le _, by simp only [go_sem, h6], by simp only [go_sem, h7], by simp only [go_sem]; rfl, hi, j, by simp only [go_sem, h5], hji, by simpa using hH⟩, ?_⟩
      clear h6 h7 h5 hi hH hji
      rintro ρ H ⟨k, hk, h6, h7, h13, hi, j, h5, hji, hH⟩
      generalize hes : es5 ++ (List.range k).flatMap (fun x => opt (badSlow a.slow x) (⟨2, arcS m⟩ : Fault)) = es at hH
      have hlen : es.length ≤ es5.length + k := by
        have := flat_len_le (f := fun x => opt (badSlow a.slow x) (⟨2, arcS m⟩ : Fault)) (c := 1) (fun x => opt_len _ _) (List.range k)
        rw [← hes, List.length_append]; rw [List.length_range] at this; omega
      simp only [go_sem, h6, h7, h5, h13, hi]
      refine acond_i (fun hlt => ?_) (fun hge => ?_)
      · have hlt := le_of_lt_b hlt
        have hkk : k ≤ 4611686018427387904 := by omega
        obtain ⟨p, hp⟩ := getIn hlt
        obtain ⟨r, hr⟩ := getIn (show k - 1 < a.slow.length by omega)
        have b2 := inB hlt
        simp only [go_sem, h6, h7, h5, h13, hi, b2, getD_map hp]
        refine anew_i fun x hx => ?_
        simp only [go_sem]
        refine wputE_n (updH_same _ _ _) (by simp [encPoint_len]) ?_
        have hix := ne_new hi hx
        have hjx := ne_new hH hx
        simp only [go_sem]
        refine adraw_q (by rfl) (by kernel_rfl) ?_
        simp only [go_sem, h6, h7, h5, h13, updH_ne _ _ _ _ hix, hi]
        refine ⟨_, (tick_c _).q rfl, ?_⟩
        simp only [go_sem, h6, h7, h5, h13, updH_ne _ _ _ _ hix, hi]
        refine ⟨_, fun _ => (tick_c _).q rfl, ?_⟩
        simp only [go_sem, h6, h7, h5, h13, updH_ne _ _ _ _ hix, hi, wrapP hkk, getD_map hr]
        have hi2 : updH (updH H x (some ⟨134, 2, [[int 0, int 0]]⟩)) x (some ⟨134, 2, [encPoint p]⟩) i = some (arcRow a) := by rw [updH_ne _ _ _ _ hix, updH_ne _ _ _ _ hix, hi]
        have hH2 : updH (updH H x (some ⟨134, 2, [[int 0, int 0]]⟩)) x (some ⟨134, 2, [encPoint p]⟩) j = some (faultRow es) := by rw [updH_ne _ _ _ _ hjx, updH_ne _ _ _ _ hjx, hH]
        have hbs : badSlow a.slow k = (!inR p.t 0 4096 || !inR p.a 0 4096 || decide ((k : Int) > 0) && decide (p.t ≤ r.t)) := by rw [badSlow, ptAt_get hp, ptAt_get hr]
        have hfl : es5 ++ (List.range (k + 1)).flatMap (fun x => opt (badSlow a.slow x) (⟨2, arcS m⟩ : Fault)) = es ++ opt (badSlow a.slow k) ⟨2, arcS m⟩ := by rw [flat_range_succ, ← List.append_assoc, hes]
        refine ⟨fun h => by
          have : (k : Int) > 0 := by simpa using h.2
          rw [wrapQ hkk]; omega, acond_joinL (fun ρ' H' => ρ' 6 = str (arcS m) ∧ ρ' 7 = .op i 0 0 ∧ ρ' 13 = int k ∧ H' i = some (arcRow a) ∧ ∃ j, ρ' 5 = .os j ∧ j ≠ i ∧ H' j = some (faultRow (es ++ opt (badSlow a.slow k) ⟨2, arcS m⟩))) ?_ fun K hK _ _ => acond_i (fun hb => ?_) (fun hb => ?_)⟩
        · clear h6 h7 h5 h13
          rintro ρ H ⟨h6, h7, h13, hi, j, h5, hji, hH⟩
          simp only [go_sem, h6, h7, h5, h13, wrapS hkk]
          exact ⟨⟨k + 1, hlt, rfl, hi, j, rfl, hji, by rw [hfl]; exact hH⟩, by simp only [natOf_int]; omega⟩
        · simp only [go_sem, h6, h7, h5, h13]
          refine wappE_i hH2 ⟨rfl, rfl⟩ (by simp only [go_sem]) (by simp only [List.length_map, List.length_cons, List.length_nil]; omega) (fun j' hj' => ?_)
          simp only [go_sem]
          refine hK _ _ ⟨by simp only [go_sem, h6], by simp only [go_sem, h7], by simp only [go_sem, h13], keep_app hi2 hji hj', j', by simp only [go_sem], (ne_new hi2 hj').symm, ?_⟩
          rw [opt_t (hbs.trans hb)]
          exact row_app (l' := [⟨2, arcS m⟩]) rfl
        · simp only [go_sem]
          refine hK _ _ ⟨by simp only [go_sem, h6], by simp only [go_sem, h7], by simp only [go_sem, h13], hi2, j, by simp only [go_sem, h5], hji, ?_⟩
          rw [opt_f (hbs.trans hb), List.append_nil, hH2]
      · have hge := eq_of_ge_b hk hge
        subst hge
        simp only [go_sem, h5]
        refine ⟨_, rfl, ?_⟩
        rw [hH, ← hes, ← hes5, ← hes4, ← htr, ← hes3, ← hes2, ← hes1, ← hes0, arcR, arcAt_get ha]
theorem arcR_len (n : Network) (k : Nat) (ht : (arcAt n.arcs k).travel.length ≤ 1048576) (hs : (arcAt n.arcs k).slow.length ≤ 1048576) : (arcR n k).length ≤ 3145740 := by
  have h1 := opt_len (badEnds n.places.length (arcAt n.arcs k)) (⟨11, arcS k⟩ : Fault)
  have h2 := opt_len (badArc (arcAt n.arcs k)) (⟨2, arcS k⟩ : Fault)
  have h3 := opt_len ((n.arcs.take k).any (sameArc (arcAt n.arcs k))) (⟨6, arcS k⟩ : Fault)
  have h4 := travelR_len (arcAt n.arcs k).travel
  have h5 := opt_len (decide (((arcAt n.arcs k).slow.length : Int) > 16)) (⟨4, arcS k⟩ : Fault)
  have h6 := flat_len_le (f := fun i => opt (badSlow (arcAt n.arcs k).slow i) (⟨2, arcS k⟩ : Fault)) (c := 1) (fun x => opt_len _ _) (List.range (arcAt n.arcs k).slow.length)
  rw [List.length_range] at h6
  simp only [arcR, List.length_append, List.length_map, List.length_nil]
  omega
theorem flat_len_in {α β : Type} {f : α → List β} {c : Nat} : ∀ l : List α, (∀ x ∈ l, (f x).length ≤ c) → (l.flatMap f).length ≤ c * l.length
  | [], _ => by simp
  | x :: r, h => by
    have h1 := h x (by simp)
    have h2 := flat_len_in r fun y hy => h y (by simp [hy])
    simp only [List.flatMap_cons, List.length_append, List.length_cons, Nat.mul_add, Nat.mul_one]
    omega
def netR (n : Network) : List Fault := placesR n.places ++ opt (decide ((n.arcs.length : Int) > 1024)) ⟨4, ⟨#[97, 114, 99, 115]⟩⟩ ++ (List.range n.arcs.length).flatMap (arcR n)
theorem placesR_len (l : List ByteArray) : (placesR l).length ≤ l.length + 1 := by
  have := flat_len_le (plf_len l) (List.range l.length)
  have h2 := opt_len (decide ((l.length : Int) > 24)) (⟨4, ⟨#[112, 108, 97, 99, 101, 115]⟩⟩ : Fault)
  rw [placesR, List.length_append]; rw [List.length_range] at this; omega
theorem net_c (n : Network) (hp : n.places.length ≤ 1048576) (hps : ∀ s ∈ n.places, s.size ≤ 1048576) (hl : n.arcs.length ≤ 1048576) (hs : ∀ a ∈ n.arcs, a.travel.length ≤ 1048576 ∧ a.slow.length ≤ 1048576) :
    NC Tryz.prog 66 [.agg (encNetwork n)] (faultRow (netR n)) .os := by
  have hal : ∀ k, (arcR n k).length ≤ 3145740 := fun k => by
    rcases Nat.lt_or_ge k n.arcs.length with h | h
    · obtain ⟨a, ha⟩ := getIn h
      have hm := hs a (mem_of_get ha)
      exact arcR_len n k (by rw [arcAt_get ha]; exact hm.1) (by rw [arcAt_get ha]; exact hm.2)
    · have : arcAt n.arcs k = ⟨0, 0, 0, 0, [], []⟩ := by simp [arcAt, List.getD, List.getElem?_eq_none h]
      exact arcR_len n k (by rw [this]; simp) (by rw [this]; simp)
  have hpl := placesR_len n.places
  refine NC.body (c := Tryz.f66.body.getD .skip) (fun t => t == 3) mixed Tryz.func66 rfl (by kernel_rfl) ?_
  unfold Tryz.f66
  simp only [Option.getD_some]
  simp only [go_sem]
  refine NC.use (places_c n hp hps) fun j hj => ?_
  simp only [go_sem]
  refine acond_cut (fun ρ' H' => ρ' 1 = .rp (encNetwork n) 0 ∧ ∃ j', ρ' 3 = .os j' ∧ H' j' = some (faultRow (placesR n.places))) ⟨by simp only [go_sem], j, by simp only [go_sem], updH_same _ _ _⟩ ?_
  clear hj
  rintro ρ H ⟨h1, j, h3, hH⟩
  generalize hes0 : placesR n.places = es0 at hH hpl
  refine acond_join (fun ρ' H' => ρ' 1 = .rp (encNetwork n) 0 ∧ ∃ j', ρ' 3 = .os j' ∧ H' j' = some (faultRow (es0 ++ opt (decide ((n.arcs.length : Int) > 1024)) ⟨4, ⟨#[97, 114, 99, 115]⟩⟩))) ?_ fun K hK => acond_i (fun hb => ?_) (fun hb => ?_)
  rotate_left
  · simp only [go_sem, h1, h3]
    refine wappE_i hH ⟨rfl, rfl⟩ (by simp only [go_sem]) (by simp only [List.length_map, List.length_cons, List.length_nil]; omega) (fun j' hj' => ?_)
    simp only [go_sem]
    refine hK _ _ ⟨by simp only [go_sem, h1], j', by simp only [go_sem], ?_⟩
    rw [opt_t (show (decide ((n.arcs.length : Int) > 1024)) = true from hb)]
    exact row_app (l' := [⟨4, ⟨#[97, 114, 99, 115]⟩⟩]) rfl
  · simp only [go_sem]
    refine hK _ _ ⟨by simp only [go_sem, h1], j, by simp only [go_sem, h3], ?_⟩
    rw [opt_f (show (decide ((n.arcs.length : Int) > 1024)) = false from hb), List.append_nil, hH]
  clear hH h1 h3
  rintro ρ H ⟨h1, j, h3, hH⟩
  generalize hes1 : es0 ++ opt (decide ((n.arcs.length : Int) > 1024)) (⟨4, ⟨#[97, 114, 99, 115]⟩⟩ : Fault) = es1 at hH
  have hln1 : es1.length ≤ es0.length + 1 := by rw [← hes1, List.length_append]; have := opt_len (decide ((n.arcs.length : Int) > 1024)) (⟨4, ⟨#[97, 114, 99, 115]⟩⟩ : Fault); omega
  simp only [go_sem, h1, h3]
  refine ⟨fun ρ H => ∃ k : Nat, k ≤ n.arcs.length ∧ ρ 1 = .rp (encNetwork n) 0 ∧ ρ 4 = int k ∧ ∃ j, ρ 3 = .os j ∧ H j = some (faultRow (es1 ++ (List.range k).flatMap (arcR n))), fun ρ _ => n.arcs.length - natOf (ρ 4), ⟨0, Nat.zero_le _, by simp only [go_sem, h1], by simp only [go_sem]; rfl, j, by simp only [go_sem, h3], by simpa using hH⟩, ?_⟩
  clear hH h1 h3
  rintro ρ H ⟨k, hk, h1, h4, j, h3, hH⟩
  generalize hes : es1 ++ (List.range k).flatMap (arcR n) = es at hH
  have hlen : es.length ≤ es1.length + 3145740 * k := by
    have := flat_len_le hal (List.range k)
    rw [← hes, List.length_append]; rw [List.length_range] at this; omega
  simp only [go_sem, h1, h3, h4]
  refine acond_i (fun hlt => ?_) (fun hge => ?_)
  · have hlt := le_of_lt_b hlt
    simp only [go_sem, h1, h3, h4]
    refine NC.use (arc_c n k hlt hp hl hs) fun i hi => ?_
    simp only [go_sem]
    have := hal k
    refine wappE_o (keep_new hH hi) (updH_same _ _ _) ⟨rfl, rfl⟩ (faults_all _) (by simp only [List.length_map]; omega) (fun j' hj' => ?_)
    simp only [go_sem, h1, h3, h4, wrapS (show k ≤ 4611686018427387904 by omega)]
    refine ⟨⟨k + 1, hlt, rfl, j', rfl, ?_⟩, by simp only [natOf_int]; omega⟩
    rw [flat_range_succ, ← List.append_assoc, hes]
    exact row_app rfl
  · have hge := eq_of_ge_b hk hge
    subst hge
    simp only [go_sem, h3]
    exact ⟨_, rfl, by rw [hH, ← hes, ← hes1, ← hes0]; rfl⟩
def small (l : List Fault) : Prop := ∀ f ∈ l, f.at_.size ≤ 4194304
theorem small_nil : small [] := by simp [small]
theorem small_app {a b : List Fault} (ha : small a) (hb : small b) : small (a ++ b) := fun f hf => (List.mem_append.1 hf).elim (ha f) (hb f)
theorem small_opt {b : Bool} {f : Fault} (h : f.at_.size ≤ 4194304) : small (opt b f) := by
  cases b
  · simp [small, opt]
  · intro g hg; simp [opt] at hg; subst hg; exact h
theorem small_flat {α : Type} {F : α → List Fault} {l : List α} (h : ∀ x ∈ l, small (F x)) : small (l.flatMap F) := fun f hf => by
  obtain ⟨x, hx, hf⟩ := List.mem_flatMap.1 hf
  exact h x hx f hf
theorem small_map {α : Type} {F : α → Fault} {l : List α} (h : ∀ x ∈ l, (F x).at_.size ≤ 4194304) : small (l.map F) := fun f hf => by
  obtain ⟨x, hx, rfl⟩ := List.mem_map.1 hf
  exact h x hx
theorem lt_range {i n : Nat} (h : i ∈ List.range n) : i < n := List.mem_range.1 h
theorem arcS_size (i : Nat) : (arcS i).size ≤ i + 5 := by
  have := decN_size i
  unfold arcS
  rw [ByteArray.size_append]
  have : (⟨#[97, 114, 99, 32]⟩ : ByteArray).size = 4 := rfl
  omega
theorem pairS_size (w : ByteArray) (i : Nat) : (pairS w i).size ≤ w.size + i + 2 := by
  have := decN_size i
  unfold pairS
  rw [ByteArray.size_append, ByteArray.size_append]
  have : (⟨#[32]⟩ : ByteArray).size = 1 := rfl
  omega
theorem small_places (l : List ByteArray) (h : l.length ≤ 1048576) : small (placesR l) := small_app (small_opt (by decide)) (small_flat fun i hi => by
  have := lt_range hi
  have := placeS_size i
  unfold placeFaults
  split
  · exact small_opt (b := true) (by show (placeS i).size ≤ _; omega)
  · exact small_opt (by show (placeS i).size ≤ _; omega))
theorem small_net (n : Network) (hp : n.places.length ≤ 1048576) (hl : n.arcs.length ≤ 1048576) : small (netR n) := by
  refine small_app (small_app (small_places _ hp) (small_opt (by decide))) (small_flat fun i hi => ?_)
  have := lt_range hi
  have h : (arcS i).size ≤ 4194304 := by have := arcS_size i; omega
  exact small_app (small_app (small_app (small_app (small_app (small_app small_nil (small_opt h)) (small_opt h)) (small_opt h)) (small_map fun _ _ => h)) (small_opt h)) (small_flat fun _ _ => small_opt h)
theorem small_types (n : Network) (l : List VType) (hl : l.length ≤ 1048576) : small (typesR n l) :=
  small_app (small_opt (by decide)) (small_flat fun i hi => small_map fun _ _ => by have := lt_range hi; have := decN_size i; show (decN i).size ≤ _; omega)
theorem small_orders (n : Network) (d T : Int) (l : List Order) (hl : l.length ≤ 1048576) : small (ordersR n d T l) :=
  small_app (small_opt (by decide)) (small_flat fun i hi => small_map fun _ _ => by have := lt_range hi; have := decN_size i; show (decN i).size ≤ _; omega)
theorem small_pairs (N : Int) (l : List Pair) (w : ByteArray) (b : Bool) (hl : l.length ≤ 1048576) (hw : w.size ≤ 100) : small (pairsR N l w b) := small_app (small_opt (by show w.size ≤ _; omega)) (small_flat fun i hi => by
  have := lt_range hi
  have := pairS_size w i
  unfold pairFaults
  split
  · exact small_opt (b := true) (by show (pairS w i).size ≤ _; omega)
  · exact small_opt (by show (pairS w i).size ≤ _; omega))
theorem typesR_len (n : Network) (l : List VType) : (typesR n l).length ≤ 9 * l.length + 1 := by
  have := flat_len_le (f := typeFaults n l) (c := 9) (fun x => by unfold typeFaults; rw [List.length_map]; exact typeErrs_len _ _ _ _) (List.range l.length)
  have h2 := opt_len (!inR l.length 1 6) (⟨4, ByteArray.empty⟩ : Fault)
  rw [typesR, List.length_append]; rw [List.length_range] at this; omega
theorem ordersR_len (n : Network) (d T : Int) (l : List Order) : (ordersR n d T l).length ≤ 9 * l.length + 1 := by
  have := flat_len_le (f := orderFaults n d T l) (c := 9) (fun x => by unfold orderFaults; rw [List.length_map]; exact orderErrs_len _ _ _ _ _ _) (List.range l.length)
  have h2 := opt_len (decide ((l.length : Int) > 10)) (⟨4, ByteArray.empty⟩ : Fault)
  rw [ordersR, List.length_append]; rw [List.length_range] at this; omega
structure InB (x : Instance) : Prop where
  places : x.net.places.length ≤ 1048576
  place : ∀ s ∈ x.net.places, s.size ≤ 1048576
  arcs : x.net.arcs.length ≤ 1048576
  arc : ∀ a ∈ x.net.arcs, a.travel.length ≤ 1048576 ∧ a.slow.length ≤ 1048576
  types : x.types.length ≤ 1048576
  type : ∀ t ∈ x.types, t.name.size ≤ 1048576 ∧ t.cap.length ≤ 1048576
  orders : x.orders.length ≤ 1048576
  order : ∀ t ∈ x.orders, t.name.size ≤ 1048576 ∧ t.load.length ≤ 1048576
  apart : x.apart.length ≤ 1048576
  before : x.before.length ≤ 1048576
def rulesR (x : Instance) : List Fault := pairsR x.orders.length x.apart ⟨#[97, 112, 97, 114, 116]⟩ true ++ pairsR x.orders.length x.before ⟨#[98, 101, 102, 111, 114, 101]⟩ false
def checkR (x : Instance) : List Fault := (netR x.net).map (underF ⟨#[110, 101, 116]⟩) ++ (typesR x.net x.types).map (underF ⟨#[116, 121, 112, 101, 115]⟩) ++
  (ordersR x.net (dimsR x.types) x.types.length x.orders).map (underF ⟨#[111, 114, 100, 101, 114, 115]⟩) ++ (rulesR x).map (underF ⟨#[114, 117, 108, 101, 115]⟩)
theorem netR_len (x : Instance) (h : InB x) : (netR x.net).length ≤ 3300000000000 := by
  have h1 := placesR_len x.net.places
  have h2 := opt_len (decide ((x.net.arcs.length : Int) > 1024)) (⟨4, ⟨#[97, 114, 99, 115]⟩⟩ : Fault)
  have h3 := flat_len_in (f := arcR x.net) (c := 3145740) (List.range x.net.arcs.length) fun k hk => by
    obtain ⟨a, ha⟩ := getIn (lt_range hk)
    have hm := h.arc a (mem_of_get ha)
    exact arcR_len x.net k (by rw [arcAt_get ha]; exact hm.1) (by rw [arcAt_get ha]; exact hm.2)
  have h4 := h.places
  have h5 := h.arcs
  rw [List.length_range] at h3
  simp only [netR, List.length_append]
  omega
theorem check_c (x : Instance) (h : InB x) : NC Tryz.prog 35 [.agg (encInstance x)] (faultRow (checkR x)) .os := by
  have c1 : PC Tryz.prog 66 [.agg (encNetwork x.net)] (.sl ((netR x.net).map encFault)) := NC.pc (net_c x.net h.places h.place h.arcs h.arc)
  have c2 : PC Tryz.prog 67 [.agg (encNetwork x.net), .sl (x.types.map encVType)] (.sl ((typesR x.net x.types).map encFault)) := NC.pc (types_c x.net x.types h.types h.type h.places)
  have c3 : PC Tryz.prog 68 [.agg (encNetwork x.net), int (dimsR x.types), int x.types.length, .sl (x.orders.map encOrder)] (.sl ((ordersR x.net (dimsR x.types) x.types.length x.orders).map encFault)) := NC.pc (orders_c x.net _ _ x.orders h.orders h.order h.places)
  have c4 : PC Tryz.prog 70 [int x.orders.length, .sl (x.apart.map encPair), .sl (x.before.map encPair)] (.sl ((rulesR x).map encFault)) := NC.pc (rulesCheck_c x.orders.length x.apart x.before h.apart h.before)
  have l1 := netR_len x h
  have l2 := typesR_len x.net x.types
  have l3 := ordersR_len x.net (dimsR x.types) x.types.length x.orders
  have l4 : (rulesR x).length ≤ 2097154 := by
    have a1 := pairsR_len x.orders.length x.apart ⟨#[97, 112, 97, 114, 116]⟩ true
    have a2 := pairsR_len x.orders.length x.before ⟨#[98, 101, 102, 111, 114, 101]⟩ false
    have := h.apart; have := h.before
    rw [rulesR, List.length_append]; omega
  have s1 := small_net x.net h.places h.arcs
  have s2 := small_types x.net x.types h.types
  have s3 := small_orders x.net (dimsR x.types) x.types.length x.orders h.orders
  have s4 : small (rulesR x) := small_app (small_pairs _ _ _ _ h.apart (by decide)) (small_pairs _ _ _ _ h.before (by decide))
  have ht := h.types
  have ho := h.orders
  refine NC.body (c := Tryz.f35.body.getD .skip) (fun t => t == 27) mixed Tryz.func35 rfl (by kernel_rfl) ?_
  unfold Tryz.f35
  simp only [Option.getD_some]
  simp only [go_sem]
  refine PC.use c1 ?_
  simp only [go_sem]
  refine NC.use (under_c ⟨#[110, 101, 116]⟩ _ (by decide) (by omega) fun f hf => Nat.le_trans (s1 f hf) (by decide)) fun j hj => ?_
  simp only [go_sem]
  refine PC.use c2 ?_
  simp only [go_sem]
  refine NC.use (under_c ⟨#[116, 121, 112, 101, 115]⟩ _ (by decide) (by omega) fun f hf => Nat.le_trans (s2 f hf) (by decide)) fun i hi => ?_
  simp only [go_sem]
  refine wappE_o (keep_new (updH_same _ _ _) hi) (updH_same _ _ _) ⟨rfl, rfl⟩ (faults_all _) (by simp only [List.length_map]; omega) (fun j' hj' => ?_)
  simp only [go_sem]
  refine adraw_h (by kernel_rfl) ?_
  simp only [go_sem]
  refine ⟨_, (dims_c x.types).q rfl, ?_⟩
  simp only [go_sem]
  have hH := row_app (e := 87) (sz := 2) (enc := encFault) (H := updH (updH (updH noRows j (some (faultRow ((netR x.net).map (underF ⟨#[110, 101, 116]⟩))))) i (some (faultRow ((typesR x.net x.types).map (underF ⟨#[116, 121, 112, 101, 115]⟩))))) j none) (k := j') (l := (netR x.net).map (underF ⟨#[110, 101, 116]⟩)) (l' := (typesR x.net x.types).map (underF ⟨#[116, 121, 112, 101, 115]⟩)) rfl
  generalize updH (updH (updH (updH noRows j _) i _) j none) j' _ = H at hH ⊢
  generalize hes : (netR x.net).map (underF ⟨#[110, 101, 116]⟩) ++ (typesR x.net x.types).map (underF ⟨#[116, 121, 112, 101, 115]⟩) = es at hH
  have hel : es.length ≤ 3300000000000 + 9 * x.types.length + 1 := by rw [← hes, List.length_append, List.length_map, List.length_map]; omega
  clear hi hj hj'
  refine PC.use c3 ?_
  simp only [go_sem]
  refine NC.use (under_c ⟨#[111, 114, 100, 101, 114, 115]⟩ _ (by decide) (by omega) fun f hf => Nat.le_trans (s3 f hf) (by decide)) fun i hi => ?_
  simp only [go_sem]
  refine wappE_o (keep_new hH hi) (updH_same _ _ _) ⟨rfl, rfl⟩ (faults_all _) (by simp only [List.length_map]; omega) (fun k hk => ?_)
  simp only [go_sem]
  have hH2 := row_app (e := 87) (sz := 2) (enc := encFault) (H := updH (updH H i (some (faultRow ((ordersR x.net (dimsR x.types) x.types.length x.orders).map (underF ⟨#[111, 114, 100, 101, 114, 115]⟩))))) j' none) (k := k) (l := es) (l' := (ordersR x.net (dimsR x.types) x.types.length x.orders).map (underF ⟨#[111, 114, 100, 101, 114, 115]⟩)) rfl
  generalize updH (updH (updH H i _) j' none) k _ = H2 at hH2 ⊢
  clear hi hk
  refine PC.use c4 ?_
  simp only [go_sem]
  refine NC.use (under_c ⟨#[114, 117, 108, 101, 115]⟩ _ (by decide) (by omega) fun f hf => Nat.le_trans (s4 f hf) (by decide)) fun q hq => ?_
  simp only [go_sem]
  refine wappE_o (keep_new hH2 hq) (updH_same _ _ _) ⟨rfl, rfl⟩ (faults_all _) (by simp only [List.length_map, List.length_append]; omega) (fun m hm => ?_)
  simp only [go_sem]
  refine ⟨m, rfl, ?_⟩
  rw [checkR, hes]
  exact row_app rfl
end Go.Proofs.YtjohkkigiacbjaaGreatDoor
