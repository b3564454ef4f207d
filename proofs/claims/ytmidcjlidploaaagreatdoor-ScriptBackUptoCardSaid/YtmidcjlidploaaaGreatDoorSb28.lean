/- Texts joined by a program: SkU. -/
import Derived.Test.YtmidcjlidploaaaGreatDoorSb27

set_option linter.unusedSimpArgs false
set_option linter.unusedVariables false
namespace Go.Proofs.YtmidcjlidploaaaGreatDoor.Sk
open Go.Aw Go.Aw.D Go.Proofs Ty
open Go.Proofs.YtmidcjlidploaaaGreatDoor
open Go.Proofs.YtmidcjlidploaaaGreatDoor.Nw (ltB geB cB)
open Go.Proofs.YtmidcjlidploaaaGreatDoor.Sc
set_option maxRecDepth 100000
inductive Item where
  | place (s : ByteArray)
  | arc (a : Arc)
  | type (t : VType)
  | order (o : Order)
  | apart (p : Pair)
  | before (p : Pair)
  | fin
def Item.rank : Item → Nat
  | .place _ => 0
  | .arc _ => 1
  | .type _ => 2
  | .order _ => 3
  | .apart _ => 4
  | .before _ => 5
  | .fin => 6
theorem Item.rank_lt (i : Item) : i.rank < 7 := by cases i <;> simp only [Item.rank] <;> decide
def Item.words : Item → List ByteArray
  | .place s => [s]
  | .arc a => [decZ a.src, decZ a.dst, decZ a.profile, decZ a.miles, travelS a.travel, travelS a.slow]
  | .type t => [t.name, decZ t.count, decZ t.src, decZ t.dst, listS t.cap, decZ t.skills, decZ t.profile, decZ t.start, decZ t.close, decZ t.drive, decZ t.rest, decZ t.fixed, decZ t.perMile, decZ t.perTick]
  | .order o => [o.name, listS o.load, stopS o.pick, stopS o.drop, decZ o.skills, decZ o.penalty, decZ o.split, decZ o.last, decZ o.now, onS o.off]
  | .apart p => [decZ p.a, decZ p.b]
  | .before p => [decZ p.a, decZ p.b]
  | .fin => []
def Item.word (i : Item) : ByteArray := wordsL.getD i.rank ⟨#[]⟩
def addI (x : Instance) : Item → Instance
  | .place s => { x with net := { x.net with places := x.net.places ++ [s] } }
  | .arc a => { x with net := { x.net with arcs := x.net.arcs ++ [a] } }
  | .type t => { x with types := x.types ++ [t] }
  | .order o => { x with orders := x.orders ++ [o] }
  | .apart p => { x with apart := x.apart ++ [p] }
  | .before p => { x with before := x.before ++ [p] }
  | .fin => x
def OkIt : Item → Prop
  | .place s => wordR s = true
  | .arc a => OkArc a
  | .type t => OkType t ∧ wordR t.name = true
  | .order o => OkOrder o ∧ wordR o.name = true
  | .apart p => OkPair p
  | .before p => OkPair p
  | .fin => True
abbrev arcRow (l : List Arc) : Row := ⟨98, 6, l.map encArc⟩
abbrev typRow (l : List VType) : Row := ⟨101, 14, l.map encVType⟩
abbrev ordRow (l : List Order) : Row := ⟨49, 16, l.map encOrder⟩
abbrev pairRow (l : List Pair) : Row := ⟨104, 2, l.map encPair⟩
def cellR (x : Instance) : Nat → Row
  | 0 => strRow x.net.places
  | 1 => arcRow x.net.arcs
  | 2 => typRow x.types
  | 3 => ordRow x.orders
  | 4 => pairRow x.apart
  | _ => pairRow x.before
abbrev insRow (n : Nat → Nat) : Row := ⟨30, 6, [[.os (n 0), .os (n 1), .os (n 2), .os (n 3), .os (n 4), .os (n 5)]]⟩
structure IH (H : Heap) (b : Nat) (n : Nat → Nat) (x : Instance) : Prop where
  row : H b = some (insRow n)
  d : ∀ i < 6, H (n i) = some (cellR x i)
  nb : ∀ i < 6, n i ≠ b
  nn : ∀ i < 6, ∀ j < 6, i ≠ j → n i ≠ n j
def Off (b : Nat) (n : Nat → Nat) (k : Nat) : Prop := k ≠ b ∧ ∀ i < 6, k ≠ n i
structure Small (x : Instance) : Prop where
  pl : x.net.places.length ≤ 1000
  al : x.net.arcs.length ≤ 1000
  tl : x.types.length ≤ 1000
  ol : x.orders.length ≤ 1000
  ap : x.apart.length ≤ 1000
  be : x.before.length ≤ 1000
def KeepI (b : Nat) (n n' : Nat → Nat) (H H' : Heap) : Prop := ∀ k row, Off b n k → H k = some row → H' k = some row ∧ Off b n' k
section
variable {H G G' : Heap} {b c : Nat} {n : Nat → Nat} {x y : Instance}
theorem IH.fr (I : IH H b n x) (F : Fr c H G) (hc : Off b n c) : IH G b n x :=
  ⟨F _ _ hc.1.symm I.row, fun i hi => F _ _ (hc.2 i hi).symm (I.d i hi), I.nb, I.nn⟩
theorem IH.new (I : IH H b n x) {j : Nat} (N : ∀ {k a}, H k = some a → k ≠ j ∧ G k = some a) : IH G b n x ∧ Off b n j :=
  ⟨⟨(N I.row).2, fun i hi => (N (I.d i hi)).2, I.nb, I.nn⟩, (N I.row).1.symm, fun i hi => (N (I.d i hi)).1.symm⟩
def setN (n : Nat → Nat) (j j' : Nat) : Nat → Nat := fun i => if i = j then j' else n i
theorem setN_same (n : Nat → Nat) (j j' : Nat) : setN n j j' j = j' := if_pos rfl
theorem setN_ne (n : Nat → Nat) {i j : Nat} (j' : Nat) (h : i ≠ j) : setN n j j' i = n i := if_neg h
theorem IH.step {j j' : Nat} (I : IH H b n x) (hj : j < 6) (h1 : G j' = some (cellR y j)) (hG : ∀ k row, k ≠ n j → H k = some row → k ≠ j' ∧ G k = some row)
    (hy : ∀ i < 6, i ≠ j → cellR y i = cellR x i) (B : G' b = some (insRow (setN n j j'))) (F : Fr b G G') : IH G' b (setN n j j') y := by
  have ob := hG b _ (I.nb j hj).symm I.row
  refine ⟨B, fun i hi => ?_, fun i hi => ?_, fun i hi k hk hne => ?_⟩
  · by_cases e : i = j
    · subst e
      rw [setN_same]
      exact F _ _ ob.1.symm h1
    · rw [setN_ne n j' e, hy i hi e]
      exact F _ _ (I.nb i hi) (hG _ _ (I.nn i hi j hj e) (I.d i hi)).2
  · by_cases e : i = j
    · subst e
      rw [setN_same]
      exact ob.1.symm
    · rw [setN_ne n j' e]
      exact I.nb i hi
  · by_cases e : i = j
    · subst e
      rw [setN_same, setN_ne n j' (Ne.symm hne)]
      exact (hG _ _ (I.nn k hk i hi (Ne.symm hne)) (I.d k hk)).1.symm
    · by_cases e2 : k = j
      · subst e2
        rw [setN_same, setN_ne n j' hne]
        exact (hG _ _ (I.nn i hi k hk hne) (I.d i hi)).1
      · rw [setN_ne n j' e, setN_ne n j' e2]
        exact I.nn i hi k hk hne
theorem keep_step {j j' : Nat} {x : Instance} (hj : j < 6) (hG : ∀ k row, k ≠ n j → H k = some row → k ≠ j' ∧ G k = some row) (F : Fr b G G') : KeepI b n (setN n j j') H G' := fun k row o h => by
  have h2 := hG k row (o.2 j hj) h
  refine ⟨F _ _ o.1 h2.2, o.1, fun i hi => ?_⟩
  by_cases e : i = j
  · subst e
    rw [setN_same]
    exact h2.1
  · rw [setN_ne n j' e]
    exact o.2 i hi
abbrev aRow (a : Arc) (k : Nat) : Row := ⟨98, 6, [mixA (encArc a) (encArc ⟨0, 0, 0, 0, [], []⟩) k]⟩
def JH (H : Heap) (b : Nat) (n : Nat → Nat) (p c : Nat) (y : Instance) (H' : Heap) : Prop := ∃ n', IH H' b n' y ∧ H' c = some (rdRow []) ∧ H' p = some ⟨3, 1, [[int 0]]⟩ ∧ Off b n' p ∧ ∀ k row, Off b n k → H k = some row → H' k = some row ∧ Off b n' k ∧ k ≠ p
theorem jn {Gw G2 G3 : Heap} {p j j' : Nat} (I : IH Gw b n x) (hj : j < 6) (kk : ∀ k row, Off b n k → H k = some row → Gw k = some row ∧ k ≠ p ∧ k ≠ c) (op : Off b n p) (oc : Off b n c) (C : Gw c = some (rdRow [])) (P : Gw p = some ⟨3, 1, [[int 0]]⟩)
    (A : G2 j' = some (cellR y j)) (N2 : ∀ k row, k ≠ n j → Gw k = some row → k ≠ j' ∧ G2 k = some row) (hy : ∀ i < 6, i ≠ j → cellR y i = cellR x i) (B3 : G3 b = some (insRow (setN n j j'))) (F3 : Fr b G2 G3) : JH H b n p c y G3 := by
  have ks := keep_step (x := x) hj N2 F3
  refine ⟨setN n j j', I.step hj A N2 hy B3 F3, (ks c _ oc C).1, (ks p _ op P).1, (ks p _ op P).2, fun k row o h => ?_⟩
  obtain ⟨h1, h2, _⟩ := kk k row o h
  obtain ⟨h3, h4⟩ := ks k row o h1
  exact ⟨h3, h4, h2⟩
theorem JH.mono {p : Nat} {y : Instance} (h : JH H b n p c y G) (S : Sup G G') : JH H b n p c y G' := by
  obtain ⟨n', I, C, P, op, kk⟩ := h
  exact ⟨n', ⟨S _ _ I.row, fun i hi => S _ _ (I.d i hi), I.nb, I.nn⟩, S _ _ C, S _ _ P, op, fun k row o hk => ⟨S _ _ (kk k row o hk).1, (kk k row o hk).2⟩⟩
theorem mem_tail (s : ByteArray) {w : ByteArray} : ∀ {l : List ByteArray}, w ∈ l → w.size ≤ (tailB s l).size
  | [], h => by simp at h
  | a :: r, h => by
    rw [tailB_cons, ByteArray.size_append, ByteArray.size_append]
    rcases List.mem_cons.1 h with rfl | h
    · omega
    · have := mem_tail s h
      omega
theorem mem_size (s : ByteArray) {w : ByteArray} : ∀ {l : List ByteArray}, w ∈ l → w.size ≤ (joinB s l).size
  | [], h => by simp at h
  | a :: r, h => by
    rw [joinB_cons, ByteArray.size_append]
    rcases List.mem_cons.1 h with rfl | h
    · omega
    · have := mem_tail s h
      omega
end
theorem words_ok {it : Item} (h : OkIt it) : ∀ w ∈ it.word :: it.words, wordR w = true := by
  intro w hw
  rcases List.mem_cons.1 hw with rfl | hw
  · exact (by decide : ∀ i < 7, wordR (wordsL.getD i ⟨#[]⟩) = true) _ it.rank_lt
  cases it <;> simp only [Item.words, List.mem_cons, List.not_mem_nil, or_false] at hw
  · subst hw; exact h
  · rcases hw with rfl | rfl | rfl | rfl | rfl | rfl <;> first | exact decZ_word _ | exact travelS_word _
  · rcases hw with rfl | rfl | rfl | rfl | rfl | rfl | rfl | rfl | rfl | rfl | rfl | rfl | rfl | rfl <;> first | exact decZ_word _ | exact listS_word _ | exact h.2
  · rcases hw with rfl | rfl | rfl | rfl | rfl | rfl | rfl | rfl | rfl | rfl <;> first | exact decZ_word _ | exact listS_word _ | exact stopS_word _ | exact onS_word _ | exact h.2
  · rcases hw with rfl | rfl <;> exact decZ_word _
  · rcases hw with rfl | rfl <;> exact decZ_word _
theorem words_len (it : Item) : it.words.length ≤ 14 := by cases it <;> simp [Item.words]
theorem sline_c {H : Heap} {K : AV → Heap → Prop} {b : Nat} {n : Nat → Nat} {x : Instance} (it : Item) (I : IH H b n x) (ho : OkIt it) (hs : (joinB spB (it.word :: it.words)).size ≤ 65536) (hx : Small x)
    (hK : ∀ H' n', IH H' b n' (addI x it) → KeepI b n n' H H' → K (int (it.rank + 1 : Nat)) H') : FCalls Tryz.prog 39 [str (joinB spB (it.word :: it.words)), .op b 0 0] H K := by
  have hw := words_c (it.word :: it.words) (by simp) (words_ok ho) (by omega) (by have := words_len it; simp only [List.length_cons]; omega)
  have hl := words_len it
  refine FCalls.bodyD (g := 68) (fun t => t == 20) mixed Tryz.func39 (by kernel_rfl) rfl (by kernel_rfl) (by kernel_rfl) (by decide) (by decide) ?_
  simp only [go_sem]
  refine anew_g fun p G hp (P : G p = some ⟨3, 1, [[int 0]]⟩) N => ?_
  obtain ⟨I, op⟩ := I.new N
  have kk : ∀ k row, Off b n k → H k = some row → G k = some row ∧ k ≠ p := fun k row o h => ⟨(N h).2, (N h).1⟩
  clear N
  simp only [go_sem]
  refine PC.use hw ?_
  simp only [go_sem]
  refine acond_i (fun h => absurd h (by decide)) (fun _ => ?_)
  simp only [go_sem]
  refine anew_g fun c G1 hc (C : G1 c = some (rdRow (it.word :: it.words))) N => ?_
  obtain ⟨I, oc⟩ := I.new N
  obtain ⟨npc, P⟩ := N P
  replace kk : ∀ k row, Off b n k → H k = some row → G1 k = some row ∧ k ≠ p ∧ k ≠ c := fun k row o h => ⟨(N (kk k row o h).1).2, (kk k row o h).2, (N (kk k row o h).1).1⟩
  clear N
  simp only [go_sem]
  refine (rword_d C (words_ok ho _ (by simp)) (by omega)).use fun G C F => ?_
  replace I := I.fr F oc
  replace P := F _ _ npc P
  replace kk : ∀ k row, Off b n k → H k = some row → G k = some row ∧ k ≠ p ∧ k ≠ c := fun k row o h => ⟨F _ _ (kk k row o h).2.2 (kk k row o h).1, (kk k row o h).2⟩
  clear F hc hp
  simp only [go_sem]
  refine acond_joinL (fun ρ' H' => ρ' 4 = .op p 0 0 ∧ ρ' 7 = .op c 0 0 ∧ ρ' 8 = str it.word ∧ JH H b n p c (addI x it) H') (fun ρ' H' h => ?_) fun Q' hQ' _ _ => ?_
  · obtain ⟨e4, e7, e8, n', I', C', P', op', kk'⟩ := h
    simp only [go_sem, e4, e7, e8, C']
    refine acond_i (fun h => absurd h (by decide)) (fun _ => ?_)
    simp only [go_sem, e4, e7, e8]
    refine PC.use (rank_c it.rank it.rank_lt) ?_
    simp only [go_sem, e4, e7, e8]
    refine put1 so3 P' ⟨Nat.zero_lt_one, rfl, Nat.le_of_ble_eq_true rfl⟩ fun G2 P2 F2 => ?_
    rw [show Tryz.f39.results.toList = [ResultVar.cell 4 3] by rfl]
    simp only [go_sem, e4, P2]
    refine ⟨hK G2 n' (I'.fr F2 op') fun k row o h => ?_, line_dc _ _⟩
    obtain ⟨h1, h2, h3⟩ := kk' k row o h
    exact ⟨F2 _ _ h3 h1, h2⟩
  cases it with
  | place s =>
    refine acond_i (fun _ => ?_) (fun h => absurd (h.symm.trans (wordsL_ne 0 (by decide) 0 (by decide))) (by decide))
    simp only [go_sem]
    refine adraw_J [] (.q 0 (.q 1 (.q 2 (.q 3 (.q 4 (.q 6 (.a2 5 (.a1 7 (.a1 8 (.a1 9 (.q 10 (.q 11 (.q 12 (.a1 13 .nil))))))) 7 (.a2 5 (.a1 8 (.a1 9 (.q 10 (.q 11 (.q 12 (.a1 13 .nil)))))) 8 (.a1 5 (.a1 9 (.q 10 (.q 11 (.q 12 (.a1 13 .nil)))))))))))))) (fun ρ' H' => ρ' 4 = .op p 0 0 ∧ ρ' 7 = .op c 0 0 ∧ ρ' 8 = str _ ∧ JH H b n p c _ H') (by simp) (by kernel_rfl) (fun K' hK' Hp Hr _ hr _ _ => ?_) hQ'
    · obtain rfl : Hr = G := funext fun k => hr k (by simp)
      simp only [go_sem, I.row]
      refine ⟨?_, ?_⟩
      · simp only [go_sem, I.row]
        refine (rword_d C ho (by simp)).use fun G C F => ?_
        replace kk : ∀ k row, Off b n k → H k = some row → G k = some row ∧ k ≠ p ∧ k ≠ c := fun k row o h => ⟨F _ _ (kk k row o h).2.2 (kk k row o h).1, (kk k row o h).2⟩
        replace I := I.fr F oc
        replace P := F _ _ npc P
        clear F
        simp only [go_sem, I.row]
        refine app1 (I.d 0 (by decide)) ⟨rfl, rfl⟩ (by simp only [go_sem]) (by simp only [cellR, List.length_map, List.length_cons, List.length_nil]; have := hx.pl; omega) fun j' G2 A N2 => ?_
        have B := (N2 b _ (I.nb 0 (by decide)).symm I.row).2
        simp only [go_sem, B]
        refine put1 so22 B ⟨Nat.zero_lt_one, rfl, Nat.le_of_ble_eq_true rfl⟩ fun G3 B3 F3 => ?_
        simp only [go_sem]
        refine pinEnd_i fun _ Hm _ hm2 => ?_
        obtain rfl : Hm = G3 := funext fun k => hm2 k (by simp)
        refine hK' _ _ ⟨by simp only [go_sem], by simp only [go_sem], by simp only [go_sem], jn (j := 0) I (by decide) kk op oc C P (A.trans ?_) N2 (fun i hi hne => ?_) B3 F3⟩
        · simp only [cellR, addI, strRow, arcRow, typRow, ordRow, pairRow, List.map_append]
          rfl
        · have : i = 0 ∨ i = 1 ∨ i = 2 ∨ i = 3 ∨ i = 4 ∨ i = 5 := by omega
          rcases this with rfl | rfl | rfl | rfl | rfl | rfl <;> first | rfl | exact absurd rfl hne
      · simp only [go_sem, I.row]
        refine (rword_d C ho (by simp)).use fun G C F => ?_
        replace kk : ∀ k row, Off b n k → H k = some row → G k = some row ∧ k ≠ p ∧ k ≠ c := fun k row o h => ⟨F _ _ (kk k row o h).2.2 (kk k row o h).1, (kk k row o h).2⟩
        replace I := I.fr F oc
        replace P := F _ _ npc P
        clear F
        simp only [go_sem, I.row]
        refine ⟨?_, ?_⟩
        all_goals
          simp only [go_sem, I.row]
          refine app1 (I.d 0 (by decide)) ⟨rfl, rfl⟩ (by simp only [go_sem]) (by simp only [cellR, List.length_map, List.length_cons, List.length_nil]; have := hx.pl; omega) fun j' G2 A N2 => ?_
          have B := (N2 b _ (I.nb 0 (by decide)).symm I.row).2
          simp only [go_sem, B]
          refine put1 so22 B ⟨Nat.zero_lt_one, rfl, Nat.le_of_ble_eq_true rfl⟩ fun G3 B3 F3 => ?_
          simp only [go_sem]
          refine pinEnd_i fun _ Hm _ hm2 => ?_
          obtain rfl : Hm = G3 := funext fun k => hm2 k (by simp)
          refine hK' _ _ ⟨by simp only [go_sem], by simp only [go_sem], by simp only [go_sem], jn (j := 0) I (by decide) kk op oc C P (A.trans ?_) N2 (fun i hi hne => ?_) B3 F3⟩
          · simp only [cellR, addI, strRow, arcRow, typRow, ordRow, pairRow, List.map_append]
            rfl
          · have : i = 0 ∨ i = 1 ∨ i = 2 ∨ i = 3 ∨ i = 4 ∨ i = 5 := by omega
            rcases this with rfl | rfl | rfl | rfl | rfl | rfl <;> first | rfl | exact absurd rfl hne
  | arc a =>
    refine acond_i (fun h => absurd (h.symm.trans (wordsL_ne 0 (by decide) 1 (by decide))) (by decide)) (fun _ => ?_)
    simp only [go_sem]
    refine acond_i (fun _ => ?_) (fun h => absurd (h.symm.trans (wordsL_ne 1 (by decide) 1 (by decide))) (by decide))
    simp only [go_sem]
    refine anew_g fun q G2 hq (Q : G2 q = some (aRow a 0)) N => ?_
    replace kk : ∀ k row, Off b n k → H k = some row → G2 k = some row ∧ k ≠ p ∧ k ≠ c ∧ k ≠ q := fun k row o h => ⟨(N (kk k row o h).1).2, (kk k row o h).2.1, (kk k row o h).2.2, (N (kk k row o h).1).1⟩
    obtain ⟨I, oq⟩ := I.new N
    obtain ⟨npq, P⟩ := N P
    obtain ⟨ncq, C⟩ := N C
    clear N hq
    simp only [go_sem]
    refine (rnum_d C ho.src (by simp)).use fun G C F => ?_
    replace kk : ∀ k row, Off b n k → H k = some row → G k = some row ∧ k ≠ p ∧ k ≠ c ∧ k ≠ q := fun k row o h => ⟨F _ _ (kk k row o h).2.2.1 (kk k row o h).1, (kk k row o h).2⟩
    replace I := I.fr F oc
    replace P := F _ _ npc P
    replace Q := F _ _ ncq.symm Q
    clear F
    simp only [go_sem]
    refine put1 so3 Q ⟨Nat.zero_lt_one, rfl, Nat.le_of_ble_eq_true rfl⟩ fun G Q1 F => ?_
    replace kk : ∀ k row, Off b n k → H k = some row → G k = some row ∧ k ≠ p ∧ k ≠ c ∧ k ≠ q := fun k row o h => ⟨F _ _ (kk k row o h).2.2.2 (kk k row o h).1, (kk k row o h).2⟩
    replace I := I.fr F oq
    replace P := F _ _ npq P
    replace C := F _ _ ncq C
    replace Q : G q = some (aRow a 1) := Q1
    clear F Q1
    simp only [go_sem]
    refine (rnum_d C ho.dst (by simp)).use fun G C F => ?_
    replace kk : ∀ k row, Off b n k → H k = some row → G k = some row ∧ k ≠ p ∧ k ≠ c ∧ k ≠ q := fun k row o h => ⟨F _ _ (kk k row o h).2.2.1 (kk k row o h).1, (kk k row o h).2⟩
    replace I := I.fr F oc
    replace P := F _ _ npc P
    replace Q := F _ _ ncq.symm Q
    clear F
    simp only [go_sem]
    refine put1 so3 Q ⟨Nat.zero_lt_one, rfl, Nat.le_of_ble_eq_true rfl⟩ fun G Q1 F => ?_
    replace kk : ∀ k row, Off b n k → H k = some row → G k = some row ∧ k ≠ p ∧ k ≠ c ∧ k ≠ q := fun k row o h => ⟨F _ _ (kk k row o h).2.2.2 (kk k row o h).1, (kk k row o h).2⟩
    replace I := I.fr F oq
    replace P := F _ _ npq P
    replace C := F _ _ ncq C
    replace Q : G q = some (aRow a 2) := Q1
    clear F Q1
    simp only [go_sem]
    refine (rnum_d C ho.profile (by simp)).use fun G C F => ?_
    replace kk : ∀ k row, Off b n k → H k = some row → G k = some row ∧ k ≠ p ∧ k ≠ c ∧ k ≠ q := fun k row o h => ⟨F _ _ (kk k row o h).2.2.1 (kk k row o h).1, (kk k row o h).2⟩
    replace I := I.fr F oc
    replace P := F _ _ npc P
    replace Q := F _ _ ncq.symm Q
    clear F
    simp only [go_sem]
    refine put1 so3 Q ⟨Nat.zero_lt_one, rfl, Nat.le_of_ble_eq_true rfl⟩ fun G Q1 F => ?_
    replace kk : ∀ k row, Off b n k → H k = some row → G k = some row ∧ k ≠ p ∧ k ≠ c ∧ k ≠ q := fun k row o h => ⟨F _ _ (kk k row o h).2.2.2 (kk k row o h).1, (kk k row o h).2⟩
    replace I := I.fr F oq
    replace P := F _ _ npq P
    replace C := F _ _ ncq C
    replace Q : G q = some (aRow a 3) := Q1
    clear F Q1
    simp only [go_sem]
    refine (rnum_d C ho.miles (by simp)).use fun G C F => ?_
    replace kk : ∀ k row, Off b n k → H k = some row → G k = some row ∧ k ≠ p ∧ k ≠ c ∧ k ≠ q := fun k row o h => ⟨F _ _ (kk k row o h).2.2.1 (kk k row o h).1, (kk k row o h).2⟩
    replace I := I.fr F oc
    replace P := F _ _ npc P
    replace Q := F _ _ ncq.symm Q
    clear F
    simp only [go_sem]
    refine put1 so3 Q ⟨Nat.zero_lt_one, rfl, Nat.le_of_ble_eq_true rfl⟩ fun G Q1 F => ?_
    replace kk : ∀ k row, Off b n k → H k = some row → G k = some row ∧ k ≠ p ∧ k ≠ c ∧ k ≠ q := fun k row o h => ⟨F _ _ (kk k row o h).2.2.2 (kk k row o h).1, (kk k row o h).2⟩
    replace I := I.fr F oq
    replace P := F _ _ npq P
    replace C := F _ _ ncq C
    replace Q : G q = some (aRow a 4) := Q1
    clear F Q1
    simp only [go_sem]
    refine (rpoints_d C ho.tl ho.travel (by have := mem_size spB (w := travelS a.travel) (l := (Item.arc a).word :: (Item.arc a).words) (by simp [Item.words]); omega) (by simp)).use fun G C F => ?_
    replace kk : ∀ k row, Off b n k → H k = some row → G k = some row ∧ k ≠ p ∧ k ≠ c ∧ k ≠ q := fun k row o h => ⟨F _ _ (kk k row o h).2.2.1 (kk k row o h).1, (kk k row o h).2⟩
    replace I := I.fr F oc
    replace P := F _ _ npc P
    replace Q := F _ _ ncq.symm Q
    clear F
    simp only [go_sem]
    refine put1 so96 Q ⟨Nat.zero_lt_one, rfl, Nat.le_of_ble_eq_true rfl⟩ fun G Q1 F => ?_
    replace kk : ∀ k row, Off b n k → H k = some row → G k = some row ∧ k ≠ p ∧ k ≠ c ∧ k ≠ q := fun k row o h => ⟨F _ _ (kk k row o h).2.2.2 (kk k row o h).1, (kk k row o h).2⟩
    replace I := I.fr F oq
    replace P := F _ _ npq P
    replace C := F _ _ ncq C
    replace Q : G q = some (aRow a 5) := Q1
    clear F Q1
    simp only [go_sem]
    refine (rpoints_d C ho.sl ho.slow (by have := mem_size spB (w := travelS a.slow) (l := (Item.arc a).word :: (Item.arc a).words) (by simp [Item.words]); omega) (by simp)).use fun G C F => ?_
    replace kk : ∀ k row, Off b n k → H k = some row → G k = some row ∧ k ≠ p ∧ k ≠ c ∧ k ≠ q := fun k row o h => ⟨F _ _ (kk k row o h).2.2.1 (kk k row o h).1, (kk k row o h).2⟩
    replace I := I.fr F oc
    replace P := F _ _ npc P
    replace Q := F _ _ ncq.symm Q
    clear F
    simp only [go_sem]
    refine put1 so96 Q ⟨Nat.zero_lt_one, rfl, Nat.le_of_ble_eq_true rfl⟩ fun G Q1 F => ?_
    replace kk : ∀ k row, Off b n k → H k = some row → G k = some row ∧ k ≠ p ∧ k ≠ c ∧ k ≠ q := fun k row o h => ⟨F _ _ (kk k row o h).2.2.2 (kk k row o h).1, (kk k row o h).2⟩
    replace I := I.fr F oq
    replace P := F _ _ npq P
    replace C := F _ _ ncq C
    replace Q : G q = some (aRow a 6) := Q1
    clear F Q1
    simp only [go_sem]
    replace Q : G q = some ⟨98, 6, [encArc a]⟩ := Q
    refine adraw_J [q] (.q 0 (.q 1 (.q 2 (.q 3 (.q 4 (.q 6 (.a2 5 (.a1 7 (.a1 8 (.q 9 (.q 10 (.q 11 (.a1 12 .nil)))))) 7 (.a1 5 (.a1 8 (.q 9 (.q 10 (.q 11 (.a1 12 .nil))))))))))))) (fun ρ' H' => ρ' 4 = .op p 0 0 ∧ ρ' 7 = .op c 0 0 ∧ ρ' 8 = str _ ∧ JH H b n p c _ H') (by simp [Q]) (by kernel_rfl) (fun K' hK' Hp G1 hp hr _ _ => ?_) hQ'
    · have Q1 := (hp q (by simp)).trans Q
      have F : Fr q G G1 := fun k row hk h => (hr k (by simpa using hk)).trans h
      replace kk : ∀ k row, Off b n k → H k = some row → G1 k = some row ∧ k ≠ p ∧ k ≠ c := fun k row o h => ⟨F _ _ (kk k row o h).2.2.2 (kk k row o h).1, (kk k row o h).2.1, (kk k row o h).2.2.1⟩
      replace I := I.fr F oq
      replace P := F _ _ npq P
      replace C := F _ _ ncq C
      clear F hr hp
      simp only [go_sem, I.row, Q1]
      refine ⟨?_, ?_⟩
      all_goals
        simp only [go_sem, I.row, Q1]
        refine app1 (I.d 1 (by decide)) ⟨rfl, rfl⟩ (by simp only [go_sem]) (by simp only [cellR, List.length_map, List.length_cons, List.length_nil]; have := hx.al; omega) fun j' G2 A N2 => ?_
        have B := (N2 b _ (I.nb 1 (by decide)).symm I.row).2
        simp only [go_sem, B]
        refine put1 so23 B ⟨Nat.zero_lt_one, rfl, Nat.le_of_ble_eq_true rfl⟩ fun G3 B3 F3 => ?_
        simp only [go_sem]
        refine pinEnd_i fun h0 Hm _ hm2 => ?_
        have S : Sup G3 Hm := fun k row h => (hm2 k (fun hk => by rw [h0 k hk] at h; cases h)).trans h
        refine hK' _ _ ⟨by simp only [go_sem], by simp only [go_sem], by simp only [go_sem], (jn (j := 1) I (by decide) kk op oc C P (A.trans ?_) N2 (fun i hi hne => ?_) B3 F3).mono S⟩
        · simp only [cellR, addI, strRow, arcRow, typRow, ordRow, pairRow, List.map_append]
          rfl
        · have : i = 0 ∨ i = 1 ∨ i = 2 ∨ i = 3 ∨ i = 4 ∨ i = 5 := by omega
          rcases this with rfl | rfl | rfl | rfl | rfl | rfl <;> first | rfl | exact absurd rfl hne
  | type t =>
    refine acond_i (fun h => absurd (h.symm.trans (wordsL_ne 0 (by decide) 2 (by decide))) (by decide)) (fun _ => ?_)
    simp only [go_sem]
    refine acond_i (fun h => absurd (h.symm.trans (wordsL_ne 1 (by decide) 2 (by decide))) (by decide)) (fun _ => ?_)
    simp only [go_sem]
    refine acond_i (fun _ => ?_) (fun h => absurd (h.symm.trans (wordsL_ne 2 (by decide) 2 (by decide))) (by decide))
    simp only [go_sem]
    refine adraw_J [] (.q 0 (.q 1 (.q 2 (.q 3 (.q 5 (.a2 4 (.a1 6 (.a1 7 (.a1 8 (.q 9 (.q 10 (.a1 11 .nil)))))) 6 (.a2 4 (.a1 7 (.a1 8 (.q 9 (.q 10 (.a1 11 .nil))))) 7 (.a1 4 (.a1 8 (.q 9 (.q 10 (.a1 11 .nil)))))))))))) (fun ρ' H' => ρ' 4 = .op p 0 0 ∧ ρ' 7 = .op c 0 0 ∧ ρ' 8 = str _ ∧ JH H b n p c _ H') (by simp) (by kernel_rfl) (fun K' hK' Hp Hr _ hr _ _ => ?_) hQ'
    · obtain rfl : Hr = G := funext fun k => hr k (by simp)
      simp only [go_sem, I.row]
      refine ⟨?_, ?_⟩
      · simp only [go_sem, I.row]
        refine (rkind_d C ho.1 ho.2 (by have := mem_size spB (w := listS t.cap) (l := (Item.type t).word :: (Item.type t).words) (by simp [Item.words]); omega)).use fun G C F => ?_
        replace kk : ∀ k row, Off b n k → H k = some row → G k = some row ∧ k ≠ p ∧ k ≠ c := fun k row o h => ⟨F _ _ (kk k row o h).2.2 (kk k row o h).1, (kk k row o h).2⟩
        replace I := I.fr F oc
        replace P := F _ _ npc P
        clear F
        simp only [go_sem, I.row]
        refine app1 (I.d 2 (by decide)) ⟨rfl, rfl⟩ (by simp only [go_sem]) (by simp only [cellR, List.length_map, List.length_cons, List.length_nil]; have := hx.tl; omega) fun j' G2 A N2 => ?_
        have B := (N2 b _ (I.nb 2 (by decide)).symm I.row).2
        simp only [go_sem, B]
        refine put1 so26 B ⟨Nat.zero_lt_one, rfl, Nat.le_of_ble_eq_true rfl⟩ fun G3 B3 F3 => ?_
        simp only [go_sem]
        refine pinEnd_i fun _ Hm _ hm2 => ?_
        obtain rfl : Hm = G3 := funext fun k => hm2 k (by simp)
        refine hK' _ _ ⟨by simp only [go_sem], by simp only [go_sem], by simp only [go_sem], jn (j := 2) I (by decide) kk op oc C P (A.trans ?_) N2 (fun i hi hne => ?_) B3 F3⟩
        · simp only [cellR, addI, strRow, arcRow, typRow, ordRow, pairRow, List.map_append]
          rfl
        · have : i = 0 ∨ i = 1 ∨ i = 2 ∨ i = 3 ∨ i = 4 ∨ i = 5 := by omega
          rcases this with rfl | rfl | rfl | rfl | rfl | rfl <;> first | rfl | exact absurd rfl hne
      · simp only [go_sem, I.row]
        refine (rkind_d C ho.1 ho.2 (by have := mem_size spB (w := listS t.cap) (l := (Item.type t).word :: (Item.type t).words) (by simp [Item.words]); omega)).use fun G C F => ?_
        replace kk : ∀ k row, Off b n k → H k = some row → G k = some row ∧ k ≠ p ∧ k ≠ c := fun k row o h => ⟨F _ _ (kk k row o h).2.2 (kk k row o h).1, (kk k row o h).2⟩
        replace I := I.fr F oc
        replace P := F _ _ npc P
        clear F
        simp only [go_sem, I.row]
        refine ⟨?_, ?_⟩
        all_goals
          simp only [go_sem, I.row]
          refine app1 (I.d 2 (by decide)) ⟨rfl, rfl⟩ (by simp only [go_sem]) (by simp only [cellR, List.length_map, List.length_cons, List.length_nil]; have := hx.tl; omega) fun j' G2 A N2 => ?_
          have B := (N2 b _ (I.nb 2 (by decide)).symm I.row).2
          simp only [go_sem, B]
          refine put1 so26 B ⟨Nat.zero_lt_one, rfl, Nat.le_of_ble_eq_true rfl⟩ fun G3 B3 F3 => ?_
          simp only [go_sem]
          refine pinEnd_i fun _ Hm _ hm2 => ?_
          obtain rfl : Hm = G3 := funext fun k => hm2 k (by simp)
          refine hK' _ _ ⟨by simp only [go_sem], by simp only [go_sem], by simp only [go_sem], jn (j := 2) I (by decide) kk op oc C P (A.trans ?_) N2 (fun i hi hne => ?_) B3 F3⟩
          · simp only [cellR, addI, strRow, arcRow, typRow, ordRow, pairRow, List.map_append]
            rfl
          · have : i = 0 ∨ i = 1 ∨ i = 2 ∨ i = 3 ∨ i = 4 ∨ i = 5 := by omega
            rcases this with rfl | rfl | rfl | rfl | rfl | rfl <;> first | rfl | exact absurd rfl hne
  | order u =>
    refine acond_i (fun h => absurd (h.symm.trans (wordsL_ne 0 (by decide) 3 (by decide))) (by decide)) (fun _ => ?_)
    simp only [go_sem]
    refine acond_i (fun h => absurd (h.symm.trans (wordsL_ne 1 (by decide) 3 (by decide))) (by decide)) (fun _ => ?_)
    simp only [go_sem]
    refine acond_i (fun h => absurd (h.symm.trans (wordsL_ne 2 (by decide) 3 (by decide))) (by decide)) (fun _ => ?_)
    simp only [go_sem]
    refine acond_i (fun _ => ?_) (fun h => absurd (h.symm.trans (wordsL_ne 3 (by decide) 3 (by decide))) (by decide))
    simp only [go_sem]
    refine adraw_J [] (.q 0 (.q 1 (.q 2 (.q 3 (.q 5 (.a2 4 (.a1 6 (.a1 7 (.a1 8 (.q 9 (.q 10 (.a1 11 .nil)))))) 6 (.a2 4 (.a1 7 (.a1 8 (.q 9 (.q 10 (.a1 11 .nil))))) 7 (.a1 4 (.a1 8 (.q 9 (.q 10 (.a1 11 .nil)))))))))))) (fun ρ' H' => ρ' 4 = .op p 0 0 ∧ ρ' 7 = .op c 0 0 ∧ ρ' 8 = str _ ∧ JH H b n p c _ H') (by simp) (by kernel_rfl) (fun K' hK' Hp Hr _ hr _ _ => ?_) hQ'
    · obtain rfl : Hr = G := funext fun k => hr k (by simp)
      simp only [go_sem, I.row]
      refine ⟨?_, ?_⟩
      · simp only [go_sem, I.row]
        refine (rorder_d C ho.1 ho.2 (by have := mem_size spB (w := listS u.load) (l := (Item.order u).word :: (Item.order u).words) (by simp [Item.words]); omega)).use fun G C F => ?_
        replace kk : ∀ k row, Off b n k → H k = some row → G k = some row ∧ k ≠ p ∧ k ≠ c := fun k row o h => ⟨F _ _ (kk k row o h).2.2 (kk k row o h).1, (kk k row o h).2⟩
        replace I := I.fr F oc
        replace P := F _ _ npc P
        clear F
        simp only [go_sem, I.row]
        refine app1 (I.d 3 (by decide)) ⟨rfl, rfl⟩ (by simp only [go_sem]) (by simp only [cellR, List.length_map, List.length_cons, List.length_nil]; have := hx.ol; omega) fun j' G2 A N2 => ?_
        have B := (N2 b _ (I.nb 3 (by decide)).symm I.row).2
        simp only [go_sem, B]
        refine put1 so27 B ⟨Nat.zero_lt_one, rfl, Nat.le_of_ble_eq_true rfl⟩ fun G3 B3 F3 => ?_
        simp only [go_sem]
        refine pinEnd_i fun _ Hm _ hm2 => ?_
        obtain rfl : Hm = G3 := funext fun k => hm2 k (by simp)
        refine hK' _ _ ⟨by simp only [go_sem], by simp only [go_sem], by simp only [go_sem], jn (j := 3) I (by decide) kk op oc C P (A.trans ?_) N2 (fun i hi hne => ?_) B3 F3⟩
        · simp only [cellR, addI, strRow, arcRow, typRow, ordRow, pairRow, List.map_append]
          rfl
        · have : i = 0 ∨ i = 1 ∨ i = 2 ∨ i = 3 ∨ i = 4 ∨ i = 5 := by omega
          rcases this with rfl | rfl | rfl | rfl | rfl | rfl <;> first | rfl | exact absurd rfl hne
      · simp only [go_sem, I.row]
        refine (rorder_d C ho.1 ho.2 (by have := mem_size spB (w := listS u.load) (l := (Item.order u).word :: (Item.order u).words) (by simp [Item.words]); omega)).use fun G C F => ?_
        replace kk : ∀ k row, Off b n k → H k = some row → G k = some row ∧ k ≠ p ∧ k ≠ c := fun k row o h => ⟨F _ _ (kk k row o h).2.2 (kk k row o h).1, (kk k row o h).2⟩
        replace I := I.fr F oc
        replace P := F _ _ npc P
        clear F
        simp only [go_sem, I.row]
        refine ⟨?_, ?_⟩
        all_goals
          simp only [go_sem, I.row]
          refine app1 (I.d 3 (by decide)) ⟨rfl, rfl⟩ (by simp only [go_sem]) (by simp only [cellR, List.length_map, List.length_cons, List.length_nil]; have := hx.ol; omega) fun j' G2 A N2 => ?_
          have B := (N2 b _ (I.nb 3 (by decide)).symm I.row).2
          simp only [go_sem, B]
          refine put1 so27 B ⟨Nat.zero_lt_one, rfl, Nat.le_of_ble_eq_true rfl⟩ fun G3 B3 F3 => ?_
          simp only [go_sem]
          refine pinEnd_i fun _ Hm _ hm2 => ?_
          obtain rfl : Hm = G3 := funext fun k => hm2 k (by simp)
          refine hK' _ _ ⟨by simp only [go_sem], by simp only [go_sem], by simp only [go_sem], jn (j := 3) I (by decide) kk op oc C P (A.trans ?_) N2 (fun i hi hne => ?_) B3 F3⟩
          · simp only [cellR, addI, strRow, arcRow, typRow, ordRow, pairRow, List.map_append]
            rfl
          · have : i = 0 ∨ i = 1 ∨ i = 2 ∨ i = 3 ∨ i = 4 ∨ i = 5 := by omega
            rcases this with rfl | rfl | rfl | rfl | rfl | rfl <;> first | rfl | exact absurd rfl hne
  | apart r =>
    refine acond_i (fun h => absurd (h.symm.trans (wordsL_ne 0 (by decide) 4 (by decide))) (by decide)) (fun _ => ?_)
    simp only [go_sem]
    refine acond_i (fun h => absurd (h.symm.trans (wordsL_ne 1 (by decide) 4 (by decide))) (by decide)) (fun _ => ?_)
    simp only [go_sem]
    refine acond_i (fun h => absurd (h.symm.trans (wordsL_ne 2 (by decide) 4 (by decide))) (by decide)) (fun _ => ?_)
    simp only [go_sem]
    refine acond_i (fun h => absurd (h.symm.trans (wordsL_ne 3 (by decide) 4 (by decide))) (by decide)) (fun _ => ?_)
    simp only [go_sem]
    refine acond_i (fun _ => ?_) (fun h => absurd (h.symm.trans (wordsL_ne 4 (by decide) 4 (by decide))) (by decide))
    simp only [go_sem]
    refine adraw_J [] (.q 0 (.q 1 (.q 2 (.q 3 (.q 5 (.q 7 (.a2 4 (.a1 6 (.a1 8 (.q 9 (.a1 10 (.a1 11 (.q 12 (.q 13 (.a1 14 .nil)))))))) 6 (.a2 4 (.a1 8 (.q 9 (.a1 10 (.a1 11 (.q 12 (.q 13 (.a1 14 .nil))))))) 8 (.q 9 (.a2 4 (.a1 10 (.a1 11 (.q 12 (.q 13 (.a1 14 .nil))))) 10 (.a1 4 (.a1 11 (.q 12 (.q 13 (.a1 14 .nil))))))))))))))) (fun ρ' H' => ρ' 4 = .op p 0 0 ∧ ρ' 7 = .op c 0 0 ∧ ρ' 8 = str _ ∧ JH H b n p c _ H') (by simp) (by kernel_rfl) (fun K' hK' Hp Hr _ hr _ _ => ?_) hQ'
    · obtain rfl : Hr = G := funext fun k => hr k (by simp)
      simp only [go_sem, I.row]
      refine ⟨?_, ?_⟩
      · simp only [go_sem, I.row]
        refine (rnum_d C ho.1 (by simp)).use fun G C F => ?_
        replace kk : ∀ k row, Off b n k → H k = some row → G k = some row ∧ k ≠ p ∧ k ≠ c := fun k row o h => ⟨F _ _ (kk k row o h).2.2 (kk k row o h).1, (kk k row o h).2⟩
        replace I := I.fr F oc
        replace P := F _ _ npc P
        clear F
        simp only [go_sem, I.row]
        refine (rnum_d C ho.2 (by simp)).use fun G C F => ?_
        replace kk : ∀ k row, Off b n k → H k = some row → G k = some row ∧ k ≠ p ∧ k ≠ c := fun k row o h => ⟨F _ _ (kk k row o h).2.2 (kk k row o h).1, (kk k row o h).2⟩
        replace I := I.fr F oc
        replace P := F _ _ npc P
        clear F
        simp only [go_sem, I.row]
        refine app1 (I.d 4 (by decide)) ⟨rfl, rfl⟩ (by simp only [go_sem]) (by simp only [cellR, List.length_map, List.length_cons, List.length_nil]; have := hx.ap; omega) fun j' G2 A N2 => ?_
        have B := (N2 b _ (I.nb 4 (by decide)).symm I.row).2
        simp only [go_sem, B]
        refine put1 so28 B ⟨Nat.zero_lt_one, rfl, Nat.le_of_ble_eq_true rfl⟩ fun G3 B3 F3 => ?_
        simp only [go_sem]
        refine pinEnd_i fun _ Hm _ hm2 => ?_
        obtain rfl : Hm = G3 := funext fun k => hm2 k (by simp)
        refine hK' _ _ ⟨by simp only [go_sem], by simp only [go_sem], by simp only [go_sem], jn (j := 4) I (by decide) kk op oc C P (A.trans ?_) N2 (fun i hi hne => ?_) B3 F3⟩
        · simp only [cellR, addI, strRow, arcRow, typRow, ordRow, pairRow, List.map_append]
          rfl
        · have : i = 0 ∨ i = 1 ∨ i = 2 ∨ i = 3 ∨ i = 4 ∨ i = 5 := by omega
          rcases this with rfl | rfl | rfl | rfl | rfl | rfl <;> first | rfl | exact absurd rfl hne
      · simp only [go_sem, I.row]
        refine (rnum_d C ho.1 (by simp)).use fun G C F => ?_
        replace kk : ∀ k row, Off b n k → H k = some row → G k = some row ∧ k ≠ p ∧ k ≠ c := fun k row o h => ⟨F _ _ (kk k row o h).2.2 (kk k row o h).1, (kk k row o h).2⟩
        replace I := I.fr F oc
        replace P := F _ _ npc P
        clear F
        simp only [go_sem, I.row]
        refine ⟨?_, ?_⟩
        · simp only [go_sem, I.row]
          refine (rnum_d C ho.2 (by simp)).use fun G C F => ?_
          replace kk : ∀ k row, Off b n k → H k = some row → G k = some row ∧ k ≠ p ∧ k ≠ c := fun k row o h => ⟨F _ _ (kk k row o h).2.2 (kk k row o h).1, (kk k row o h).2⟩
          replace I := I.fr F oc
          replace P := F _ _ npc P
          clear F
          simp only [go_sem, I.row]
          refine app1 (I.d 4 (by decide)) ⟨rfl, rfl⟩ (by simp only [go_sem]) (by simp only [cellR, List.length_map, List.length_cons, List.length_nil]; have := hx.ap; omega) fun j' G2 A N2 => ?_
          have B := (N2 b _ (I.nb 4 (by decide)).symm I.row).2
          simp only [go_sem, B]
          refine put1 so28 B ⟨Nat.zero_lt_one, rfl, Nat.le_of_ble_eq_true rfl⟩ fun G3 B3 F3 => ?_
          simp only [go_sem]
          refine pinEnd_i fun _ Hm _ hm2 => ?_
          obtain rfl : Hm = G3 := funext fun k => hm2 k (by simp)
          refine hK' _ _ ⟨by simp only [go_sem], by simp only [go_sem], by simp only [go_sem], jn (j := 4) I (by decide) kk op oc C P (A.trans ?_) N2 (fun i hi hne => ?_) B3 F3⟩
          · simp only [cellR, addI, strRow, arcRow, typRow, ordRow, pairRow, List.map_append]
            rfl
          · have : i = 0 ∨ i = 1 ∨ i = 2 ∨ i = 3 ∨ i = 4 ∨ i = 5 := by omega
            rcases this with rfl | rfl | rfl | rfl | rfl | rfl <;> first | rfl | exact absurd rfl hne
        · simp only [go_sem, I.row]
          refine (rnum_d C ho.2 (by simp)).use fun G C F => ?_
          replace kk : ∀ k row, Off b n k → H k = some row → G k = some row ∧ k ≠ p ∧ k ≠ c := fun k row o h => ⟨F _ _ (kk k row o h).2.2 (kk k row o h).1, (kk k row o h).2⟩
          replace I := I.fr F oc
          replace P := F _ _ npc P
          clear F
          simp only [go_sem, I.row]
          refine ⟨?_, ?_⟩
          all_goals
            simp only [go_sem, I.row]
            refine app1 (I.d 4 (by decide)) ⟨rfl, rfl⟩ (by simp only [go_sem]) (by simp only [cellR, List.length_map, List.length_cons, List.length_nil]; have := hx.ap; omega) fun j' G2 A N2 => ?_
            have B := (N2 b _ (I.nb 4 (by decide)).symm I.row).2
            simp only [go_sem, B]
            refine put1 so28 B ⟨Nat.zero_lt_one, rfl, Nat.le_of_ble_eq_true rfl⟩ fun G3 B3 F3 => ?_
            simp only [go_sem]
            refine pinEnd_i fun _ Hm _ hm2 => ?_
            obtain rfl : Hm = G3 := funext fun k => hm2 k (by simp)
            refine hK' _ _ ⟨by simp only [go_sem], by simp only [go_sem], by simp only [go_sem], jn (j := 4) I (by decide) kk op oc C P (A.trans ?_) N2 (fun i hi hne => ?_) B3 F3⟩
            · simp only [cellR, addI, strRow, arcRow, typRow, ordRow, pairRow, List.map_append]
              rfl
            · have : i = 0 ∨ i = 1 ∨ i = 2 ∨ i = 3 ∨ i = 4 ∨ i = 5 := by omega
              rcases this with rfl | rfl | rfl | rfl | rfl | rfl <;> first | rfl | exact absurd rfl hne
  | before r =>
    refine acond_i (fun h => absurd (h.symm.trans (wordsL_ne 0 (by decide) 5 (by decide))) (by decide)) (fun _ => ?_)
    simp only [go_sem]
    refine acond_i (fun h => absurd (h.symm.trans (wordsL_ne 1 (by decide) 5 (by decide))) (by decide)) (fun _ => ?_)
    simp only [go_sem]
    refine acond_i (fun h => absurd (h.symm.trans (wordsL_ne 2 (by decide) 5 (by decide))) (by decide)) (fun _ => ?_)
    simp only [go_sem]
    refine acond_i (fun h => absurd (h.symm.trans (wordsL_ne 3 (by decide) 5 (by decide))) (by decide)) (fun _ => ?_)
    simp only [go_sem]
    refine acond_i (fun h => absurd (h.symm.trans (wordsL_ne 4 (by decide) 5 (by decide))) (by decide)) (fun _ => ?_)
    simp only [go_sem]
    refine acond_i (fun _ => ?_) (fun h => absurd (h.symm.trans (wordsL_ne 5 (by decide) 5 (by decide))) (by decide))
    simp only [go_sem]
    refine adraw_J [] (.q 0 (.q 1 (.q 2 (.q 3 (.q 5 (.q 7 (.a2 4 (.a1 6 (.a1 8 (.q 9 (.a1 10 (.a1 11 (.q 12 (.q 13 (.a1 14 .nil)))))))) 6 (.a2 4 (.a1 8 (.q 9 (.a1 10 (.a1 11 (.q 12 (.q 13 (.a1 14 .nil))))))) 8 (.q 9 (.a2 4 (.a1 10 (.a1 11 (.q 12 (.q 13 (.a1 14 .nil))))) 10 (.a1 4 (.a1 11 (.q 12 (.q 13 (.a1 14 .nil))))))))))))))) (fun ρ' H' => ρ' 4 = .op p 0 0 ∧ ρ' 7 = .op c 0 0 ∧ ρ' 8 = str _ ∧ JH H b n p c _ H') (by simp) (by kernel_rfl) (fun K' hK' Hp Hr _ hr _ _ => ?_) hQ'
    · obtain rfl : Hr = G := funext fun k => hr k (by simp)
      simp only [go_sem, I.row]
      refine ⟨?_, ?_⟩
      · simp only [go_sem, I.row]
        refine (rnum_d C ho.1 (by simp)).use fun G C F => ?_
        replace kk : ∀ k row, Off b n k → H k = some row → G k = some row ∧ k ≠ p ∧ k ≠ c := fun k row o h => ⟨F _ _ (kk k row o h).2.2 (kk k row o h).1, (kk k row o h).2⟩
        replace I := I.fr F oc
        replace P := F _ _ npc P
        clear F
        simp only [go_sem, I.row]
        refine (rnum_d C ho.2 (by simp)).use fun G C F => ?_
        replace kk : ∀ k row, Off b n k → H k = some row → G k = some row ∧ k ≠ p ∧ k ≠ c := fun k row o h => ⟨F _ _ (kk k row o h).2.2 (kk k row o h).1, (kk k row o h).2⟩
        replace I := I.fr F oc
        replace P := F _ _ npc P
        clear F
        simp only [go_sem, I.row]
        refine app1 (I.d 5 (by decide)) ⟨rfl, rfl⟩ (by simp only [go_sem]) (by simp only [cellR, List.length_map, List.length_cons, List.length_nil]; have := hx.be; omega) fun j' G2 A N2 => ?_
        have B := (N2 b _ (I.nb 5 (by decide)).symm I.row).2
        simp only [go_sem, B]
        refine put1 so28 B ⟨Nat.zero_lt_one, rfl, Nat.le_of_ble_eq_true rfl⟩ fun G3 B3 F3 => ?_
        simp only [go_sem]
        refine pinEnd_i fun _ Hm _ hm2 => ?_
        obtain rfl : Hm = G3 := funext fun k => hm2 k (by simp)
        refine hK' _ _ ⟨by simp only [go_sem], by simp only [go_sem], by simp only [go_sem], jn (j := 5) I (by decide) kk op oc C P (A.trans ?_) N2 (fun i hi hne => ?_) B3 F3⟩
        · simp only [cellR, addI, strRow, arcRow, typRow, ordRow, pairRow, List.map_append]
          rfl
        · have : i = 0 ∨ i = 1 ∨ i = 2 ∨ i = 3 ∨ i = 4 ∨ i = 5 := by omega
          rcases this with rfl | rfl | rfl | rfl | rfl | rfl <;> first | rfl | exact absurd rfl hne
      · simp only [go_sem, I.row]
        refine (rnum_d C ho.1 (by simp)).use fun G C F => ?_
        replace kk : ∀ k row, Off b n k → H k = some row → G k = some row ∧ k ≠ p ∧ k ≠ c := fun k row o h => ⟨F _ _ (kk k row o h).2.2 (kk k row o h).1, (kk k row o h).2⟩
        replace I := I.fr F oc
        replace P := F _ _ npc P
        clear F
        simp only [go_sem, I.row]
        refine ⟨?_, ?_⟩
        · simp only [go_sem, I.row]
          refine (rnum_d C ho.2 (by simp)).use fun G C F => ?_
          replace kk : ∀ k row, Off b n k → H k = some row → G k = some row ∧ k ≠ p ∧ k ≠ c := fun k row o h => ⟨F _ _ (kk k row o h).2.2 (kk k row o h).1, (kk k row o h).2⟩
          replace I := I.fr F oc
          replace P := F _ _ npc P
          clear F
          simp only [go_sem, I.row]
          refine app1 (I.d 5 (by decide)) ⟨rfl, rfl⟩ (by simp only [go_sem]) (by simp only [cellR, List.length_map, List.length_cons, List.length_nil]; have := hx.be; omega) fun j' G2 A N2 => ?_
          have B := (N2 b _ (I.nb 5 (by decide)).symm I.row).2
          simp only [go_sem, B]
          refine put1 so28 B ⟨Nat.zero_lt_one, rfl, Nat.le_of_ble_eq_true rfl⟩ fun G3 B3 F3 => ?_
          simp only [go_sem]
          refine pinEnd_i fun _ Hm _ hm2 => ?_
          obtain rfl : Hm = G3 := funext fun k => hm2 k (by simp)
          refine hK' _ _ ⟨by simp only [go_sem], by simp only [go_sem], by simp only [go_sem], jn (j := 5) I (by decide) kk op oc C P (A.trans ?_) N2 (fun i hi hne => ?_) B3 F3⟩
          · simp only [cellR, addI, strRow, arcRow, typRow, ordRow, pairRow, List.map_append]
            rfl
          · have : i = 0 ∨ i = 1 ∨ i = 2 ∨ i = 3 ∨ i = 4 ∨ i = 5 := by omega
            rcases this with rfl | rfl | rfl | rfl | rfl | rfl <;> first | rfl | exact absurd rfl hne
        · simp only [go_sem, I.row]
          refine (rnum_d C ho.2 (by simp)).use fun G C F => ?_
          replace kk : ∀ k row, Off b n k → H k = some row → G k = some row ∧ k ≠ p ∧ k ≠ c := fun k row o h => ⟨F _ _ (kk k row o h).2.2 (kk k row o h).1, (kk k row o h).2⟩
          replace I := I.fr F oc
          replace P := F _ _ npc P
          clear F
          simp only [go_sem, I.row]
          refine ⟨?_, ?_⟩
          all_goals
            simp only [go_sem, I.row]
            refine app1 (I.d 5 (by decide)) ⟨rfl, rfl⟩ (by simp only [go_sem]) (by simp only [cellR, List.length_map, List.length_cons, List.length_nil]; have := hx.be; omega) fun j' G2 A N2 => ?_
            have B := (N2 b _ (I.nb 5 (by decide)).symm I.row).2
            simp only [go_sem, B]
            refine put1 so28 B ⟨Nat.zero_lt_one, rfl, Nat.le_of_ble_eq_true rfl⟩ fun G3 B3 F3 => ?_
            simp only [go_sem]
            refine pinEnd_i fun _ Hm _ hm2 => ?_
            obtain rfl : Hm = G3 := funext fun k => hm2 k (by simp)
            refine hK' _ _ ⟨by simp only [go_sem], by simp only [go_sem], by simp only [go_sem], jn (j := 5) I (by decide) kk op oc C P (A.trans ?_) N2 (fun i hi hne => ?_) B3 F3⟩
            · simp only [cellR, addI, strRow, arcRow, typRow, ordRow, pairRow, List.map_append]
              rfl
            · have : i = 0 ∨ i = 1 ∨ i = 2 ∨ i = 3 ∨ i = 4 ∨ i = 5 := by omega
              rcases this with rfl | rfl | rfl | rfl | rfl | rfl <;> first | rfl | exact absurd rfl hne
  | fin =>
    refine acond_i (fun h => absurd (h.symm.trans (wordsL_ne 0 (by decide) 6 (by decide))) (by decide)) (fun _ => ?_)
    simp only [go_sem]
    refine acond_i (fun h => absurd (h.symm.trans (wordsL_ne 1 (by decide) 6 (by decide))) (by decide)) (fun _ => ?_)
    simp only [go_sem]
    refine acond_i (fun h => absurd (h.symm.trans (wordsL_ne 2 (by decide) 6 (by decide))) (by decide)) (fun _ => ?_)
    simp only [go_sem]
    refine acond_i (fun h => absurd (h.symm.trans (wordsL_ne 3 (by decide) 6 (by decide))) (by decide)) (fun _ => ?_)
    simp only [go_sem]
    refine acond_i (fun h => absurd (h.symm.trans (wordsL_ne 4 (by decide) 6 (by decide))) (by decide)) (fun _ => ?_)
    simp only [go_sem]
    refine acond_i (fun h => absurd (h.symm.trans (wordsL_ne 5 (by decide) 6 (by decide))) (by decide)) (fun _ => ?_)
    simp only [go_sem]
    exact hQ' _ _ ⟨by simp only [go_sem], by simp only [go_sem], by simp only [go_sem], n, I, C, P, op, fun k row o h => ⟨(kk k row o h).1, o, (kk k row o h).2.1⟩⟩
end Go.Proofs.YtmidcjlidploaaaGreatDoor.Sk
