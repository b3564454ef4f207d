/- Texts joined by a program: RefA, RefF, RefI, Read. -/
import Derived.Test.YtmidcjlidploaaaGreatDoorRows
import Derived.Carry
import Derived.OpenShut
import Derived.JoinedCond
import Derived.Test.YtmidcjlidploaaaGreatDoorSb14

section
set_option linter.unusedSimpArgs false
set_option linter.unusedVariables false
namespace Go.Proofs.YtmidcjlidploaaaGreatDoor
open Go.Aw Go.Aw.D Go.Proofs Ty
set_option maxRecDepth 100000
def inR (n lo hi : Int) : Bool := decide (n ≥ lo) && decide (n ≤ hi)
def digitR (c : Int) : Bool := decide (c ≥ 48) && decide (c ≤ 57)
def letterR (c : Int) : Bool := decide (c ≥ 97) && decide (c ≤ 122) || decide (c ≥ 65) && decide (c ≤ 90) || c == 95
def zeroStop (s : Stop) : Bool := s.place == -1 && s.start == 0 && s.close == 0 && s.service == 0
def badStop (s : Stop) : Bool := decide (s.place < 0) || decide (s.start < 0) || decide (s.start > s.close) || decide (s.close > 4096) || decide (s.service < 0) || decide (s.service > 4096)
def windowR (s : Stop) : Int := if zeroStop s then 0 else if badStop s then 2 else 0
def digitS (n : Int) : ByteArray := strOfNums [IntKind.u8.wrap (IntKind.i64.wrap (48 + n))]
def decN (n : Nat) : ByteArray := if n < 10 then digitS n else decN (n / 10) ++ digitS (n % 10 : Nat)
theorem strOf1 (x : Int) : (strOfNums [x]).size = 1 := by simp [strOfNums]; rfl
theorem digitS_size (n : Int) : (digitS n).size = 1 := strOf1 _
theorem decN_step {n : Nat} (h : 10 ≤ n) : decN n = decN (n / 10) ++ digitS (n % 10 : Nat) := by rw [decN, if_neg (by omega)]
theorem decN_last {n : Nat} (h : n < 10) : decN n = digitS n := by rw [decN, if_pos h]
theorem decN_size (n : Nat) : (decN n).size ≤ n + 1 := by
  induction n using Nat.strongRecOn with
  | ind n ih =>
    rcases Nat.lt_or_ge n 10 with h | h
    · rw [decN_last h, digitS_size]; omega
    · rw [decN_step h, ByteArray.size_append, digitS_size]
      have := ih (n / 10) (by omega)
      omega
theorem i64max : IntKind.i64.max = 9223372036854775807 := by decide
def rightL (l : List Int) (d : Int) : Bool := if (l.length : Int) = d then l.all fun n => !(decide (n < 0) || decide (n > 1000)) else false
theorem all_take {α : Type} {p : α → Bool} {l : List α} (h : ∀ x ∈ l, p x = true) : l.all p = true := List.all_eq_true.2 h
theorem all_miss {α : Type} {p : α → Bool} {l : List α} {x : α} (h : x ∈ l) (hp : p x = false) : l.all p = false := by
  cases hb : l.all p with
  | false => rfl
  | true => rw [List.all_eq_true.1 hb x h] at hp; cases hp
theorem mem_of_get {α : Type} {l : List α} {k : Nat} {x : α} (h : l[k]? = some x) : x ∈ l := List.mem_of_getElem? h
theorem take_all {α : Type} {q : α → Prop} {l : List α} {k : Nat} {x : α} (hr : l[k]? = some x) (h : ∀ y ∈ l.take k, q y) (hx : q x) : ∀ y ∈ l.take (k + 1), q y := by
  rw [take_succ hr]
  intro y hy
  rcases List.mem_append.1 hy with hy | hy
  · exact h y hy
  · simp at hy; subst hy; exact hx
theorem le_of_lt_b {k n : Nat} (h : decide ((k : Int) < (n : Int)) = true) : k < n := by simpa using h
theorem eq_of_ge_b {k n : Nat} (hk : k ≤ n) (h : decide ((k : Int) < (n : Int)) = false) : k = n := by
  have : ¬ k < n := by simpa using h
  omega
def capR (l : List Int) (d : Int) : Bool := if (!inR l.length 1 3 || (l.length : Int) != d) = true then false else l.all fun n => inR n 0 1000
def byteAt (s : ByteArray) (i : Nat) : Int := ((s.data.getD i 0).toNat : Int)
def nameR (s : ByteArray) : Bool := if (decide ((s.size : Int) < 1) || decide ((s.size : Int) > 16) || digitR (byteAt s 0)) = true then false else (List.range s.size).all fun i => letterR (byteAt s i) || digitR (byteAt s i)
theorem range_get {n k : Nat} (h : k < n) : (List.range n)[k]? = some k := by simp [h]
def dimsR (l : List VType) : Int := match l with | [] => 0 | t :: _ => t.cap.length
def knownR (l : List VType) (k : Nat) (s : ByteArray) : Bool := (l.take k).any fun t => t.name.toList == s.toList
def badPoint (p : Point) : Bool := decide (p.t < 0) || decide (p.t > 4096) || decide (p.a < p.t) || decide (p.a > IntKind.i64.wrap (p.t + 4096))
def noFifo (p q : Point) : Bool := decide (p.t ≤ q.t) || decide (p.a < q.a)
def ptAt (l : List Point) (i : Nat) : Point := l.getD i ⟨0, 0⟩
def badLen (n lo hi : Int) : Bool := decide (n < lo) || decide (n > hi)
def pointFaults (l : List Point) (i : Nat) : List Fault :=
  opt (badPoint (ptAt l i)) ⟨2, decN i⟩ ++ opt (decide ((i : Int) > 0) && noFifo (ptAt l i) (ptAt l (i - 1))) ⟨13, decN i⟩
def travelR (l : List Point) : List Fault := opt (badLen l.length 1 16) ⟨4, ByteArray.empty⟩ ++ (List.range l.length).flatMap (pointFaults l)
theorem pf_len (l : List Point) (i : Nat) : (pointFaults l i).length ≤ 2 := by
  unfold pointFaults
  rw [List.length_append]
  have := opt_len (badPoint (ptAt l i)) (⟨2, decN i⟩ : Fault)
  have := opt_len (decide ((i : Int) > 0) && noFifo (ptAt l i) (ptAt l (i - 1))) (⟨13, decN i⟩ : Fault)
  omega
theorem flat_len_le {α β : Type} {f : α → List β} {c : Nat} (h : ∀ x, (f x).length ≤ c) : ∀ l : List α, (l.flatMap f).length ≤ c * l.length
  | [] => by simp
  | x :: r => by
    have h1 := h x
    have h2 := flat_len_le h r
    simp only [List.flatMap_cons, List.length_append, List.length_cons, Nat.mul_add, Nat.mul_one]
    omega
theorem flat_range_succ {β : Type} (f : Nat → List β) (k : Nat) : (List.range (k + 1)).flatMap f = (List.range k).flatMap f ++ f k := by rw [List.range_succ, List.flatMap_append]; simp
theorem ptAt_get {l : List Point} {k : Nat} {p : Point} (h : l[k]? = some p) : ptAt l k = p := by simp [ptAt, List.getD, h]
def strAt (l : List ByteArray) (i : Nat) : ByteArray := l.getD i ByteArray.empty
theorem strAt_get {l : List ByteArray} {k : Nat} {p : ByteArray} (h : l[k]? = some p) : strAt l k = p := by simp [strAt, List.getD, h]
def placeS (i : Nat) : ByteArray := ⟨#[112, 108, 97, 99, 101, 32]⟩ ++ decN i
def sameBefore (l : List ByteArray) (i : Nat) : Bool := (l.take i).any fun s => s.toList == (strAt l i).toList
def placeFaults (l : List ByteArray) (i : Nat) : List Fault := match nameR (strAt l i) with
  | false => [⟨5, placeS i⟩]
  | true => opt (sameBefore l i) ⟨6, placeS i⟩
theorem plf_len (l : List ByteArray) (i : Nat) : (placeFaults l i).length ≤ 1 := by
  unfold placeFaults
  split
  · simp
  · exact opt_len _ _
def placesR (l : List ByteArray) : List Fault := opt (decide ((l.length : Int) > 24)) ⟨4, ⟨#[112, 108, 97, 99, 101, 115]⟩⟩ ++ (List.range l.length).flatMap (placeFaults l)
theorem placeS_size (i : Nat) : (placeS i).size ≤ i + 7 := by
  have := decN_size i
  unfold placeS
  rw [ByteArray.size_append]
  have : (⟨#[112, 108, 97, 99, 101, 32]⟩ : ByteArray).size = 6 := rfl
  omega
def vtAt (l : List VType) (i : Nat) : VType := l.getD i ⟨ByteArray.empty, 0, 0, 0, [], 0, 0, 0, 0, 0, 0, 0, 0, 0⟩
theorem vtAt_get {l : List VType} {k : Nat} {p : VType} (h : l[k]? = some p) : vtAt l k = p := by simp [vtAt, List.getD, h]
def typeErrs (n : Network) (l : List VType) (k : Nat) (t : VType) : List Int :=
  [] ++ opt (!nameR t.name) 5 ++ opt (knownR l k t.name) 6 ++ opt (!inR t.count 0 10) 22 ++ opt (!inR t.src 0 (n.places.length - 1) || !inR t.dst 0 (n.places.length - 1)) 11
    ++ opt (!capR t.cap (dimsR l)) 17 ++ opt (!inR t.skills 0 1073741823) 18 ++ opt (!inR t.start 0 t.close || decide (t.close > 4096)) 15
    ++ opt (!inR t.drive 1 4096 || !inR t.rest 0 4096) 16 ++ opt (!inR t.profile 0 7 || !inR t.fixed 0 100000 || !inR t.perMile 0 100 || !inR t.perTick 0 100) 2
def typeFaults (n : Network) (l : List VType) (k : Nat) : List Fault := (typeErrs n l k (vtAt l k)).map fun e => ⟨e, decN k⟩
def typesR (n : Network) (l : List VType) : List Fault := opt (!inR l.length 1 6) ⟨4, ByteArray.empty⟩ ++ (List.range l.length).flatMap (typeFaults n l)
theorem typeErrs_len (n : Network) (l : List VType) (k : Nat) (t : VType) : (typeErrs n l k t).length ≤ 9 := by
  unfold typeErrs
  simp only [List.length_append, List.length_nil]
  have h := fun (b : Bool) (x : Int) => opt_len b x
  have h1 := h (!nameR t.name) 5
  have h2 := h (knownR l k t.name) 6
  have h3 := h (!inR t.count 0 10) 22
  have h4 := h (!inR t.src 0 (n.places.length - 1) || !inR t.dst 0 (n.places.length - 1)) 11
  have h5 := h (!capR t.cap (dimsR l)) 17
  have h6 := h (!inR t.skills 0 1073741823) 18
  have h7 := h (!inR t.start 0 t.close || decide (t.close > 4096)) 15
  have h8 := h (!inR t.drive 1 4096 || !inR t.rest 0 4096) 16
  have h9 := h (!inR t.profile 0 7 || !inR t.fixed 0 100000 || !inR t.perMile 0 100 || !inR t.perTick 0 100) 2
  omega
end Go.Proofs.YtmidcjlidploaaaGreatDoor
end

section
set_option linter.unusedSimpArgs false
set_option linter.unusedVariables false
namespace Go.Proofs.YtmidcjlidploaaaGreatDoor
open Go.Aw Go.Aw.D Go.Proofs Ty
set_option maxRecDepth 100000
def knownO (l : List Order) (k : Nat) (s : ByteArray) : Bool := (l.take k).any fun t => t.name.toList == s.toList
def orderErrs (P : Nat) (d T : Int) (l : List Order) (k : Nat) (o : Order) : List Int :=
  [] ++ opt (!nameR o.name) 5 ++ opt (knownO l k o.name) 6 ++ opt (!rightL o.load d) 17 ++ opt (!inR o.pick.place (-1) ((P : Int) - 1) || !inR o.drop.place (-1) ((P : Int) - 1)) 11 ++ opt (o.pick.place == -1 && o.drop.place == -1) 19 ++ opt (windowR o.pick != 0 || windowR o.drop != 0) 14 ++ opt (!inR o.skills 0 1073741823) 18 ++ opt (!inR o.penalty (-1) 1000000 || !inR o.split 1 4 || decide (o.split > 1) && (o.pick.place != -1 && o.drop.place != -1) || decide (o.last < -1) || decide (o.last ≥ T) || decide (o.now < -1) || decide (o.now ≥ T)) 2
def underF (w : ByteArray) (f : Fault) : Fault := ⟨f.err, match f.at_.toList == (⟨#[]⟩ : ByteArray).toList with | true => w | false => w ++ ⟨#[32]⟩ ++ f.at_⟩
def orAt (l : List Order) (i : Nat) : Order := l.getD i ⟨ByteArray.empty, [], ⟨0, 0, 0, 0⟩, ⟨0, 0, 0, 0⟩, 0, 0, 0, 0, 0, false⟩
theorem orAt_get {l : List Order} {k : Nat} {p : Order} (h : l[k]? = some p) : orAt l k = p := by simp [orAt, List.getD, h]
def orderFaults (n : Network) (d T : Int) (l : List Order) (k : Nat) : List Fault := (orderErrs n.places.length d T l k (orAt l k)).map fun e => ⟨e, decN k⟩
def ordersR (n : Network) (d T : Int) (l : List Order) : List Fault := opt (decide ((l.length : Int) > 10)) ⟨4, ByteArray.empty⟩ ++ (List.range l.length).flatMap (orderFaults n d T l)
theorem orderErrs_len (P : Nat) (d T : Int) (l : List Order) (k : Nat) (o : Order) : (orderErrs P d T l k o).length ≤ 9 := by
  unfold orderErrs
  simp only [List.length_append, List.length_nil]
  have h := fun (b : Bool) (x : Int) => opt_len b x
  have h1 := h (!nameR o.name) 5
  have h2 := h (knownO l k o.name) 6
  have h3 := h (!rightL o.load d) 17
  have h4 := h (!inR o.pick.place (-1) ((P : Int) - 1) || !inR o.drop.place (-1) ((P : Int) - 1)) 11
  have h5 := h (o.pick.place == -1 && o.drop.place == -1) 19
  have h6 := h (windowR o.pick != 0 || windowR o.drop != 0) 14
  have h7 := h (!inR o.skills 0 1073741823) 18
  have h8 := h (!inR o.penalty (-1) 1000000 || !inR o.split 1 4 || decide (o.split > 1) && (o.pick.place != -1 && o.drop.place != -1) || decide (o.last < -1) || decide (o.last ≥ T) || decide (o.now < -1) || decide (o.now ≥ T)) 2
  omega
end Go.Proofs.YtmidcjlidploaaaGreatDoor
end

section
set_option linter.unusedSimpArgs false
set_option linter.unusedVariables false
namespace Go.Proofs.YtmidcjlidploaaaGreatDoor
open Go.Aw Go.Aw.D Go.Proofs Ty
set_option maxRecDepth 100000
def pAt (l : List Pair) (i : Nat) : Pair := l.getD i ⟨0, 0⟩
theorem pAt_get {l : List Pair} {k : Nat} {p : Pair} (h : l[k]? = some p) : pAt l k = p := by simp [pAt, List.getD, h]
def pairS (w : ByteArray) (k : Nat) : ByteArray := w ++ ⟨#[32]⟩ ++ decN k
def badPair (N : Int) (p : Pair) : Bool := decide (p.a < 0) || decide (p.a ≥ N) || decide (p.b < 0) || decide (p.b ≥ N) || p.a == p.b
def samePair (b : Bool) (p q : Pair) : Bool := (q.a == p.a && q.b == p.b) || (b && q.a == p.b && q.b == p.a)
def pairFaults (N : Int) (l : List Pair) (w : ByteArray) (b : Bool) (k : Nat) : List Fault := match badPair N (pAt l k) with
  | true => [⟨2, pairS w k⟩]
  | false => opt ((l.take k).any (samePair b (pAt l k))) ⟨6, pairS w k⟩
theorem pairFaults_len (N : Int) (l : List Pair) (w : ByteArray) (b : Bool) (k : Nat) : (pairFaults N l w b k).length ≤ 1 := by
  unfold pairFaults
  split
  · simp
  · exact opt_len _ _
def pairsR (N : Int) (l : List Pair) (w : ByteArray) (b : Bool) : List Fault := opt (decide ((l.length : Int) > 16)) ⟨4, w⟩ ++ (List.range l.length).flatMap (pairFaults N l w b)
theorem faults_all : ∀ l : List Fault, allLen 2 (l.map encFault)
  | [] => trivial
  | f :: r => ⟨rfl, faults_all r⟩
theorem pairsR_len (N : Int) (l : List Pair) (w : ByteArray) (b : Bool) : (pairsR N l w b).length ≤ l.length + 1 := by
  have := flat_len_le (pairFaults_len N l w b) (List.range l.length)
  have h2 := opt_len (decide ((l.length : Int) > 16)) (⟨4, w⟩ : Fault)
  rw [pairsR, List.length_append]; rw [List.length_range] at this; omega
def arcAt (l : List Arc) (i : Nat) : Arc := l.getD i ⟨0, 0, 0, 0, [], []⟩
theorem arcAt_get {l : List Arc} {k : Nat} {p : Arc} (h : l[k]? = some p) : arcAt l k = p := by simp [arcAt, List.getD, h]
def arcS (k : Nat) : ByteArray := ⟨#[97, 114, 99, 32]⟩ ++ decN k
def badEnds (N : Int) (a : Arc) : Bool := decide (a.src < 0) || decide (a.src ≥ N) || decide (a.dst < 0) || decide (a.dst ≥ N)
def badArc (a : Arc) : Bool := decide (a.profile < 0) || decide (a.profile > 7) || decide (a.miles < 0) || decide (a.miles > 10000) || a.src == a.dst
def sameArc (a b : Arc) : Bool := a.src == b.src && a.dst == b.dst && a.profile == b.profile
def badSlow (l : List Point) (i : Nat) : Bool := !inR (ptAt l i).t 0 4096 || !inR (ptAt l i).a 0 4096 || decide ((i : Int) > 0) && decide ((ptAt l i).t ≤ (ptAt l (i - 1)).t)
def arcR (n : Network) (k : Nat) : List Fault :=
  [] ++ opt (badEnds n.places.length (arcAt n.arcs k)) ⟨11, arcS k⟩ ++ opt (badArc (arcAt n.arcs k)) ⟨2, arcS k⟩ ++ opt ((n.arcs.take k).any (sameArc (arcAt n.arcs k))) ⟨6, arcS k⟩
    ++ (travelR (arcAt n.arcs k).travel).map (fun f => ⟨f.err, arcS k⟩) ++ opt (decide (((arcAt n.arcs k).slow.length : Int) > 16)) ⟨4, arcS k⟩
    ++ (List.range (arcAt n.arcs k).slow.length).flatMap fun i => opt (badSlow (arcAt n.arcs k).slow i) ⟨2, arcS k⟩
theorem travelR_len (l : List Point) : (travelR l).length ≤ 2 * l.length + 1 := by
  have := flat_len_le (pf_len l) (List.range l.length)
  have h2 := opt_len (badLen l.length 1 16) (⟨4, ByteArray.empty⟩ : Fault)
  rw [travelR, List.length_append]; rw [List.length_range] at this; omega
theorem arcR_len (n : Network) (k : Nat) (ht : (arcAt n.arcs k).travel.length ≤ 1048576) (hs : (arcAt n.arcs k).slow.length ≤ 1048576) : (arcR n k).length ≤ 3145740 := by
  have h1 := opt_len (badEnds n.places.length (arcAt n.arcs k)) (⟨11, arcS k⟩ : Fault)
  have h2 := opt_len (badArc (arcAt n.arcs k)) (⟨2, arcS k⟩ : Fault)
  have h3 := opt_len ((n.arcs.take k).any (sameArc (arcAt n.arcs k))) (⟨6, arcS k⟩ : Fault)
  have h4 := travelR_len (arcAt n.arcs k).travel
  have h5 := opt_len (decide (((arcAt n.arcs k).slow.length : Int) > 16)) (⟨4, arcS k⟩ : Fault)
  have h6 := flat_len_le (f := fun i => opt (badSlow (arcAt n.arcs k).slow i) (⟨2, arcS k⟩ : Fault)) (c := 1) (fun x => opt_len _ _) (List.range (arcAt n.arcs k).slow.length)
  rw [List.length_range] at h6
  simp only [arcR, List.length_append, List.length_map, List.length_nil]
  omega
theorem flat_len_in {α β : Type} {f : α → List β} {c : Nat} : ∀ l : List α, (∀ x ∈ l, (f x).length ≤ c) → (l.flatMap f).length ≤ c * l.length
  | [], _ => by simp
  | x :: r, h => by
    have h1 := h x (by simp)
    have h2 := flat_len_in r fun y hy => h y (by simp [hy])
    simp only [List.flatMap_cons, List.length_append, List.length_cons, Nat.mul_add, Nat.mul_one]
    omega
def netR (n : Network) : List Fault := placesR n.places ++ opt (decide ((n.arcs.length : Int) > 1024)) ⟨4, ⟨#[97, 114, 99, 115]⟩⟩ ++ (List.range n.arcs.length).flatMap (arcR n)
theorem placesR_len (l : List ByteArray) : (placesR l).length ≤ l.length + 1 := by
  have := flat_len_le (plf_len l) (List.range l.length)
  have h2 := opt_len (decide ((l.length : Int) > 24)) (⟨4, ⟨#[112, 108, 97, 99, 101, 115]⟩⟩ : Fault)
  rw [placesR, List.length_append]; rw [List.length_range] at this; omega
def small (l : List Fault) : Prop := ∀ f ∈ l, f.at_.size ≤ 4194304
theorem small_nil : small [] := by simp [small]
theorem small_app {a b : List Fault} (ha : small a) (hb : small b) : small (a ++ b) := fun f hf => (List.mem_append.1 hf).elim (ha f) (hb f)
theorem small_opt {b : Bool} {f : Fault} (h : f.at_.size ≤ 4194304) : small (opt b f) := by
  cases b
  · simp [small, opt]
  · intro g hg; simp [opt] at hg; subst hg; exact h
theorem small_flat {α : Type} {F : α → List Fault} {l : List α} (h : ∀ x ∈ l, small (F x)) : small (l.flatMap F) := fun f hf => by
  obtain ⟨x, hx, hf⟩ := List.mem_flatMap.1 hf
  exact h x hx f hf
theorem small_map {α : Type} {F : α → Fault} {l : List α} (h : ∀ x ∈ l, (F x).at_.size ≤ 4194304) : small (l.map F) := fun f hf => by
  obtain ⟨x, hx, rfl⟩ := List.mem_map.1 hf
  exact h x hx
theorem lt_range {i n : Nat} (h : i ∈ List.range n) : i < n := List.mem_range.1 h
theorem arcS_size (i : Nat) : (arcS i).size ≤ i + 5 := by
  have := decN_size i
  unfold arcS
  rw [ByteArray.size_append]
  have : (⟨#[97, 114, 99, 32]⟩ : ByteArray).size = 4 := rfl
  omega
theorem pairS_size (w : ByteArray) (i : Nat) : (pairS w i).size ≤ w.size + i + 2 := by
  have := decN_size i
  unfold pairS
  rw [ByteArray.size_append, ByteArray.size_append]
  have : (⟨#[32]⟩ : ByteArray).size = 1 := rfl
  omega
theorem sz0 : ByteArray.empty.size = 0 := rfl
theorem small_places (l : List ByteArray) (h : l.length ≤ 1048576) : small (placesR l) := small_app (small_opt (by decide)) (small_flat fun i hi => by
  have := lt_range hi
  have := placeS_size i
  unfold placeFaults
  split
  · exact small_opt (b := true) (by show (placeS i).size ≤ _; omega)
  · exact small_opt (by show (placeS i).size ≤ _; omega))
theorem small_net (n : Network) (hp : n.places.length ≤ 1048576) (hl : n.arcs.length ≤ 1048576) : small (netR n) := by
  refine small_app (small_app (small_places _ hp) (small_opt (by decide))) (small_flat fun i hi => ?_)
  have := lt_range hi
  have h : (arcS i).size ≤ 4194304 := by have := arcS_size i; omega
  exact small_app (small_app (small_app (small_app (small_app (small_app small_nil (small_opt h)) (small_opt h)) (small_opt h)) (small_map fun _ _ => h)) (small_opt h)) (small_flat fun _ _ => small_opt h)
theorem small_types (n : Network) (l : List VType) (hl : l.length ≤ 1048576) : small (typesR n l) :=
  small_app (small_opt (by decide)) (small_flat fun i hi => small_map fun _ _ => by have := lt_range hi; have := decN_size i; show (decN i).size ≤ _; omega)
theorem small_orders (n : Network) (d T : Int) (l : List Order) (hl : l.length ≤ 1048576) : small (ordersR n d T l) :=
  small_app (small_opt (by decide)) (small_flat fun i hi => small_map fun _ _ => by have := lt_range hi; have := decN_size i; show (decN i).size ≤ _; omega)
theorem small_pairs (N : Int) (l : List Pair) (w : ByteArray) (b : Bool) (hl : l.length ≤ 1048576) (hw : w.size ≤ 100) : small (pairsR N l w b) := small_app (small_opt (by show w.size ≤ _; omega)) (small_flat fun i hi => by
  have := lt_range hi
  have := pairS_size w i
  unfold pairFaults
  split
  · exact small_opt (b := true) (by show (pairS w i).size ≤ _; omega)
  · exact small_opt (by show (pairS w i).size ≤ _; omega))
theorem typesR_len (n : Network) (l : List VType) : (typesR n l).length ≤ 9 * l.length + 1 := by
  have := flat_len_le (f := typeFaults n l) (c := 9) (fun x => by unfold typeFaults; rw [List.length_map]; exact typeErrs_len _ _ _ _) (List.range l.length)
  have h2 := opt_len (!inR l.length 1 6) (⟨4, ByteArray.empty⟩ : Fault)
  rw [typesR, List.length_append]; rw [List.length_range] at this; omega
theorem ordersR_len (n : Network) (d T : Int) (l : List Order) : (ordersR n d T l).length ≤ 9 * l.length + 1 := by
  have := flat_len_le (f := orderFaults n d T l) (c := 9) (fun x => by unfold orderFaults; rw [List.length_map]; exact orderErrs_len _ _ _ _ _ _) (List.range l.length)
  have h2 := opt_len (decide ((l.length : Int) > 10)) (⟨4, ByteArray.empty⟩ : Fault)
  rw [ordersR, List.length_append]; rw [List.length_range] at this; omega
structure InB (x : Instance) : Prop where
  places : x.net.places.length ≤ 1048576
  place : ∀ s ∈ x.net.places, s.size ≤ 1048576
  arcs : x.net.arcs.length ≤ 1048576
  arc : ∀ a ∈ x.net.arcs, a.travel.length ≤ 1048576 ∧ a.slow.length ≤ 1048576
  types : x.types.length ≤ 1048576
  type : ∀ t ∈ x.types, t.name.size ≤ 1048576 ∧ t.cap.length ≤ 1048576
  orders : x.orders.length ≤ 1048576
  order : ∀ t ∈ x.orders, t.name.size ≤ 1048576 ∧ t.load.length ≤ 1048576
  apart : x.apart.length ≤ 1048576
  before : x.before.length ≤ 1048576
def rulesR (x : Instance) : List Fault := pairsR x.orders.length x.apart ⟨#[97, 112, 97, 114, 116]⟩ true ++ pairsR x.orders.length x.before ⟨#[98, 101, 102, 111, 114, 101]⟩ false
def checkR (x : Instance) : List Fault := (netR x.net).map (underF ⟨#[110, 101, 116]⟩) ++ (typesR x.net x.types).map (underF ⟨#[116, 121, 112, 101, 115]⟩) ++
  (ordersR x.net (dimsR x.types) x.types.length x.orders).map (underF ⟨#[111, 114, 100, 101, 114, 115]⟩) ++ (rulesR x).map (underF ⟨#[114, 117, 108, 101, 115]⟩)
theorem netR_len (x : Instance) (h : InB x) : (netR x.net).length ≤ 3300000000000 := by
  have h1 := placesR_len x.net.places
  have h2 := opt_len (decide ((x.net.arcs.length : Int) > 1024)) (⟨4, ⟨#[97, 114, 99, 115]⟩⟩ : Fault)
  have h3 := flat_len_in (f := arcR x.net) (c := 3145740) (List.range x.net.arcs.length) fun k hk => by
    obtain ⟨a, ha⟩ := getIn (lt_range hk)
    have hm := h.arc a (mem_of_get ha)
    exact arcR_len x.net k (by rw [arcAt_get ha]; exact hm.1) (by rw [arcAt_get ha]; exact hm.2)
  have h4 := h.places
  have h5 := h.arcs
  rw [List.length_range] at h3
  simp only [netR, List.length_append]
  omega
end Go.Proofs.YtmidcjlidploaaaGreatDoor
end

section
set_option linter.unusedSimpArgs false
set_option linter.unusedVariables false
namespace Go.Aw.D
open Go.Aw Go.RowKit
set_option maxRecDepth 100000
def Sw (w : World) : Sg := ⟨fun k => k < w.heap.size, fun k => k < w.heap.size, fun _ => .slice none 0 0, fun _ => 1, 0⟩
def TabsIn (w : World) : Prop := ∀ t ∈ tabL, t.2 (varCells w t.1)
theorem varCells_lt {w : World} {g : Nat} {cs : Array Value} (h : varCells w g = some cs) : g < w.heap.size := by
  unfold varCells at h
  split at h
  · rename_i h1; exact (Array.getElem?_eq_some_iff.1 h1).1
  · cases h
theorem Sw_st (w : World) (ht : TabsIn w) : St (Sw w) w noRows := ⟨fun _ h => h, fun _ h => h, fun k r hk => by simp [noRows] at hk, fun k r hk => by simp [noRows] at hk, fun k k' r r' hk => by simp [noRows] at hk, fun t h => by
  obtain ⟨a, ha⟩ := tab_some h (ht t h)
  exact ⟨varCells_lt ha, ht t h⟩⟩
def bInt (_ : Nat) (x : Int) : Prop := -9223372036854775808 ≤ x ∧ x ≤ 9223372036854775807
def bBool (_ : Nat) (_ : Bool) : Prop := True
def bStr (n : Nat) (s : ByteArray) : Prop := s.size ≤ n
def bL {α : Type} (b : Nat → α → Prop) (n : Nat) (l : List α) : Prop := l.length ≤ n ∧ ∀ x ∈ l, b n x
def Rd {H : Type} (e : TypeId × Value → H) (B : DataW H → Nat) (P : Program) (w : World) (t : TypeId) {α : Type} (enc : α → List AV) (b : Nat → α → Prop) : Prop :=
  ∀ fuel cs y, DataW.trod e P w 0 (fun _ => true) true fuel t cs = some y → ∃ x : α, (repL (Sw w) w (enc x) cs ∧ ∀ u ∈ cs, u.oneCell' = true) ∧ ∀ n, B y.1 ≤ n → b n x
section
variable {H : Type} {e : TypeId × Value → H} {P : Program} {w : World} {t : TypeId}
abbrev BK (H : Type) : DataW H → Nat := Go.Proofs.YtmidcjlidploaaaGreatDoor.Rows.uptoBulk
theorem rd_int (ht : P.underlying t = some (.int .i64)) : Rd e (BK H) P w t encInt bInt := by
  intro fuel cs y h
  obtain ⟨n, rfl, _, hw⟩ := DataW.trod_int ht h
  refine ⟨n, ⟨by simp only [encInt, repL]; exact ⟨_, _, rfl, by simp only [rep], rfl⟩, by simp [Value.oneCell']⟩, fun _ _ => bounds_i64 hw⟩
theorem rd_bool (ht : P.underlying t = some .bool) : Rd e (BK H) P w t encBool bBool := by
  intro fuel cs y h
  obtain ⟨n, rfl, _⟩ := DataW.trod_bool ht h
  refine ⟨n, ⟨by simp only [encBool, repL]; exact ⟨_, _, rfl, by simp only [rep], rfl⟩, by simp [Value.oneCell']⟩, fun _ _ => trivial⟩
theorem rd_str (ht : P.underlying t = some .string) : Rd e (BK H) P w t encStr bStr := by
  intro fuel cs y h
  obtain ⟨s, rfl, rfl, _⟩ := DataW.trod_string ht h
  refine ⟨s, ⟨by simp only [encStr, repL]; exact ⟨_, _, rfl, by simp only [rep], rfl⟩, by simp [Value.oneCell']⟩, fun n hn => ?_⟩
  simp only [BK, Go.Proofs.YtmidcjlidploaaaGreatDoor.Rows.uptoBulk, Array.length_toList] at hn
  have : s.size = s.data.size := rfl
  simp only [bStr]; omega
theorem bulk_part {d : DataW H} {l : List (DataW H)} (h : d ∈ l) : BK H d ≤ Go.Proofs.YtmidcjlidploaaaGreatDoor.Rows.uptoBulkAll l := by
  induction l with
  | nil => cases h
  | cons x r ih =>
    simp only [Go.Proofs.YtmidcjlidploaaaGreatDoor.Rows.uptoBulkAll]
    cases List.mem_cons.1 h with
    | inl e => subst e; simp only [BK]; omega
    | inr e => have := ih e; omega
theorem bulk_one (d : DataW H) : 1 ≤ BK H d := by
  cases d with
  | lit l => cases l <;> simp [BK, Go.Proofs.YtmidcjlidploaaaGreatDoor.Rows.uptoBulk]
  | nil => simp [BK, Go.Proofs.YtmidcjlidploaaaGreatDoor.Rows.uptoBulk]
  | ptr d => simp [BK, Go.Proofs.YtmidcjlidploaaaGreatDoor.Rows.uptoBulk]
  | slice elems spare => simp [BK, Go.Proofs.YtmidcjlidploaaaGreatDoor.Rows.uptoBulk]
  | agg parts => simp [BK, Go.Proofs.YtmidcjlidploaaaGreatDoor.Rows.uptoBulk]
  | iface t d => simp [BK, Go.Proofs.YtmidcjlidploaaaGreatDoor.Rows.uptoBulk]
  | map entries => simp [BK, Go.Proofs.YtmidcjlidploaaaGreatDoor.Rows.uptoBulk]
  | held h => simp [BK, Go.Proofs.YtmidcjlidploaaaGreatDoor.Rows.uptoBulk]
theorem bulk_length (l : List (DataW H)) : l.length ≤ Go.Proofs.YtmidcjlidploaaaGreatDoor.Rows.uptoBulkAll l := by
  induction l with
  | nil => simp [Go.Proofs.YtmidcjlidploaaaGreatDoor.Rows.uptoBulkAll]
  | cons x r ih => have := bulk_one x; simp only [Go.Proofs.YtmidcjlidploaaaGreatDoor.Rows.uptoBulkAll, List.length_cons, BK] at *; omega
theorem choose_list {α : Type} (n : Nat) (p : Nat → α → Prop) (h : ∀ i, i < n → ∃ x, p i x) : ∃ l : List α, l.length = n ∧ ∀ i x, l[i]? = some x → p i x := by
  induction n with
  | zero => exact ⟨[], rfl, by simp⟩
  | succ n ih =>
    obtain ⟨l, hl, hp⟩ := ih fun i hi => h i (by omega)
    obtain ⟨x, hx⟩ := h n (by omega)
    refine ⟨l ++ [x], by simp [hl], fun i y hy => ?_⟩
    rcases Nat.lt_or_ge i n with hi | hi
    · rw [List.getElem?_append_left (by omega)] at hy; exact hp i y hy
    · rw [List.getElem?_append_right (by omega)] at hy
      have : i - l.length = 0 := by
        rcases Nat.eq_zero_or_pos (i - l.length) with h0 | h0
        · exact h0
        · rw [List.getElem?_eq_none (by simp; omega)] at hy; simp at hy
      rw [this] at hy
      have hi' : i = n := by omega
      subst hi'
      simp at hy; subst hy; exact hx
theorem elsAt_of_get {S : Sg} {b sz : Nat} {α : Type} {enc : α → List AV} (hlen : ∀ x, (enc x).length = sz) : ∀ (l : List α) (o : Nat), (∀ i x, l[i]? = some x → cellsAt S w b (o + i * sz) (enc x)) → elsAt S w b sz o (l.map enc)
  | [], _, _ => by simp [elsAt]
  | x :: r, o, h => by
    simp only [List.map_cons, elsAt]
    refine ⟨hlen x, by simpa using h 0 x rfl, elsAt_of_get hlen r (o + sz) fun i y hy => ?_⟩
    have := h (i + 1) y (by simpa using hy)
    rwa [show o + (i + 1) * sz = o + sz + i * sz by rw [Nat.add_mul]; omega] at this
theorem cells_get {a : Addr} {n : Nat} {cs : List Value} (h : w.cells? 0 a n = some cs) : cs.length = n ∧ ∀ j, j < n → w.cell? (a.add j) = cs[j]? := by
  unfold World.cells? at h
  rw [if_pos (Nat.zero_le _)] at h
  have hl := mapM_some_length h
  exact ⟨by simpa using hl, fun j hj => mapM_some_get h j j (by simp [hj])⟩
theorem rd_slice {α : Type} {enc : α → List AV} {b : Nat → α → Prop} {et : TypeId} {sz : Nat} (ht : P.underlying t = some (.slice et)) (hc : P.cellsOf et = sz) (hpos : 0 < sz) (hlen : ∀ x, (enc x).length = sz) (hr : Rd e (BK H) P w et enc b) :
    Rd e (BK H) P w t (fun l : List α => [.sl (l.map enc)]) (bL b) := by
  intro fuel cs y h
  rcases DataW.trod_slice ht h with ⟨rfl, rfl⟩ | ⟨a, len, cap, elems, rest, n, rfl, rfl, rfl, _, hlc, hcap, hel, hget, hsp, _⟩
  · refine ⟨[], ⟨?_, by simp [Value.oneCell']⟩, fun n _ => ⟨by simp, by simp⟩⟩
    simp only [repL, rep, List.map_nil]
    exact ⟨_, _, rfl, ⟨none, 0, 0, rfl, rfl, Nat.le_refl _, Nat.zero_le _, by simp⟩, rfl⟩
  · have hp : ∀ i, i < len → ∃ x : α, ∃ z cs', elems[i]? = some z ∧ w.cells? 0 (a.add (i * sz)) sz = some cs' ∧ (repL (Sw w) w (enc x) cs' ∧ ∀ u ∈ cs', u.oneCell' = true) ∧ ∀ n, BK H z.1 ≤ n → b n x := fun i hi => by
      have hg := hget i hi
      rw [List.getElem?_eq_getElem (by omega), hc, Option.bind_eq_some_iff] at hg
      obtain ⟨cs', h1, h2⟩ := hg
      obtain ⟨x, hx, hb⟩ := hr _ _ _ h2
      exact ⟨x, _, cs', List.getElem?_eq_getElem (by omega), h1, hx, hb⟩
    obtain ⟨l, hl, hpl⟩ := choose_list len _ hp
    refine ⟨l, ⟨?_, by simp [Value.oneCell']⟩, fun m hm => ⟨?_, fun x hx => ?_⟩⟩
    · simp only [repL]
      refine ⟨_, _, rfl, ?_, rfl⟩
      simp only [rep]
      refine ⟨some a, len, cap, rfl, by simp [hl], hlc, hcap, ?_⟩
      rcases Nat.eq_zero_or_pos len with h0 | h0
      · left; rw [List.eq_nil_of_length_eq_zero (hl.trans h0)]; rfl
      · right
        have h00 := hp 0 h0
        obtain ⟨_, _, cs0, _, hc0, _⟩ := h00
        have q := (cells_get hc0).2 0 hpos
        have hlen0 := (cells_get hc0).1
        rw [List.getElem?_eq_getElem (by omega)] at q
        simp only [Nat.zero_mul, Addr.add, if_true] at q
        have hspot : a.spot = none ∧ a.block < w.heap.size := by
          unfold World.cell? at q
          split at q
          · rename_i c _ _ hb
            split at q
            · simp at q
            · rename_i hs
              refine ⟨by simpa using hs, ?_⟩
              rcases Nat.lt_or_ge a.block w.heap.size with h | h
              · exact h
              · rw [Array.getElem?_eq_none h] at hb; simp at hb
          · simp at q
        obtain ⟨ab, ao, asp⟩ := a
        obtain ⟨hs, hlt⟩ := hspot
        simp only at hs hlt
        subst hs
        refine ⟨ab, ao, sz, rfl, hlt, hpos, elsAt_of_get hlen l ao fun i x hx => ?_⟩
        obtain ⟨z, cs', _, hcs, ⟨h1, h2⟩, _⟩ := hpl i x hx
        refine cellsAt_of_repL _ cs' _ h1 h2 fun j u hj => ?_
        obtain ⟨e1, e2⟩ := cells_get hcs
        have hj' : j < sz := by
          rcases Nat.lt_or_ge j sz with h | h
          · exact h
          · rw [List.getElem?_eq_none (by omega)] at hj; simp at hj
        have := e2 j hj'
        rw [hj, Addr.add_lit, Addr.add_lit] at this
        exact this
    · rw [hl, ← hel]
      have h1 := bulk_length (elems.map (·.1))
      simp only [BK, Go.Proofs.YtmidcjlidploaaaGreatDoor.Rows.uptoBulk, List.length_map] at hm h1
      omega
    · obtain ⟨i, hi⟩ := List.mem_iff_getElem?.1 hx
      obtain ⟨z, cs', hz, _, _, hb⟩ := hpl i x hi
      refine hb m ?_
      have h1 := bulk_part (List.mem_map_of_mem (f := (·.1)) (List.mem_of_getElem? hz))
      simp only [BK, Go.Proofs.YtmidcjlidploaaaGreatDoor.Rows.uptoBulk] at hm h1 ⊢
      omega
theorem fld {fuel o m : Nat} {cs : List Value} {z : DataW H × List MemPlace} (hc : P.cellsOf t = m) (h : DataW.trod e P w 0 (fun _ => true) true fuel t ((cs.drop o).take (P.cellsOf t)) = some z) : DataW.trod e P w 0 (fun _ => true) true fuel t ((cs.drop o).take m) = some z := hc ▸ h
theorem repL_step {S : Sg} {a b : List AV} {cs : List Value} {o m : Nat} (h : repL S w a ((cs.drop o).take m)) (h' : repL S w b (cs.drop (o + m))) : repL S w (a ++ b) (cs.drop o) := by
  have := repL_append a b _ _ h h'
  rwa [← List.drop_drop, List.take_append_drop] at this
theorem repL_end {S : Sg} {cs : List Value} {o : Nat} (h : cs.length = o) : repL S w [] (cs.drop o) := by
  rw [List.drop_eq_nil_of_le (by omega)]; simp [repL]
theorem one_step {cs : List Value} {o m : Nat} (h : ∀ u ∈ (cs.drop o).take m, u.oneCell' = true) (h' : ∀ u ∈ cs.drop (o + m), u.oneCell' = true) : ∀ u ∈ cs.drop o, u.oneCell' = true := by
  intro u hu
  rw [← List.take_append_drop m (cs.drop o), List.drop_drop] at hu
  rcases List.mem_append.1 hu with hu | hu
  · exact h u hu
  · exact h' u hu
theorem one_end {cs : List Value} {o : Nat} (h : cs.length = o) : ∀ u ∈ cs.drop o, u.oneCell' = true := by
  rw [List.drop_eq_nil_of_le (by omega)]; simp
theorem bulk_field {xs : List (DataW H × List MemPlace)} {i : Nat} {z : DataW H × List MemPlace} (hz : xs[i]? = some z) {n : Nat} (h : BK H (.agg (xs.map (·.1))) ≤ n) : BK H z.1 ≤ n := by
  have h1 := bulk_part (List.mem_map_of_mem (f := (·.1)) (List.mem_of_getElem? hz))
  simp only [BK, Go.Proofs.YtmidcjlidploaaaGreatDoor.Rows.uptoBulk] at h h1 ⊢
  omega
theorem get_some {α : Type} {xs : List α} {n i : Nat} (h : xs.length = n) (hi : i < n) : ∃ z, xs[i]? = some z := ⟨xs[i], List.getElem?_eq_getElem (by omega)⟩
def RdL (e : TypeId × Value → H) (P : Program) (w : World) (T : TypeId) (fs : Array Field) (i o : Nat) {α : Type} (enc : α → List AV) (b : Nat → α → Prop) : Prop :=
  ∀ (n : Nat) (cs : List Value) (xs : List (DataW H × List MemPlace)), cs.length = P.cellsOf T → xs.length = fs.size →
    (∀ (j : Nat) (f : Field), fs[j]? = some f → DataW.trod e P w 0 (fun _ => true) true n f.type ((cs.drop f.offset).take (P.cellsOf f.type)) = xs[j]?) →
    ∃ x : α, (repL (Sw w) w (enc x) (cs.drop o) ∧ ∀ u ∈ cs.drop o, u.oneCell' = true) ∧ ∀ m, BK H (.agg (xs.map (·.1))) ≤ m → b m x
theorem rdF {fs : Array Field} {i o : Nat} {t : TypeId} (m : Nat) {α : Type} {enc : α → List AV} {b : Nat → α → Prop} (R : Rd e (BK H) P w t enc b) (hG : (fs[i]?).map (fun f : Field => (f.type, f.offset)) = some (t, o)) (hm : P.cellsOf t = m)
    {n : Nat} {cs : List Value} {xs : List (DataW H × List MemPlace)} (h2 : xs.length = fs.size) (hf : ∀ (j : Nat) (f : Field), fs[j]? = some f → DataW.trod e P w 0 (fun _ => true) true n f.type ((cs.drop f.offset).take (P.cellsOf f.type)) = xs[j]?) :
    ∃ x : α, (repL (Sw w) w (enc x) ((cs.drop o).take m) ∧ ∀ u ∈ (cs.drop o).take m, u.oneCell' = true) ∧ ∀ m, BK H (.agg (xs.map (·.1))) ≤ m → b m x := by
  obtain ⟨f, hf1, hf2⟩ := Option.map_eq_some_iff.1 hG
  obtain ⟨rfl, rfl⟩ := Prod.mk.inj hf2
  obtain ⟨z, hz⟩ := get_some h2 (Array.getElem?_eq_some_iff.1 hf1).1
  obtain ⟨x, h, hb⟩ := R n ((cs.drop f.offset).take m) z (fld hm ((hf i f hf1).trans hz))
  exact ⟨x, h, fun k hk => hb k (bulk_field hz hk)⟩
theorem rdC {T : TypeId} {fs : Array Field} {i o : Nat} {t : TypeId} (m : Nat) {α β : Type} {enc : α → List AV} {b : Nat → α → Prop} {enc' : β → List AV} {b' : Nat → β → Prop} (R : Rd e (BK H) P w t enc b) (r : RdL e P w T fs (i + 1) (o + m) enc' b')
    (hG : (fs[i]?).map (fun f : Field => (f.type, f.offset)) = some (t, o) := by rfl) (hm : P.cellsOf t = m := by kernel_rfl) : RdL e P w T fs i o (fun p : α × β => enc p.1 ++ enc' p.2) (fun n p => b n p.1 ∧ b' n p.2) := fun n cs xs h1 h2 hf => by
  obtain ⟨x, ⟨r1, o1⟩, b1⟩ := rdF m R hG hm h2 hf
  obtain ⟨y, ⟨r2, o2⟩, b2⟩ := r n cs xs h1 h2 hf
  exact ⟨(x, y), ⟨repL_step r1 r2, one_step o1 o2⟩, fun k hk => ⟨b1 k hk, b2 k hk⟩⟩
theorem rdE {T : TypeId} {fs : Array Field} {i o : Nat} {t : TypeId} (m : Nat) {α : Type} {enc : α → List AV} {b : Nat → α → Prop} (R : Rd e (BK H) P w t enc b)
    (hG : (fs[i]?).map (fun f : Field => (f.type, f.offset)) = some (t, o) := by rfl) (hm : P.cellsOf t = m := by kernel_rfl) (he : P.cellsOf T = o + m := by kernel_rfl) : RdL e P w T fs i o enc b := fun n cs xs h1 h2 hf => by
  obtain ⟨x, ⟨r1, o1⟩, b1⟩ := rdF m R hG hm h2 hf
  refine ⟨x, ⟨?_, one_step o1 (one_end (h1.trans he))⟩, b1⟩
  have := repL_step r1 (repL_end (h1.trans he))
  rwa [List.append_nil] at this
theorem rdS {T : TypeId} {fs : Array Field} {α X : Type} {enc : α → List AV} {b : Nat → α → Prop} {encX : X → List AV} {bX : Nat → X → Prop} (ht : P.underlying T = some (.struct fs)) (r : RdL e P w T fs 0 0 enc b) (mk : α → X)
    (he : ∀ p, encX (mk p) = enc p) (hb : ∀ n p, b n p → bX n (mk p)) : Rd e (BK H) P w T encX bX := by
  intro fuel cs y h
  obtain ⟨xs, n, rfl, rfl, hl, hxl, hf⟩ := DataW.trod_struct ht h
  obtain ⟨x, ⟨r1, o1⟩, b1⟩ := r n cs xs hl hxl hf
  exact ⟨mk x, ⟨by rw [he]; rwa [List.drop_zero] at r1, by rwa [List.drop_zero] at o1⟩, fun m hm => hb m x (b1 m hm)⟩
end
section
open Go.Proofs Go.Proofs.YtmidcjlidploaaaGreatDoor
variable {H : Type} {e : TypeId × Value → H} {w : World}
theorem rd_LStr : Rd e (BK H) Tryz.prog w 22 (fun l : List ByteArray => [.sl (l.map encStr)]) (bL bStr) := rd_slice (sz := 1) Tryz.underlying22 (by kernel_rfl) (by omega) (fun _ => rfl) (rd_str Tryz.underlying9)
def bPoint (n : Nat) (x : Point) : Prop := bInt n x.t ∧ bInt n x.a
theorem rd_Point : Rd e (BK H) Tryz.prog w 140 encPoint bPoint := rdS Tryz.underlying140 (rdC 1 (rd_int Tryz.underlying3) (rdE 1 (rd_int Tryz.underlying3))) (fun (a,b) => ⟨a,b⟩) (fun _ => rfl) (fun _ (_,_) h => h)
theorem rd_LPoint : Rd e (BK H) Tryz.prog w 96 (fun l : List Point => [.sl (l.map encPoint)]) (bL bPoint) := rd_slice (sz := 2) Tryz.underlying96 (by kernel_rfl) (by omega) (fun _ => rfl) (rd_Point)
def bArc (n : Nat) (x : Arc) : Prop := bInt n x.src ∧ bInt n x.dst ∧ bInt n x.profile ∧ bInt n x.miles ∧ (bL bPoint) n x.travel ∧ (bL bPoint) n x.slow
theorem rd_Arc : Rd e (BK H) Tryz.prog w 98 encArc bArc := rdS Tryz.underlying98 (rdC 1 (rd_int Tryz.underlying3) (rdC 1 (rd_int Tryz.underlying3) (rdC 1 (rd_int Tryz.underlying3) (rdC 1 (rd_int Tryz.underlying3) (rdC 1 rd_LPoint (rdE 1 rd_LPoint)))))) (fun (a,b,c,d,e,f) => ⟨a,b,c,d,e,f⟩) (fun _ => rfl) (fun _ (_,_,_,_,_,_) h => h)
theorem rd_LArc : Rd e (BK H) Tryz.prog w 23 (fun l : List Arc => [.sl (l.map encArc)]) (bL bArc) := rd_slice (sz := 6) Tryz.underlying23 (by kernel_rfl) (by omega) (fun _ => rfl) (rd_Arc)
def bNetwork (n : Nat) (x : Network) : Prop := (bL bStr) n x.places ∧ (bL bArc) n x.arcs
theorem rd_Network : Rd e (BK H) Tryz.prog w 25 encNetwork bNetwork := rdS Tryz.underlying25 (rdC 1 rd_LStr (rdE 1 rd_LArc)) (fun (a,b) => ⟨a,b⟩) (fun _ => rfl) (fun _ (_,_) h => h)
theorem rd_LInt : Rd e (BK H) Tryz.prog w 45 (fun l : List Int => [.sl (l.map encInt)]) (bL bInt) := rd_slice (sz := 1) Tryz.underlying45 (by kernel_rfl) (by omega) (fun _ => rfl) (rd_int Tryz.underlying3)
def bVType (n : Nat) (x : VType) : Prop := bStr n x.name ∧ bInt n x.count ∧ bInt n x.src ∧ bInt n x.dst ∧ (bL bInt) n x.cap ∧ bInt n x.skills ∧ bInt n x.profile ∧ bInt n x.start ∧ bInt n x.close ∧ bInt n x.drive ∧ bInt n x.rest ∧ bInt n x.fixed ∧ bInt n x.perMile ∧ bInt n x.perTick
theorem rd_VType : Rd e (BK H) Tryz.prog w 101 encVType bVType := rdS Tryz.underlying101 (rdC 1 (rd_str Tryz.underlying9) (rdC 1 (rd_int Tryz.underlying3) (rdC 1 (rd_int Tryz.underlying3) (rdC 1 (rd_int Tryz.underlying3) (rdC 1 rd_LInt (rdC 1 (rd_int Tryz.underlying3) (rdC 1 (rd_int Tryz.underlying3) (rdC 1 (rd_int Tryz.underlying3) (rdC 1 (rd_int Tryz.underlying3) (rdC 1 (rd_int Tryz.underlying3) (rdC 1 (rd_int Tryz.underlying3) (rdC 1 (rd_int Tryz.underlying3) (rdC 1 (rd_int Tryz.underlying3) (rdE 1 (rd_int Tryz.underlying3))))))))))))))) (fun (a,b,c,d,e,f,g,h,i,j,k,l,m,n) => ⟨a,b,c,d,e,f,g,h,i,j,k,l,m,n⟩) (fun _ => rfl) (fun _ (_,_,_,_,_,_,_,_,_,_,_,_,_,_) h => h)
theorem rd_LVType : Rd e (BK H) Tryz.prog w 26 (fun l : List VType => [.sl (l.map encVType)]) (bL bVType) := rd_slice (sz := 14) Tryz.underlying26 (by kernel_rfl) (by omega) (fun _ => rfl) (rd_VType)
def bStop (n : Nat) (x : Stop) : Prop := bInt n x.place ∧ bInt n x.start ∧ bInt n x.close ∧ bInt n x.service
theorem rd_Stop : Rd e (BK H) Tryz.prog w 47 encStop bStop := rdS Tryz.underlying47 (rdC 1 (rd_int Tryz.underlying3) (rdC 1 (rd_int Tryz.underlying3) (rdC 1 (rd_int Tryz.underlying3) (rdE 1 (rd_int Tryz.underlying3))))) (fun (a,b,c,d) => ⟨a,b,c,d⟩) (fun _ => rfl) (fun _ (_,_,_,_) h => h)
def bOrder (n : Nat) (x : Order) : Prop := bStr n x.name ∧ (bL bInt) n x.load ∧ bStop n x.pick ∧ bStop n x.drop ∧ bInt n x.skills ∧ bInt n x.penalty ∧ bInt n x.split ∧ bInt n x.last ∧ bInt n x.now ∧ bBool n x.off
theorem rd_Order : Rd e (BK H) Tryz.prog w 49 encOrder bOrder := rdS Tryz.underlying49 (rdC 1 (rd_str Tryz.underlying9) (rdC 1 rd_LInt (rdC 4 rd_Stop (rdC 4 rd_Stop (rdC 1 (rd_int Tryz.underlying3) (rdC 1 (rd_int Tryz.underlying3) (rdC 1 (rd_int Tryz.underlying3) (rdC 1 (rd_int Tryz.underlying3) (rdC 1 (rd_int Tryz.underlying3) (rdE 1 (rd_bool Tryz.underlying4))))))))))) (fun (a,b,c,d,e,f,g,h,i,j) => ⟨a,b,c,d,e,f,g,h,i,j⟩) (fun _ => rfl) (fun _ (_,_,_,_,_,_,_,_,_,_) h => h)
theorem rd_LOrder : Rd e (BK H) Tryz.prog w 27 (fun l : List Order => [.sl (l.map encOrder)]) (bL bOrder) := rd_slice (sz := 16) Tryz.underlying27 (by kernel_rfl) (by omega) (fun _ => rfl) (rd_Order)
def bPair (n : Nat) (x : Pair) : Prop := bInt n x.a ∧ bInt n x.b
theorem rd_Pair : Rd e (BK H) Tryz.prog w 104 encPair bPair := by
  intro fuel cs y h
  obtain ⟨xs, n, rfl, rfl, hl, hxl, hf⟩ := DataW.trod_array Tryz.underlying104 h
  have hl : cs.length = 2 := hl.trans (by kernel_rfl)
  obtain ⟨z0, hz0⟩ := get_some hxl (show 0 < 2 by omega)
  obtain ⟨x0, ⟨r0, o0⟩, b0⟩ := (rd_int Tryz.underlying3 : Rd e (BK H) Tryz.prog w 3 _ _) n ((cs.drop 0).take 1) z0 (fld (t := 3) (o := 0) (m := 1) (by kernel_rfl) ((hf 0 (by omega)).trans hz0))
  obtain ⟨z1, hz1⟩ := get_some hxl (show 1 < 2 by omega)
  obtain ⟨x1, ⟨r1, o1⟩, b1⟩ := (rd_int Tryz.underlying3 : Rd e (BK H) Tryz.prog w 3 _ _) n ((cs.drop 1).take 1) z1 (fld (t := 3) (o := 1) (m := 1) (by kernel_rfl) ((hf 1 (by omega)).trans hz1))
  refine ⟨⟨x0, x1⟩, ⟨?_, ?_⟩, fun m hm => ⟨b0 m (bulk_field hz0 hm), b1 m (bulk_field hz1 hm)⟩⟩
  · have := repL_step (o := 0) (m := 1) r0 (repL_step (o := 1) (m := 1) r1 (repL_end (by omega)))
    rw [List.drop_zero] at this; exact this
  · have := one_step (o := 0) (m := 1) o0 (one_step (o := 1) (m := 1) o1 (one_end (by omega)))
    rw [List.drop_zero] at this; exact this
theorem rd_LPair : Rd e (BK H) Tryz.prog w 28 (fun l : List Pair => [.sl (l.map encPair)]) (bL bPair) := rd_slice (sz := 2) Tryz.underlying28 (by kernel_rfl) (by omega) (fun _ => rfl) (rd_Pair)
def bInstance (n : Nat) (x : Instance) : Prop := bNetwork n x.net ∧ (bL bVType) n x.types ∧ (bL bOrder) n x.orders ∧ (bL bPair) n x.apart ∧ (bL bPair) n x.before
theorem rd_Instance : Rd e (BK H) Tryz.prog w 30 encInstance bInstance := rdS Tryz.underlying30 (rdC 2 rd_Network (rdC 1 rd_LVType (rdC 1 rd_LOrder (rdC 1 rd_LPair (rdE 1 rd_LPair))))) (fun (a,b,c,d,e) => ⟨a,b,c,d,e⟩) (fun _ => rfl) (fun _ (_,_,_,_,_) h => h)
def bEvent (n : Nat) (x : Event) : Prop := bInt n x.at_ ∧ bInt n x.kind ∧ bInt n x.a ∧ bInt n x.b ∧ bInt n x.n ∧ bOrder n x.order
theorem rd_Event : Rd e (BK H) Tryz.prog w 51 encEvent bEvent := rdS Tryz.underlying51 (rdC 1 (rd_int Tryz.underlying3) (rdC 1 (rd_int Tryz.underlying3) (rdC 1 (rd_int Tryz.underlying3) (rdC 1 (rd_int Tryz.underlying3) (rdC 1 (rd_int Tryz.underlying3) (rdE 16 rd_Order)))))) (fun (a,b,c,d,e,f) => ⟨a,b,c,d,e,f⟩) (fun _ => rfl) (fun _ (_,_,_,_,_,_) h => h)
def bCommand (n : Nat) (x : Command) : Prop := bInt n x.kind ∧ bInt n x.n ∧ bEvent n x.event
theorem rd_Command : Rd e (BK H) Tryz.prog w 53 encCommand bCommand := rdS Tryz.underlying53 (rdC 1 (rd_int Tryz.underlying3) (rdC 1 (rd_int Tryz.underlying3) (rdE 21 rd_Event))) (fun (a,b,c) => ⟨a,b,c⟩) (fun _ => rfl) (fun _ (_,_,_) h => h)
theorem rd_LCommand : Rd e (BK H) Tryz.prog w 31 (fun l : List Command => [.sl (l.map encCommand)]) (bL bCommand) := rd_slice (sz := 23) Tryz.underlying31 (by kernel_rfl) (by omega) (fun _ => rfl) (rd_Command)
def bScript (n : Nat) (x : Script) : Prop := bInstance n x.inst ∧ (bL bCommand) n x.commands
theorem rd_Script : Rd e (BK H) Tryz.prog w 33 encScript bScript := rdS Tryz.underlying33 (rdC 6 rd_Instance (rdE 1 rd_LCommand)) (fun (a,b) => ⟨a,b⟩) (fun _ => rfl) (fun _ (_,_) h => h)
end
end Go.Aw.D
end
