/- lorryref13.Check -/
import Derived.Test.YtjlbikpgjejkjaaRefK
import Derived.Test.YtjlbikpgjejkjaaRefH
import Derived.Test.YtjlbikpgjejkjaaRefG
set_option linter.unusedSimpArgs false
set_option linter.unusedVariables false
namespace Go.Proofs.Ytjlbikpgjejkjaa
open Go.Aw Go.Aw.D Go.Proofs Ty
set_option maxRecDepth 100000

def small (l : List Fault) : Prop := ∀ f ∈ l, f.at_.size ≤ 4194304
theorem small_nil : small [] := by simp [small]
theorem small_app {a b : List Fault} (ha : small a) (hb : small b) : small (a ++ b) := fun f hf => (List.mem_append.1 hf).elim (ha f) (hb f)
theorem small_opt {b : Bool} {f : Fault} (h : f.at_.size ≤ 4194304) : small (opt b f) := by
  cases b
  · simp [small, opt]
  · intro g hg; simp [opt] at hg; subst hg; exact h
theorem small_flat {α : Type} {F : α → List Fault} {l : List α} (h : ∀ x ∈ l, small (F x)) : small (l.flatMap F) := fun f hf => by
  obtain ⟨x, hx, hf⟩ := List.mem_flatMap.1 hf
  exact h x hx f hf
theorem small_map {α : Type} {F : α → Fault} {l : List α} (h : ∀ x ∈ l, (F x).at_.size ≤ 4194304) : small (l.map F) := fun f hf => by
  obtain ⟨x, hx, rfl⟩ := List.mem_map.1 hf
  exact h x hx
theorem lt_range {i n : Nat} (h : i ∈ List.range n) : i < n := List.mem_range.1 h
theorem arcS_size (i : Nat) : (arcS i).size ≤ i + 5 := by
  have := decN_size i
  unfold arcS
  rw [ByteArray.size_append]
  have : (⟨#[97, 114, 99, 32]⟩ : ByteArray).size = 4 := rfl
  omega
theorem pairS_size (w : ByteArray) (i : Nat) : (pairS w i).size ≤ w.size + i + 2 := by
  have := decN_size i
  unfold pairS
  rw [ByteArray.size_append, ByteArray.size_append]
  have : (⟨#[32]⟩ : ByteArray).size = 1 := rfl
  omega
theorem sz0 : ByteArray.empty.size = 0 := rfl
theorem small_places (l : List ByteArray) (h : l.length ≤ 1048576) : small (placesR l) := small_app (small_opt (by decide)) (small_flat fun i hi => by
  have := lt_range hi
  have := placeS_size i
  unfold placeFaults
  split
  · exact small_opt (b := true) (by show (placeS i).size ≤ _; omega)
  · exact small_opt (by show (placeS i).size ≤ _; omega))
theorem small_net (n : Network) (hp : n.places.length ≤ 1048576) (hl : n.arcs.length ≤ 1048576) : small (netR n) := by
  refine small_app (small_app (small_places _ hp) (small_opt (by decide))) (small_flat fun i hi => ?_)
  have := lt_range hi
  have h : (arcS i).size ≤ 4194304 := by have := arcS_size i; omega
  exact small_app (small_app (small_app (small_app (small_app (small_app small_nil (small_opt h)) (small_opt h)) (small_opt h)) (small_map fun _ _ => h)) (small_opt h)) (small_flat fun _ _ => small_opt h)
theorem small_types (n : Network) (l : List VType) (hl : l.length ≤ 1048576) : small (typesR n l) :=
  small_app (small_opt (by decide)) (small_flat fun i hi => small_map fun _ _ => by have := lt_range hi; have := decN_size i; show (decN i).size ≤ _; omega)
theorem small_orders (n : Network) (d T : Int) (l : List Order) (hl : l.length ≤ 1048576) : small (ordersR n d T l) :=
  small_app (small_opt (by decide)) (small_flat fun i hi => small_map fun _ _ => by have := lt_range hi; have := decN_size i; show (decN i).size ≤ _; omega)
theorem small_pairs (N : Int) (l : List Pair) (w : ByteArray) (b : Bool) (hl : l.length ≤ 1048576) (hw : w.size ≤ 100) : small (pairsR N l w b) := small_app (small_opt (by show w.size ≤ _; omega)) (small_flat fun i hi => by
  have := lt_range hi
  have := pairS_size w i
  unfold pairFaults
  split
  · exact small_opt (b := true) (by show (pairS w i).size ≤ _; omega)
  · exact small_opt (by show (pairS w i).size ≤ _; omega))
theorem typesR_len (n : Network) (l : List VType) : (typesR n l).length ≤ 9 * l.length + 1 := by
  have := flat_len_le (f := typeFaults n l) (c := 9) (fun x => by unfold typeFaults; rw [List.length_map]; exact typeErrs_len _ _ _ _) (List.range l.length)
  have h2 := opt_len (!inR l.length 1 6) (⟨4, ByteArray.empty⟩ : Fault)
  rw [typesR, List.length_append]; rw [List.length_range] at this; omega
theorem ordersR_len (n : Network) (d T : Int) (l : List Order) : (ordersR n d T l).length ≤ 9 * l.length + 1 := by
  have := flat_len_le (f := orderFaults n d T l) (c := 9) (fun x => by unfold orderFaults; rw [List.length_map]; exact orderErrs_len _ _ _ _ _ _) (List.range l.length)
  have h2 := opt_len (decide ((l.length : Int) > 10)) (⟨4, ByteArray.empty⟩ : Fault)
  rw [ordersR, List.length_append]; rw [List.length_range] at this; omega
/-- what is read of an instance is not too long -/
structure InB (x : Instance) : Prop where
  places : x.net.places.length ≤ 1048576
  place : ∀ s ∈ x.net.places, s.size ≤ 1048576
  arcs : x.net.arcs.length ≤ 1048576
  arc : ∀ a ∈ x.net.arcs, a.travel.length ≤ 1048576 ∧ a.slow.length ≤ 1048576
  types : x.types.length ≤ 1048576
  type : ∀ t ∈ x.types, t.name.size ≤ 1048576 ∧ t.cap.length ≤ 1048576
  orders : x.orders.length ≤ 1048576
  order : ∀ t ∈ x.orders, t.name.size ≤ 1048576 ∧ t.load.length ≤ 1048576
  apart : x.apart.length ≤ 1048576
  before : x.before.length ≤ 1048576
def rulesR (x : Instance) : List Fault := pairsR x.orders.length x.apart ⟨#[97, 112, 97, 114, 116]⟩ true ++ pairsR x.orders.length x.before ⟨#[98, 101, 102, 111, 114, 101]⟩ false
def checkR (x : Instance) : List Fault := (netR x.net).map (underF ⟨#[110, 101, 116]⟩) ++ (typesR x.net x.types).map (underF ⟨#[116, 121, 112, 101, 115]⟩) ++
  (ordersR x.net (dimsR x.types) x.types.length x.orders).map (underF ⟨#[111, 114, 100, 101, 114, 115]⟩) ++ (rulesR x).map (underF ⟨#[114, 117, 108, 101, 115]⟩)
theorem netR_len (x : Instance) (h : InB x) : (netR x.net).length ≤ 3300000000000 := by
  have h1 := placesR_len x.net.places
  have h2 := opt_len (decide ((x.net.arcs.length : Int) > 1024)) (⟨4, ⟨#[97, 114, 99, 115]⟩⟩ : Fault)
  have h3 := flat_len_in (f := arcR x.net) (c := 3145740) (List.range x.net.arcs.length) fun k hk => by
    obtain ⟨a, ha⟩ := getIn (lt_range hk)
    have hm := h.arc a (mem_of_get ha)
    exact arcR_len x.net k (by rw [arcAt_get ha]; exact hm.1) (by rw [arcAt_get ha]; exact hm.2)
  have h4 := h.places
  have h5 := h.arcs
  rw [List.length_range] at h3
  simp only [netR, List.length_append]
  omega
theorem check_c (x : Instance) (h : InB x) : NC Try.prog 12 [.agg (encInstance x)] (faultRow (checkR x)) .os := by
  have c1 : PC Try.prog 42 [.agg (encNetwork x.net)] (.sl ((netR x.net).map encFault)) := NC.pc (net_c x.net h.places h.place h.arcs h.arc)
  have c2 : PC Try.prog 43 [.agg (encNetwork x.net), .sl (x.types.map encVType)] (.sl ((typesR x.net x.types).map encFault)) := NC.pc (types_c x.net x.types h.types h.type h.places)
  have c3 : PC Try.prog 44 [.agg (encNetwork x.net), int (dimsR x.types), int x.types.length, .sl (x.orders.map encOrder)] (.sl ((ordersR x.net (dimsR x.types) x.types.length x.orders).map encFault)) := NC.pc (orders_c x.net _ _ x.orders h.orders h.order h.places)
  have c4 : PC Try.prog 46 [int x.orders.length, .sl (x.apart.map encPair), .sl (x.before.map encPair)] (.sl ((rulesR x).map encFault)) := NC.pc (rulesCheck_c x.orders.length x.apart x.before h.apart h.before)
  have l1 := netR_len x h
  have l2 := typesR_len x.net x.types
  have l3 := ordersR_len x.net (dimsR x.types) x.types.length x.orders
  have l4 : (rulesR x).length ≤ 2097154 := by
    have a1 := pairsR_len x.orders.length x.apart ⟨#[97, 112, 97, 114, 116]⟩ true
    have a2 := pairsR_len x.orders.length x.before ⟨#[98, 101, 102, 111, 114, 101]⟩ false
    have := h.apart; have := h.before
    rw [rulesR, List.length_append]; omega
  have s1 := small_net x.net h.places h.arcs
  have s2 := small_types x.net x.types h.types
  have s3 := small_orders x.net (dimsR x.types) x.types.length x.orders h.orders
  have s4 : small (rulesR x) := small_app (small_pairs _ _ _ _ h.apart (by decide)) (small_pairs _ _ _ _ h.before (by decide))
  have ht := h.types
  have ho := h.orders
  refine NC.body (c := Try.f12.body.getD .skip) (fun t => t == 27) mixed Try.func12 rfl (by kernel_rfl) ?_
  unfold Try.f12
  simp only [Option.getD_some]
  simp only [go_sem]
  refine PC.use c1 ?_
  simp only [go_sem]
  refine NC.use (under_c ⟨#[110, 101, 116]⟩ _ (by decide) (by omega) fun f hf => Nat.le_trans (s1 f hf) (by decide)) fun j hj => ?_
  simp only [go_sem]
  refine PC.use c2 ?_
  simp only [go_sem]
  refine NC.use (under_c ⟨#[116, 121, 112, 101, 115]⟩ _ (by decide) (by omega) fun f hf => Nat.le_trans (s2 f hf) (by decide)) fun i hi => ?_
  simp only [go_sem]
  refine wappE_o (keep_new (updH_same _ _ _) hi) (updH_same _ _ _) ⟨rfl, rfl⟩ (faults_all _) (by simp only [List.length_map]; omega) (fun j' hj' => ?_)
  simp only [go_sem]
  refine adraw_h (by kernel_rfl) ?_
  simp only [go_sem]
  refine ⟨_, (dims_c x.types).q rfl, ?_⟩
  simp only [go_sem]
  have hH := row_app (e := 119) (sz := 2) (enc := encFault) (H := updH (updH (updH noRows j (some (faultRow ((netR x.net).map (underF ⟨#[110, 101, 116]⟩))))) i (some (faultRow ((typesR x.net x.types).map (underF ⟨#[116, 121, 112, 101, 115]⟩))))) j none) (k := j') (l := (netR x.net).map (underF ⟨#[110, 101, 116]⟩)) (l' := (typesR x.net x.types).map (underF ⟨#[116, 121, 112, 101, 115]⟩)) rfl
  generalize updH (updH (updH (updH noRows j _) i _) j none) j' _ = H at hH ⊢
  generalize hes : (netR x.net).map (underF ⟨#[110, 101, 116]⟩) ++ (typesR x.net x.types).map (underF ⟨#[116, 121, 112, 101, 115]⟩) = es at hH
  have hel : es.length ≤ 3300000000000 + 9 * x.types.length + 1 := by rw [← hes, List.length_append, List.length_map, List.length_map]; omega
  clear hi hj hj'
  refine PC.use c3 ?_
  simp only [go_sem]
  refine NC.use (under_c ⟨#[111, 114, 100, 101, 114, 115]⟩ _ (by decide) (by omega) fun f hf => Nat.le_trans (s3 f hf) (by decide)) fun i hi => ?_
  simp only [go_sem]
  refine wappE_o (keep_new hH hi) (updH_same _ _ _) ⟨rfl, rfl⟩ (faults_all _) (by simp only [List.length_map]; omega) (fun k hk => ?_)
  simp only [go_sem]
  have hH2 := row_app (e := 119) (sz := 2) (enc := encFault) (H := updH (updH H i (some (faultRow ((ordersR x.net (dimsR x.types) x.types.length x.orders).map (underF ⟨#[111, 114, 100, 101, 114, 115]⟩))))) j' none) (k := k) (l := es) (l' := (ordersR x.net (dimsR x.types) x.types.length x.orders).map (underF ⟨#[111, 114, 100, 101, 114, 115]⟩)) rfl
  generalize updH (updH (updH H i _) j' none) k _ = H2 at hH2 ⊢
  clear hi hk
  refine PC.use c4 ?_
  simp only [go_sem]
  refine NC.use (under_c ⟨#[114, 117, 108, 101, 115]⟩ _ (by decide) (by omega) fun f hf => Nat.le_trans (s4 f hf) (by decide)) fun q hq => ?_
  simp only [go_sem]
  refine wappE_o (keep_new hH2 hq) (updH_same _ _ _) ⟨rfl, rfl⟩ (faults_all _) (by simp only [List.length_map, List.length_append]; omega) (fun m hm => ?_)
  simp only [go_sem]
  refine ⟨m, rfl, ?_⟩
  rw [checkR, hes]
  exact row_app rfl
end Go.Proofs.Ytjlbikpgjejkjaa
