/- small facts that the walks use -/
import Derived.Test.YtbefdpmjpioijaaGreatDoorTypes
import Derived.Test.YtbefdpmjpioijaaGreatDoorData
set_option linter.unusedSimpArgs false
set_option linter.unusedVariables false
namespace Go.Proofs.YtbefdpmjpioijaaGreatDoor
open Go.Aw Go.Aw.D Go.Proofs Ty

abbrev int (n : Int) : AV := .v (.int .i64 n)
abbrev str (s : ByteArray) : AV := .v (.string s)
abbrev boo (b : Bool) : AV := .v (.bool b)
theorem take_succ {α : Type} {l : List α} {k : Nat} {x : α} (h : l[k]? = some x) : l.take (k + 1) = l.take k ++ [x] := by
  rw [List.take_add_one, h]; rfl
theorem getIn {α : Type} {l : List α} {k : Nat} (h : k < l.length) : ∃ x, l[k]? = some x := ⟨l[k], List.getElem?_eq_getElem h⟩
theorem inB {k n : Nat} (h : k < n) : 0 ≤ (k : Int) ∧ (k : Int) < (n : Int) := by omega
theorem wrapS {k : Nat} (h : k ≤ 4611686018427387904) : IntKind.i64.wrap ((k : Int) + 1) = ((k + 1 : Nat) : Int) := by rw [wrap_in (by omega)]; omega
theorem wrapP {k : Nat} (h : k ≤ 4611686018427387904) : (IntKind.i64.wrap ((k : Int) - 1)).toNat = k - 1 := by rw [wrap_in (by omega)]; omega
theorem wrapQ {k : Nat} (h : k ≤ 4611686018427387904) : IntKind.i64.wrap ((k : Int) - 1) = (k : Int) - 1 := wrap_in (by omega)
theorem int0 : (0 : Int) = ((0 : Nat) : Int) := rfl

/-- an append onto own row j, its row type known -/
def wappE (e : TypeId × Nat × Nat) (d : Option Tmp) (j : Nat) (x : AV) (ρ : Env) (H : Heap) (K : Env → Heap → Prop) : Prop := match H j with
  | some r => asrc H x fun news => (r.e = e.1 ∧ r.sz = e.2.1 ∧ allLen e.2.1 news ∧ (r.es.length + news.length) * e.2.2 ≤ 140737488355328) ∧
        ∀ k', H k' = none → K (upd ρ d (.os k')) (updH (updH H j none) k' (some ⟨e.1, e.2.1, r.es ++ news⟩))
  | none => False
theorem wapp_E {P : Program} {d : Option Tmp} {t : TypeId} {j : Nat} {x : AV} {ρ : Env} {H : Heap} {K : Env → Heap → Prop} : wapp P d t (.os j) x ρ H K = withO (elemT P t) (fun e => wappE e d j x ρ H K) := by
  unfold wapp aappend wappE
  cases elemT P t with
  | none => rfl
  | some e => obtain ⟨a, b, c⟩ := e; rfl
@[congr] theorem wappE_c {e d j x x' ρ H K} (h' : x = x') : wappE e d j x ρ H K = wappE e d j x' ρ H K := h' ▸ rfl
@[congr] theorem FCalls_c {P f a a' H R} (h' : a = a') : FCalls P f a H R = FCalls P f a' H R := h' ▸ rfl
theorem wappE_i {e : TypeId × Nat × Nat} {d : Option Tmp} {j : Nat} {news : List (List AV)} {ρ : Env} {H : Heap} {K : Env → Heap → Prop} {r : Row} (hj : H j = some r)
    (h1 : r.e = e.1 ∧ r.sz = e.2.1) (h2 : allLen e.2.1 news) (h3 : (r.es.length + news.length) * e.2.2 ≤ 140737488355328)
    (h : ∀ j', H j' = none → K (upd ρ d (.os j')) (updH (updH H j none) j' (some ⟨e.1, e.2.1, r.es ++ news⟩))) : wappE e d j (.sl news) ρ H K := by
  unfold wappE
  simp only [hj]
  exact ⟨⟨h1.1, h1.2, h2, h3⟩, h⟩
theorem wappE_o {e : TypeId × Nat × Nat} {d : Option Tmp} {j i : Nat} {r' : Row} {ρ : Env} {H : Heap} {K : Env → Heap → Prop} {r : Row} (hj : H j = some r) (hi : H i = some r')
    (h1 : r.e = e.1 ∧ r.sz = e.2.1) (h2 : allLen e.2.1 r'.es) (h3 : (r.es.length + r'.es.length) * e.2.2 ≤ 140737488355328)
    (h : ∀ j', H j' = none → K (upd ρ d (.os j')) (updH (updH H j none) j' (some ⟨e.1, e.2.1, r.es ++ r'.es⟩))) : wappE e d j (.os i) ρ H K := by
  unfold wappE
  simp only [hj, asrc, hi]
  exact ⟨⟨h1.1, h1.2, h2, h3⟩, h⟩
/-- where the two ways of a branch come together: what holds there is J -/
theorem acond_join {P : Program} {C : CallP} {PC : FuncId → List AV → Heap → AV → Prop} {mt : Nat → Bool} {a b : Code} {x : AV} {K : Env → Heap → Prop} {Q : Ex → Env → Heap → Prop} {ρ : Env} {H : Heap} (J : Env → Heap → Prop) (h1 : ∀ ρ H, J ρ H → K ρ H)
    (h2 : ∀ K : Env → Heap → Prop, (∀ ρ H, J ρ H → K ρ H) → acond x (awp P C PC mt a (Ex.seq K Q)) (awp P C PC mt b (Ex.seq K Q)) ρ H) : acond x (awp P C PC mt a (Ex.seq K Q)) (awp P C PC mt b (Ex.seq K Q)) ρ H := h2 K h1
theorem acond_cut {x : AV} {A B : Env → Heap → Prop} {ρ : Env} {H : Heap} (J : Env → Heap → Prop) (h1 : J ρ H) (h2 : ∀ ρ H, J ρ H → acond x A B ρ H) : acond x A B ρ H := h2 ρ H h1
/-- where the ways out of a loop come together: what holds there is J -/
theorem aloop_join {P : Program} {C : CallP} {PC : FuncId → List AV → Heap → AV → Prop} {mt : Nat → Bool} {c : Code} {id : Nat} {Q : Ex → Env → Heap → Prop} {ρ : Env} {H : Heap} (J : Env → Heap → Prop) (h1 : ∀ ρ H, J ρ H → Q .normal ρ H)
    (h2 : ∀ Q' : Ex → Env → Heap → Prop, (∀ ρ H, J ρ H → Q' (.exit id) ρ H) → (∀ ρ H, Q .ret ρ H → Q' .ret ρ H) → aloop (awp P C PC mt c) Q' ρ H) : aloop (awp P C PC mt c) (Ex.blk id Q) ρ H :=
  h2 (Ex.blk id Q) (fun ρ H h => by rw [blk_same]; exact h1 ρ H h) (fun ρ H h => by rw [blk_ret]; exact h)
/-- the same, the branch being the last of its block -/
theorem acond_joinL {P : Program} {C : CallP} {PC : FuncId → List AV → Heap → AV → Prop} {mt : Nat → Bool} {a b : Code} {x : AV} {Q : Ex → Env → Heap → Prop} {ρ : Env} {H : Heap} (J : Env → Heap → Prop) (h1 : ∀ ρ H, J ρ H → Q .normal ρ H)
    (h2 : ∀ Q' : Ex → Env → Heap → Prop, (∀ ρ H, J ρ H → Q' .normal ρ H) → (∀ i ρ H, Q (.exit i) ρ H → Q' (.exit i) ρ H) → (∀ ρ H, Q .ret ρ H → Q' .ret ρ H) → acond x (awp P C PC mt a Q') (awp P C PC mt b Q') ρ H) : acond x (awp P C PC mt a Q) (awp P C PC mt b Q) ρ H :=
  h2 Q h1 (fun _ _ _ h => h) (fun _ _ h => h)
/-- a store into own row j, the cells' number known -/
def wputB (P : Program) (t : TypeId) (l : Option Nat) (d : Option Tmp) (j i f : Nat) (cs : List AV) (ρ : Env) (H : Heap) (K : Env → Heap → Prop) : Prop := match H j with
  | some r => (i < r.es.length ∧ cs.length = l.getD 1 ∧ f + cs.length ≤ r.sz ∧ (l = none → ∃ i, P.info? t = some i ∧ i.size = 1)) ∧ K (upd ρ d .any) (updH H j (some { r with es := r.es.set i (setAt (r.es.getD i []) f cs) }))
  | none => False
def wputE (P : Program) (t : TypeId) (l : Option Nat) (d : Option Tmp) (j i f : Nat) (cs : List AV) (ρ : Env) (H : Heap) (K : Env → Heap → Prop) : Prop :=
  wputB P t l d j i f cs ρ H K ∨ ∃ nl : List (Nat × TypeId × Nat), (∀ x ∈ nl, cs[x.1]? = some (.v (.slice none 0 0)) ∧ 0 < x.2.2) ∧ ownNils nl cs H fun cs H => wputB P t l d j i f cs ρ H K
theorem wput_E {P : Program} {d : Option Tmp} {t : TypeId} {j i f : Nat} {cs : List AV} {ρ : Env} {H : Heap} {K : Env → Heap → Prop} : wput P d t (.op j i f) cs ρ H K = withO (ldT P t) (fun l => wputE P t l d j i f cs ρ H K) := by
  have hB : ∀ cs H, astore P ⟨d, .move (.tmp 0), 0, "", #[], none⟩ t (.op j i f) cs ρ H K = withO (ldT P t) (fun l => wputB P t l d j i f cs ρ H K) := by
    intro cs H
    unfold astore wputB
    cases h1 : H j <;> cases h2 : ldT P t <;> simp [withO, h1]
  unfold wput astoreN wputE
  simp only [hB]
  cases h2 : ldT P t <;> simp [withO]
/-- the store of a struct whose nil slice at o becomes a row of the call's own -/
theorem wputE_nil {P : Program} {t : TypeId} {m : Nat} {d : Option Tmp} {j i f : Nat} {cs : List AV} {ρ : Env} {H : Heap} {K : Env → Heap → Prop} {r : Row} (o : Nat) (e : TypeId) (sz : Nat) (hc : cs[o]? = some (.v (.slice none 0 0)) ∧ 0 < sz) (hj : H j = some r) (h1 : i < r.es.length ∧ cs.length = m ∧ f + cs.length ≤ r.sz)
    (h : ∀ k, H k = none → K (upd ρ d .any) (updH (updH H k (some ⟨e, sz, []⟩)) j (some { r with es := r.es.set i (setAt (r.es.getD i []) f (cs.set o (.os k))) }))) : wputE P t (some m) d j i f cs ρ H K := by
  refine .inr ⟨[(o, e, sz)], ?_, fun k hk => ?_⟩
  · intro x hx
    simp only [List.mem_cons, List.not_mem_nil, or_false] at hx
    subst hx
    exact hc
  · have hne : j ≠ k := fun e => by rw [e, hk] at hj; cases hj
    unfold ownNils wputB
    simp only [show updH H k (some (⟨e, sz, []⟩ : Row)) j = some r by rw [updH]; rw [if_neg hne]; exact hj]
    exact ⟨⟨h1.1, by simpa using h1.2.1, by simpa using h1.2.2, by simp⟩, h k hk⟩
@[congr] theorem wputE_c {P t l d j i f cs cs' ρ H K} (h' : cs = cs') : wputE P t l d j i f cs ρ H K = wputE P t l d j i f cs' ρ H K := h' ▸ rfl
theorem wputE_n {P : Program} {t : TypeId} {m : Nat} {d : Option Tmp} {j i f : Nat} {cs : List AV} {ρ : Env} {H : Heap} {K : Env → Heap → Prop} {r : Row} (hj : H j = some r) (h1 : i < r.es.length ∧ cs.length = m ∧ f + cs.length ≤ r.sz)
    (h : K (upd ρ d .any) (updH H j (some { r with es := r.es.set i (setAt (r.es.getD i []) f cs) }))) : wputE P t (some m) d j i f cs ρ H K := by
  refine .inl ?_
  unfold wputB
  simp only [hj]
  exact ⟨⟨h1.1, h1.2.1, h1.2.2, by simp⟩, h⟩
theorem wputE_1 {P : Program} {t : TypeId} {d : Option Tmp} {j i f : Nat} {cs : List AV} {ρ : Env} {H : Heap} {K : Env → Heap → Prop} {r : Row} (ht : ∃ i, P.info? t = some i ∧ i.size = 1) (hj : H j = some r) (h1 : i < r.es.length ∧ cs.length = 1 ∧ f + cs.length ≤ r.sz)
    (h : K (upd ρ d .any) (updH H j (some { r with es := r.es.set i (setAt (r.es.getD i []) f cs) }))) : wputE P t none d j i f cs ρ H K := by
  refine .inl ?_
  unfold wputB
  simp only [hj]
  exact ⟨⟨h1.1, h1.2.1, h1.2.2, fun _ => ht⟩, h⟩
theorem toNat0 : Int.toNat 0 = 0 := rfl
theorem imp_and2 {a b : Prop} : (a → b → a ∧ b) = True := by simp; exact fun h1 h2 => ⟨h1, h2⟩
attribute [go_sem ↓] wapp_E wput_E
attribute [go_sem] wput_E List.set_cons_zero List.set_cons_succ
attribute [go_sem] Int.reduceToNat toNat0 beq_true beq_false Bool.not_eq_true' Bool.and_eq_true imp_and2
attribute [go_sem] wapp_E retQ aresL oneOr Bool.or_true Bool.true_or Bool.false_or Bool.or_false
theorem keep_app {H : Heap} {i j j' : Nat} {r r' : Row} (hi : H i = some r) (hji : j ≠ i) (hj' : H j' = none) : updH (updH H j none) j' (some r') i = some r := by
  have h1 : i ≠ j' := fun e => by subst e; rw [hi] at hj'; simp at hj'
  rw [updH_ne _ _ _ _ h1, updH_ne _ _ _ _ (Ne.symm hji), hi]
theorem keep_new {H : Heap} {i j : Nat} {r r' : Row} (hi : H i = some r) (hj : H j = none) : updH H j (some r') i = some r := by
  have h1 : i ≠ j := fun e => by subst e; rw [hi] at hj; simp at hj
  rw [updH_ne _ _ _ _ h1, hi]
theorem ne_new {H : Heap} {i j : Nat} {r : Row} (hi : H i = some r) (hj : H j = none) : i ≠ j := fun e => by subst e; rw [hi] at hj; simp at hj
def opt {α : Type} (b : Bool) (f : α) : List α := match b with | true => [f] | false => []
theorem opt_t {α : Type} {b : Bool} {f : α} (h : b = true) : opt b f = [f] := by rw [h]; rfl
theorem opt_f {α : Type} {b : Bool} {f : α} (h : b = false) : opt b f = [] := by rw [h]; rfl
theorem opt_len {α : Type} (b : Bool) (f : α) : (opt b f).length ≤ 1 := by cases b <;> simp [opt]
theorem row_appG {α : Type} {e : TypeId} {sz : Nat} {enc : α → List AV} {H : Heap} {k : Nat} {l l' : List α} {cs : List (List AV)} (h : cs = l'.map enc) : updH H k (some ⟨e, sz, l.map enc ++ cs⟩) k = some (⟨e, sz, (l ++ l').map enc⟩ : Row) := by rw [updH_same, h, List.map_append]
theorem row_app {e : TypeId} {sz : Nat} {enc : Fault → List AV} {H : Heap} {k : Nat} {l l' : List Fault} {cs : List (List AV)} (h : cs = l'.map enc) : updH H k (some ⟨e, sz, l.map enc ++ cs⟩) k = some (⟨e, sz, (l ++ l').map enc⟩ : Row) := row_appG h
theorem row_appI {e : TypeId} {sz : Nat} {enc : Int → List AV} {H : Heap} {k : Nat} {l l' : List Int} {cs : List (List AV)} (h : cs = l'.map enc) : updH H k (some ⟨e, sz, l.map enc ++ cs⟩) k = some (⟨e, sz, (l ++ l').map enc⟩ : Row) := row_appG h
abbrev typeRow (t : VType) : Row := ⟨58, 14, [encVType t]⟩
abbrev orderRow (o : Order) : Row := ⟨62, 16, [encOrder o]⟩
abbrev arcRow (a : Arc) : Row := ⟨122, 6, [encArc a]⟩
abbrev pointRow (a : Point) : Row := ⟨125, 2, [encPoint a]⟩
abbrev errRow (l : List Int) : Row := ⟨41, 1, l.map encInt⟩
abbrev faultRow (l : List Fault) : Row := ⟨64, 2, l.map encFault⟩
end Go.Proofs.YtbefdpmjpioijaaGreatDoor
