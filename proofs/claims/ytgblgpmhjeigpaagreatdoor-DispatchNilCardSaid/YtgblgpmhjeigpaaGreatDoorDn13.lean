/- Texts joined by a program: Types, Tools. -/
import Derived.Test.YtgblgpmhjeigpaaGreatDoorChecked
import Derived.KernelRfl
import Derived.Test.YtgblgpmhjeigpaaGreatDoorDn12

section
set_option linter.unusedSimpArgs false
namespace Go.Proofs.YtgblgpmhjeigpaaGreatDoor.Ty
open Go.Aw Go.Proofs
theorem mixed : Tryz.prog.follows .mixedOrders = true := by kernel_rfl
theorem st9 : isStringT Tryz.prog 9 = true := by kernel_rfl
theorem fo35_0 : fieldOff Tryz.prog 35 0 = some (0, none) := by kernel_rfl
theorem fo35_1 : fieldOff Tryz.prog 35 1 = some (1, none) := by kernel_rfl
theorem fo40_0 : fieldOff Tryz.prog 40 0 = some (0, some 2) := by kernel_rfl
theorem fo40_1 : fieldOff Tryz.prog 40 1 = some (2, none) := by kernel_rfl
theorem fo40_2 : fieldOff Tryz.prog 40 2 = some (3, none) := by kernel_rfl
theorem fo40_3 : fieldOff Tryz.prog 40 3 = some (4, none) := by kernel_rfl
theorem fo40_4 : fieldOff Tryz.prog 40 4 = some (5, none) := by kernel_rfl
theorem fo49_0 : fieldOff Tryz.prog 49 0 = some (0, none) := by kernel_rfl
theorem fo49_2 : fieldOff Tryz.prog 49 2 = some (7, none) := by kernel_rfl
theorem fo49_3 : fieldOff Tryz.prog 49 3 = some (8, none) := by kernel_rfl
theorem fo49_6 : fieldOff Tryz.prog 49 6 = some (17, none) := by kernel_rfl
theorem fo49_9 : fieldOff Tryz.prog 49 9 = some (23, none) := by kernel_rfl
theorem fo57_0 : fieldOff Tryz.prog 57 0 = some (0, none) := by kernel_rfl
theorem fo59_0 : fieldOff Tryz.prog 59 0 = some (0, none) := by kernel_rfl
theorem fo59_1 : fieldOff Tryz.prog 59 1 = some (1, none) := by kernel_rfl
theorem fo83_0 : fieldOff Tryz.prog 83 0 = some (0, none) := by kernel_rfl
theorem fo83_1 : fieldOff Tryz.prog 83 1 = some (1, none) := by kernel_rfl
theorem fo83_2 : fieldOff Tryz.prog 83 2 = some (2, none) := by kernel_rfl
theorem fo83_3 : fieldOff Tryz.prog 83 3 = some (3, none) := by kernel_rfl
theorem fo83_4 : fieldOff Tryz.prog 83 4 = some (4, none) := by kernel_rfl
theorem fo83_5 : fieldOff Tryz.prog 83 5 = some (5, none) := by kernel_rfl
theorem fo83_6 : fieldOff Tryz.prog 83 6 = some (6, none) := by kernel_rfl
theorem fo83_7 : fieldOff Tryz.prog 83 7 = some (7, none) := by kernel_rfl
theorem fo83_8 : fieldOff Tryz.prog 83 8 = some (8, none) := by kernel_rfl
theorem fo83_9 : fieldOff Tryz.prog 83 9 = some (9, none) := by kernel_rfl
theorem fo83_10 : fieldOff Tryz.prog 83 10 = some (10, none) := by kernel_rfl
theorem fo83_11 : fieldOff Tryz.prog 83 11 = some (11, none) := by kernel_rfl
theorem fo83_12 : fieldOff Tryz.prog 83 12 = some (12, none) := by kernel_rfl
theorem fo83_13 : fieldOff Tryz.prog 83 13 = some (13, none) := by kernel_rfl
theorem fo149_0 : fieldOff Tryz.prog 149 0 = some (0, none) := by kernel_rfl
theorem fo149_1 : fieldOff Tryz.prog 149 1 = some (1, none) := by kernel_rfl
theorem el22 : elemT Tryz.prog 22 = some (3, 1, 8) := by kernel_rfl
theorem sl22 : isSliceT Tryz.prog 22 = true := by kernel_rfl
theorem el32 : elemT Tryz.prog 32 = some (9, 1, 16) := by kernel_rfl
theorem sl32 : isSliceT Tryz.prog 32 = true := by kernel_rfl
theorem sl33 : isSliceT Tryz.prog 33 = true := by kernel_rfl
theorem el36 : elemT Tryz.prog 36 = some (83, 14, 136) := by kernel_rfl
theorem sl36 : isSliceT Tryz.prog 36 = true := by kernel_rfl
theorem sl37 : isSliceT Tryz.prog 37 = true := by kernel_rfl
theorem sl38 : isSliceT Tryz.prog 38 = true := by kernel_rfl
theorem sl41 : isSliceT Tryz.prog 41 = true := by kernel_rfl
theorem el47 : elemT Tryz.prog 47 = some (59, 23, 208) := by kernel_rfl
theorem sl47 : isSliceT Tryz.prog 47 = true := by kernel_rfl
theorem sl62 : isSliceT Tryz.prog 62 = true := by kernel_rfl
theorem el84 : elemT Tryz.prog 84 = some (149, 2, 24) := by kernel_rfl
theorem sl84 : isSliceT Tryz.prog 84 = true := by kernel_rfl
theorem el189 : elemT Tryz.prog 189 = some (84, 1, 24) := by kernel_rfl
theorem sl189 : isSliceT Tryz.prog 189 = true := by kernel_rfl
theorem sl198 : isSliceT Tryz.prog 198 = true := by kernel_rfl
theorem ld3 : ldT Tryz.prog 3 = some none := by kernel_rfl
theorem ld4 : ldT Tryz.prog 4 = some none := by kernel_rfl
theorem ld9 : ldT Tryz.prog 9 = some none := by kernel_rfl
theorem ld22 : ldT Tryz.prog 22 = some none := by kernel_rfl
theorem ld30 : ldT Tryz.prog 30 = some (some 23) := by kernel_rfl
theorem ld32 : ldT Tryz.prog 32 = some none := by kernel_rfl
theorem ld33 : ldT Tryz.prog 33 = some none := by kernel_rfl
theorem ld35 : ldT Tryz.prog 35 = some (some 2) := by kernel_rfl
theorem ld36 : ldT Tryz.prog 36 = some none := by kernel_rfl
theorem ld37 : ldT Tryz.prog 37 = some none := by kernel_rfl
theorem ld38 : ldT Tryz.prog 38 = some none := by kernel_rfl
theorem ld40 : ldT Tryz.prog 40 = some (some 6) := by kernel_rfl
theorem ld43 : ldT Tryz.prog 43 = some (some 2) := by kernel_rfl
theorem ld46 : ldT Tryz.prog 46 = some (some 4) := by kernel_rfl
theorem ld47 : ldT Tryz.prog 47 = some none := by kernel_rfl
theorem ld54 : ldT Tryz.prog 54 = some none := by kernel_rfl
theorem ld57 : ldT Tryz.prog 57 = some (some 3) := by kernel_rfl
theorem ld59 : ldT Tryz.prog 59 = some (some 23) := by kernel_rfl
theorem ld83 : ldT Tryz.prog 83 = some (some 14) := by kernel_rfl
theorem ld84 : ldT Tryz.prog 84 = some none := by kernel_rfl
theorem ld149 : ldT Tryz.prog 149 = some (some 2) := by kernel_rfl
theorem ld198 : ldT Tryz.prog 198 = some none := by kernel_rfl
theorem ma191 : mapT Tryz.prog 191 = some (9, 4) := by kernel_rfl
theorem pa35 : partsT Tryz.prog 35 = some [(0, 1), (1, 1)] := by kernel_rfl
theorem pa40 : partsT Tryz.prog 40 = some [(0, 2), (2, 1), (3, 1), (4, 1), (5, 1)] := by kernel_rfl
theorem pa43 : partsT Tryz.prog 43 = some [(0, 1), (1, 1)] := by kernel_rfl
theorem pa46 : partsT Tryz.prog 46 = some [(0, 1), (1, 2), (3, 1)] := by kernel_rfl
theorem pa49 : partsT Tryz.prog 49 = some [(0, 1), (1, 6), (7, 1), (8, 1), (9, 2), (11, 6), (17, 1), (18, 1), (19, 4), (23, 1)] := by kernel_rfl
theorem pa57 : partsT Tryz.prog 57 = some [(0, 1), (1, 1), (2, 1)] := by kernel_rfl
theorem pa59 : partsT Tryz.prog 59 = some [(0, 1), (1, 1), (2, 21)] := by kernel_rfl
theorem pa83 : partsT Tryz.prog 83 = some [(0, 1), (1, 1), (2, 1), (3, 1), (4, 1), (5, 1), (6, 1), (7, 1), (8, 1), (9, 1), (10, 1), (11, 1), (12, 1), (13, 1)] := by kernel_rfl
theorem pa149 : partsT Tryz.prog 149 = some [(0, 1), (1, 1)] := by kernel_rfl
theorem ze35 : zeroT Tryz.prog 35 = some [.sl [], .sl []] := by kernel_rfl
theorem ze40 : zeroT Tryz.prog 40 = some [.sl [], .sl [], .sl [], .sl [], .sl [], .sl []] := by kernel_rfl
theorem ze43 : zeroT Tryz.prog 43 = some [.sl [], .sl []] := by kernel_rfl
theorem ze46 : zeroT Tryz.prog 46 = some [.v (.bool false), .sl [], .sl [], .sl []] := by kernel_rfl
theorem ni49 : nilsT Tryz.prog 49 = some [(1, 9, 1), (2, 197, 6), (3, 83, 14), (4, 26, 16), (5, 124, 2), (6, 124, 2), (9, 73, 4), (10, 3, 1), (11, 9, 1), (12, 197, 6), (13, 83, 14), (14, 26, 16), (15, 124, 2), (16, 124, 2), (20, 73, 4), (21, 3, 1), (22, 238, 10), (23, 59, 23)] := by kernel_rfl
theorem ze49 : zeroT Tryz.prog 49 = some [.v (.bool false), .sl [], .sl [], .sl [], .sl [], .sl [], .sl [], .v (.int .i64 0), .v (.bool false), .sl [], .sl [], .sl [], .sl [], .sl [], .sl [], .sl [], .sl [], .v (.bool false), .v (.bool false), .v (.bool false), .sl [], .sl [], .sl [], .sl []] := by kernel_rfl
theorem ze57 : zeroT Tryz.prog 57 = some [.v (.int .i64 0), .v (.int .i64 0), .sl []] := by kernel_rfl
theorem ze59 : zeroT Tryz.prog 59 = some [.v (.int .i64 0), .v (.int .i64 0), .v (.int .i64 0), .v (.int .i64 0), .v (.int .i64 0), .v (.int .i64 0), .v (.int .i64 0), .v (.string ByteArray.empty), .sl [], .v (.int .i64 0), .v (.int .i64 0), .v (.int .i64 0), .v (.int .i64 0), .v (.int .i64 0), .v (.int .i64 0), .v (.int .i64 0), .v (.int .i64 0), .v (.int .i64 0), .v (.int .i64 0), .v (.int .i64 0), .v (.int .i64 0), .v (.int .i64 0), .v (.bool false)] := by kernel_rfl
theorem ze83 : zeroT Tryz.prog 83 = some [.v (.string ByteArray.empty), .v (.int .i64 0), .v (.int .i64 0), .v (.int .i64 0), .sl [], .v (.int .i64 0), .v (.int .i64 0), .v (.int .i64 0), .v (.int .i64 0), .v (.int .i64 0), .v (.int .i64 0), .v (.int .i64 0), .v (.int .i64 0), .v (.int .i64 0)] := by kernel_rfl
theorem ze149 : zeroT Tryz.prog 149 = some [.v (.int .i64 0), .v (.string ByteArray.empty)] := by kernel_rfl
theorem ze198 : zeroT Tryz.prog 198 = some [.sl []] := by kernel_rfl
theorem co4 : callOk Tryz.prog 4 = true := by kernel_rfl
theorem co5 : callOk Tryz.prog 5 = true := by kernel_rfl
theorem co6 : callOk Tryz.prog 6 = true := by kernel_rfl
theorem co7 : callOk Tryz.prog 7 = true := by kernel_rfl
theorem co8 : callOk Tryz.prog 8 = true := by kernel_rfl
theorem co9 : callOk Tryz.prog 9 = true := by kernel_rfl
theorem co10 : callOk Tryz.prog 10 = true := by kernel_rfl
theorem co11 : callOk Tryz.prog 11 = true := by kernel_rfl
theorem co12 : callOk Tryz.prog 12 = true := by kernel_rfl
theorem co13 : callOk Tryz.prog 13 = true := by kernel_rfl
theorem co14 : callOk Tryz.prog 14 = true := by kernel_rfl
theorem co18 : callOk Tryz.prog 18 = true := by kernel_rfl
theorem co20 : callOk Tryz.prog 20 = true := by kernel_rfl
theorem co22 : callOk Tryz.prog 22 = true := by kernel_rfl
theorem co33 : callOk Tryz.prog 33 = true := by kernel_rfl
theorem co61 : callOk Tryz.prog 61 = true := by kernel_rfl
theorem co62 : callOk Tryz.prog 62 = true := by kernel_rfl
theorem co63 : callOk Tryz.prog 63 = true := by kernel_rfl
theorem co64 : callOk Tryz.prog 64 = true := by kernel_rfl
theorem co65 : callOk Tryz.prog 65 = true := by kernel_rfl
theorem co66 : callOk Tryz.prog 66 = true := by kernel_rfl
theorem co67 : callOk Tryz.prog 67 = true := by kernel_rfl
theorem co98 : callOk Tryz.prog 98 = true := by kernel_rfl
theorem co99 : callOk Tryz.prog 99 = true := by kernel_rfl
theorem co100 : callOk Tryz.prog 100 = true := by kernel_rfl
theorem co103 : callOk Tryz.prog 103 = true := by kernel_rfl
theorem co104 : callOk Tryz.prog 104 = true := by kernel_rfl
theorem co106 : callOk Tryz.prog 106 = true := by kernel_rfl
theorem co149 : callOk Tryz.prog 149 = true := by kernel_rfl
theorem co150 : callOk Tryz.prog 150 = true := by kernel_rfl
theorem co151 : callOk Tryz.prog 151 = true := by kernel_rfl
theorem co155 : callOk Tryz.prog 155 = true := by kernel_rfl
theorem co156 : callOk Tryz.prog 156 = true := by kernel_rfl
theorem co158 : callOk Tryz.prog 158 = true := by kernel_rfl
theorem co211 : callOk Tryz.prog 211 = true := by kernel_rfl
theorem co213 : callOk Tryz.prog 213 = true := by kernel_rfl
theorem co214 : callOk Tryz.prog 214 = true := by kernel_rfl
theorem co215 : callOk Tryz.prog 215 = true := by kernel_rfl
theorem co274 : callOk Tryz.prog 274 = true := by kernel_rfl
theorem co275 : callOk Tryz.prog 275 = true := by kernel_rfl
theorem co338 : callOk Tryz.prog 338 = true := by kernel_rfl
attribute [go_sem] st9 fo35_0 fo35_1 fo40_0 fo40_1 fo40_2 fo40_3 fo40_4 fo49_0 fo49_2 fo49_3 fo49_6 fo49_9 fo57_0 fo59_0 fo59_1 fo83_0 fo83_1 fo83_2 fo83_3 fo83_4 fo83_5 fo83_6 fo83_7 fo83_8 fo83_9 fo83_10 fo83_11 fo83_12 fo83_13 fo149_0 fo149_1 el22 sl22 el32 sl32 sl33 el36 sl36 sl37 sl38 sl41 el47 sl47 sl62 el84 sl84 el189 sl189 sl198 ld3 ld4 ld9 ld22 ld30 ld32 ld33 ld35 ld36 ld37 ld38 ld40 ld43 ld46 ld47 ld54 ld57 ld59 ld83 ld84 ld149 ld198 ma191 pa35 pa40 pa43 pa46 pa49 pa57 pa59 pa83 pa149 ze35 ze40 ze43 ze46 ni49 ze49 ze57 ze59 ze83 ze149 ze198 co4 co5 co6 co7 co8 co9 co10 co11 co12 co13 co14 co18 co20 co22 co33 co61 co62 co63 co64 co65 co66 co67 co98 co99 co100 co103 co104 co106 co149 co150 co151 co155 co156 co158 co211 co213 co214 co215 co274 co275 co338
end Go.Proofs.YtgblgpmhjeigpaaGreatDoor.Ty
end

section
set_option linter.unusedSimpArgs false
set_option linter.unusedVariables false
namespace Go.Proofs.YtgblgpmhjeigpaaGreatDoor
open Go.Aw Go.Aw.D Go.Proofs Ty
abbrev int (n : Int) : AV := .v (.int .i64 n)
abbrev str (s : ByteArray) : AV := .v (.string s)
abbrev boo (b : Bool) : AV := .v (.bool b)
def wappE (e : TypeId × Nat × Nat) (d : Option Tmp) (j : Nat) (x : AV) (ρ : Env) (H : Heap) (K : Env → Heap → Prop) : Prop := match H j with
  | some r => asrc H x fun news => (r.e = e.1 ∧ r.sz = e.2.1 ∧ allLen e.2.1 news ∧ (r.es.length + news.length) * e.2.2 ≤ 140737488355328) ∧
        ∀ k', H k' = none → K (upd ρ d (.os k')) (updH (updH H j none) k' (some ⟨e.1, e.2.1, r.es ++ news⟩))
  | none => False
theorem wapp_E {P : Program} {d : Option Tmp} {t : TypeId} {j : Nat} {x : AV} {ρ : Env} {H : Heap} {K : Env → Heap → Prop} : wapp P d t (.os j) x ρ H K = withO (elemT P t) (fun e => wappE e d j x ρ H K) := by
  unfold wapp aappend wappE
  cases elemT P t with
  | none => rfl
  | some e => obtain ⟨a, b, c⟩ := e; rfl
@[congr] theorem wappE_c {e d j x x' ρ H K} (h' : x = x') : wappE e d j x ρ H K = wappE e d j x' ρ H K := h' ▸ rfl
@[congr] theorem FCalls_c {P f a a' H R} (h' : a = a') : FCalls P f a H R = FCalls P f a' H R := h' ▸ rfl
theorem wappE_i {e : TypeId × Nat × Nat} {d : Option Tmp} {j : Nat} {news : List (List AV)} {ρ : Env} {H : Heap} {K : Env → Heap → Prop} {r : Row} (hj : H j = some r)
    (h1 : r.e = e.1 ∧ r.sz = e.2.1) (h2 : allLen e.2.1 news) (h3 : (r.es.length + news.length) * e.2.2 ≤ 140737488355328)
    (h : ∀ j', H j' = none → K (upd ρ d (.os j')) (updH (updH H j none) j' (some ⟨e.1, e.2.1, r.es ++ news⟩))) : wappE e d j (.sl news) ρ H K := by
  unfold wappE
  simp only [hj]
  exact ⟨⟨h1.1, h1.2, h2, h3⟩, h⟩
def wputB (P : Program) (t : TypeId) (l : Option Nat) (d : Option Tmp) (j i f : Nat) (cs : List AV) (ρ : Env) (H : Heap) (K : Env → Heap → Prop) : Prop := match H j with
  | some r => (i < r.es.length ∧ cs.length = l.getD 1 ∧ f + cs.length ≤ r.sz ∧ (l = none → ∃ i, P.info? t = some i ∧ i.size = 1)) ∧ K (upd ρ d .any) (updH H j (some { r with es := r.es.set i (setAt (r.es.getD i []) f cs) }))
  | none => False
def wputE (P : Program) (t : TypeId) (l : Option Nat) (d : Option Tmp) (j i f : Nat) (cs : List AV) (ρ : Env) (H : Heap) (K : Env → Heap → Prop) : Prop :=
  wputB P t l d j i f cs ρ H K ∨ ∃ nl : List (Nat × TypeId × Nat), (∀ x ∈ nl, cs[x.1]? = some (.v (.slice none 0 0)) ∧ 0 < x.2.2) ∧ ownNils nl cs H fun cs H => wputB P t l d j i f cs ρ H K
theorem wput_E {P : Program} {d : Option Tmp} {t : TypeId} {j i f : Nat} {cs : List AV} {ρ : Env} {H : Heap} {K : Env → Heap → Prop} : wput P d t (.op j i f) cs ρ H K = withO (ldT P t) (fun l => wputE P t l d j i f cs ρ H K) := by
  have hB : ∀ cs H, astore P ⟨d, .move (.tmp 0), 0, "", #[], none⟩ t (.op j i f) cs ρ H K = withO (ldT P t) (fun l => wputB P t l d j i f cs ρ H K) := by
    intro cs H
    unfold astore wputB
    cases h1 : H j <;> cases h2 : ldT P t <;> simp [withO, h1]
  unfold wput astoreN wputE
  simp only [hB]
  cases h2 : ldT P t <;> simp [withO]
@[congr] theorem wputE_c {P t l d j i f cs cs' ρ H K} (h' : cs = cs') : wputE P t l d j i f cs ρ H K = wputE P t l d j i f cs' ρ H K := h' ▸ rfl
theorem wputE_n {P : Program} {t : TypeId} {m : Nat} {d : Option Tmp} {j i f : Nat} {cs : List AV} {ρ : Env} {H : Heap} {K : Env → Heap → Prop} {r : Row} (hj : H j = some r) (h1 : i < r.es.length ∧ cs.length = m ∧ f + cs.length ≤ r.sz)
    (h : K (upd ρ d .any) (updH H j (some { r with es := r.es.set i (setAt (r.es.getD i []) f cs) }))) : wputE P t (some m) d j i f cs ρ H K := by
  refine .inl ?_
  unfold wputB
  simp only [hj]
  exact ⟨⟨h1.1, h1.2.1, h1.2.2, by simp⟩, h⟩
theorem wputE_1 {P : Program} {t : TypeId} {d : Option Tmp} {j i f : Nat} {cs : List AV} {ρ : Env} {H : Heap} {K : Env → Heap → Prop} {r : Row} (ht : ∃ i, P.info? t = some i ∧ i.size = 1) (hj : H j = some r) (h1 : i < r.es.length ∧ cs.length = 1 ∧ f + cs.length ≤ r.sz)
    (h : K (upd ρ d .any) (updH H j (some { r with es := r.es.set i (setAt (r.es.getD i []) f cs) }))) : wputE P t none d j i f cs ρ H K := by
  refine .inl ?_
  unfold wputB
  simp only [hj]
  exact ⟨⟨h1.1, h1.2.1, h1.2.2, fun _ => ht⟩, h⟩
theorem toNat0 : Int.toNat 0 = 0 := rfl
theorem imp_and2 {a b : Prop} : (a → b → a ∧ b) = True := by simp; exact fun h1 h2 => ⟨h1, h2⟩
attribute [go_sem ↓] wapp_E wput_E
attribute [go_sem] wput_E List.set_cons_zero List.set_cons_succ
attribute [go_sem] Int.reduceToNat toNat0 beq_true beq_false Bool.not_eq_true' Bool.and_eq_true imp_and2
attribute [go_sem] wapp_E retQ aresL oneOr Bool.or_true Bool.true_or Bool.false_or Bool.or_false
theorem keep_app {H : Heap} {i j j' : Nat} {r r' : Row} (hi : H i = some r) (hji : j ≠ i) (hj' : H j' = none) : updH (updH H j none) j' (some r') i = some r := by
  have h1 : i ≠ j' := fun e => by subst e; rw [hi] at hj'; simp at hj'
  rw [updH_ne _ _ _ _ h1, updH_ne _ _ _ _ (Ne.symm hji), hi]
theorem keep_new {H : Heap} {i j : Nat} {r r' : Row} (hi : H i = some r) (hj : H j = none) : updH H j (some r') i = some r := by
  have h1 : i ≠ j := fun e => by subst e; rw [hi] at hj; simp at hj
  rw [updH_ne _ _ _ _ h1, hi]
theorem ne_new {H : Heap} {i j : Nat} {r : Row} (hi : H i = some r) (hj : H j = none) : i ≠ j := fun e => by subst e; rw [hi] at hj; simp at hj
end Go.Proofs.YtgblgpmhjeigpaaGreatDoor
end
