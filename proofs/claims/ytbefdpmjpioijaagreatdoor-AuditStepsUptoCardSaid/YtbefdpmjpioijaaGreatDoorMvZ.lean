/- small lemmas that the walks of lorryref46 and moved share. -/
import Derived.Test.YtbefdpmjpioijaaGreatDoorRefI
import Derived.Test.YtbefdpmjpioijaaGreatDoorBridge
set_option linter.unusedSimpArgs false
set_option linter.unusedVariables false
namespace Go.Proofs.YtbefdpmjpioijaaGreatDoor
def badNo (n N : Int) : Bool := decide (n < 0) || decide (n ≥ N)
end Go.Proofs.YtbefdpmjpioijaaGreatDoor
namespace Go.Proofs.YtbefdpmjpioijaaGreatDoor.Mv
open Go.Aw Go.Aw.D Go.Proofs Ty
set_option maxRecDepth 100000

theorem convI {H : Heap} {k : IntKind} {a b : Int} (h : a = b) : Conv H (.v (.int k a)) (.v (.int k b)) := h ▸ .refl _
theorem convB {H : Heap} {a b : Bool} (h : a = b) : Conv H (.v (.bool a)) (.v (.bool b)) := h ▸ .refl _
theorem convA {H : Heap} {a b : List AV} (h : a = b) : Conv H (.agg a) (.agg b) := h ▸ .refl _
abbrev iRow (l : List Int) : Row := ⟨3, 1, l.map encInt⟩
theorem uwrap_in {n : Int} (h : 0 ≤ n ∧ n < 18446744073709551616) : IntKind.u64.wrap n = n := by
  have e : IntKind.u64.wrap n = n % 18446744073709551616 := rfl
  rw [e]; omega
theorem any_congr {α : Type} {p q : α → Bool} {l : List α} (h : ∀ x ∈ l, p x = q x) : l.any p = l.any q := by
  rw [Bool.eq_iff_iff, List.any_eq_true, List.any_eq_true]
  exact ⟨fun ⟨x, hx, hp⟩ => ⟨x, hx, (h x hx) ▸ hp⟩, fun ⟨x, hx, hp⟩ => ⟨x, hx, (h x hx).symm ▸ hp⟩⟩
theorem all_congr {α : Type} {p q : α → Bool} {l : List α} (h : ∀ x ∈ l, p x = q x) : l.all p = l.all q := by
  rw [Bool.eq_iff_iff, List.all_eq_true, List.all_eq_true]
  exact ⟨fun hp x hx => (h x hx) ▸ hp x hx, fun hp x hx => (h x hx).symm ▸ hp x hx⟩
theorem take_allP {α : Type} {p : α → Prop} {l : List α} {k : Nat} {x : α} (hk : l[k]? = some x) (hx : p x) (h : ∀ x ∈ l.take k, p x) : ∀ x ∈ l.take (k + 1), p x := by
  rw [take_succ hk]
  intro y hy
  rcases List.mem_append.1 hy with hy | hy
  · exact h y hy
  · simp at hy; subst hy; exact hx
def exS (b : UInt8) : ByteArray := ⟨#[b]⟩
theorem NC.pc {f : FuncId} {args : List AV} {r : Row} (h : NC Tryz.prog f args r .os) : PC Tryz.prog f args (.sl r.es) :=
  RC.conv (RC.mono h fun x H' ⟨k, hx, hk⟩ => hx ▸ .row k r r.es hk (ConvE.refl _))
theorem inB_of {x : Instance} (h : bInstance 1048576 x) : InB x := by
  obtain ⟨⟨hpl, har⟩, hty, hor, hap, hbe⟩ := h
  exact ⟨hpl.1, hpl.2, har.1, fun a ha => ⟨(har.2 a ha).2.2.2.2.1.1, (har.2 a ha).2.2.2.2.2.1⟩, hty.1, fun t ht => ⟨(hty.2 t ht).1, (hty.2 t ht).2.2.2.2.1.1⟩, hor.1, fun t ht => ⟨(hor.2 t ht).1, (hor.2 t ht).2.1.1⟩, hap.1, hbe.1⟩
end Go.Proofs.YtbefdpmjpioijaaGreatDoor.Mv
