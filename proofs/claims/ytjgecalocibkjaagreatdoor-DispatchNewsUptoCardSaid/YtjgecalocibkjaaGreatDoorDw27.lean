/- Texts joined by a program: EndDW. -/
import Derived.Test.YtjgecalocibkjaaGreatDoorDw23
import Derived.Test.YtjgecalocibkjaaGreatDoorDw26

namespace Go.Proofs.YtjgecalocibkjaaGreatDoor
open Go.Aw Go.Aw.D
theorem inB_of {x : Instance} (h : bInstance 1048576 x) : InB x := by
  obtain ⟨⟨hpl, har⟩, hty, hor, hap, hbe⟩ := h
  exact ⟨hpl.1, hpl.2, har.1, fun a ha => ⟨(har.2 a ha).2.2.2.2.1.1, (har.2 a ha).2.2.2.2.2.1⟩, hty.1, fun t ht => ⟨(hty.2 t ht).1, (hty.2 t ht).2.2.2.2.1.1⟩, hor.1, fun t ht => ⟨(hor.2 t ht).1, (hor.2 t ht).2.1.1⟩, hap.1, hbe.1⟩
theorem dispatchNews_holds : Rows.DispatchNewsUptoCardSaid := dispatchNews.card fun x hx => Nw.dispatchNews_c x (inB_of hx)
#print axioms dispatchNews_holds
end Go.Proofs.YtjgecalocibkjaaGreatDoor
