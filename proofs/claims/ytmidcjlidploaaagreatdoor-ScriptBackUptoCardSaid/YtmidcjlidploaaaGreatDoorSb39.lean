/- Texts joined by a program: EndSB. -/
import Derived.Test.YtmidcjlidploaaaGreatDoorSb32
import Derived.Test.YtmidcjlidploaaaGreatDoorSb38

namespace Go.Proofs.YtmidcjlidploaaaGreatDoor
open Go.Aw Go.Aw.D
theorem inB_of {x : Instance} (h : bInstance 1048576 x) : InB x := by
  obtain ⟨⟨hpl, har⟩, hty, hor, hap, hbe⟩ := h
  exact ⟨hpl.1, hpl.2, har.1, fun a ha => ⟨(har.2 a ha).2.2.2.2.1.1, (har.2 a ha).2.2.2.2.2.1⟩, hty.1, fun t ht => ⟨(hty.2 t ht).1, (hty.2 t ht).2.2.2.2.1.1⟩, hor.1, fun t ht => ⟨(hor.2 t ht).1, (hor.2 t ht).2.1.1⟩, hap.1, hbe.1⟩
theorem okStop_of {n : Nat} {s : Stop} (h : bStop n s) : Sc.okStop s := h
theorem okPoint_of {n : Nat} {p : Point} (h : bPoint n p) : Sc.okPoint p := h
theorem okOrder_of {o : Order} (h : bOrder 1048576 o) : Sc.OkOrder o := by
  obtain ⟨h1, h2, h3, h4, h5, h6, h7, h8, h9, _⟩ := h
  exact ⟨h1, h2.1, h2.2, okStop_of h3, okStop_of h4, h5, h6, h7, h8, h9⟩
theorem okArc_of {a : Arc} (h : bArc 1048576 a) : Sc.OkArc a := by
  obtain ⟨h1, h2, h3, h4, h5, h6⟩ := h
  exact ⟨h1, h2, h3, h4, h5.1, fun p hp => okPoint_of (h5.2 p hp), h6.1, fun p hp => okPoint_of (h6.2 p hp)⟩
theorem okType_of {t : VType} (h : bVType 1048576 t) : Sc.OkType t := by
  obtain ⟨h1, h2, h3, h4, h5, h6, h7, h8, h9, h10, h11, h12, h13, h14⟩ := h
  exact ⟨h1, h2, h3, h4, h5.1, h5.2, h6, h7, h8, h9, h10, h11, h12, h13, h14⟩
theorem okPair_of {n : Nat} {p : Pair} (h : bPair n p) : Sc.OkPair p := h
theorem okS_of {s : Script} (h : bScript 1048576 s) (hs : Sc.smallS s = true) : Sc.OkS s := by
  obtain ⟨hi, hc⟩ := h
  have hb : Sc.bigS s = false := by
    unfold Sc.smallS at hs
    cases hx : Sc.bigS s with
    | true => rw [hx] at hs; cases hs
    | false => rfl
  simp only [Sc.bigS, Bool.or_eq_false_iff, decide_eq_false_iff_not] at hb
  obtain ⟨⟨⟨⟨⟨⟨b1, b2⟩, b3⟩, b4⟩, b5⟩, b6⟩, b7⟩ := hb
  refine ⟨⟨inB_of hi, by omega, by omega, by omega, by omega, by omega, by omega, fun a ha => okArc_of (hi.1.2.2 a ha), fun a ha => okType_of (hi.2.1.2 a ha), fun a ha => okOrder_of (hi.2.2.1.2 a ha), fun a ha => okPair_of (hi.2.2.2.1.2 a ha), fun a ha => okPair_of (hi.2.2.2.2.2 a ha)⟩, by omega, fun c hcm => ?_⟩
  obtain ⟨_, hn, e1, _, e3, e4, e5, e6⟩ := hc.2 c hcm
  exact ⟨hn, ⟨e1, e3, e4, e5, okOrder_of e6⟩⟩
theorem scriptBack_holds : Rows.ScriptBackUptoCardSaid := scriptBack.card fun s hs => Sk.scriptBack_c s hs.2.1 (okS_of hs)
#print axioms scriptBack_holds
end Go.Proofs.YtmidcjlidploaaaGreatDoor
