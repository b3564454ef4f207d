/- lorryref13.under -/
import Derived.Test.YtjlbikpgjejkjaaRefE
set_option linter.unusedSimpArgs false
set_option linter.unusedVariables false
namespace Go.Proofs.Ytjlbikpgjejkjaa
open Go.Aw Go.Aw.D Go.Proofs Ty
set_option maxRecDepth 100000

def underF (w : ByteArray) (f : Fault) : Fault := ⟨f.err, match f.at_.toList == (⟨#[]⟩ : ByteArray).toList with | true => w | false => w ++ ⟨#[32]⟩ ++ f.at_⟩
theorem under_c (w : ByteArray) (l : List Fault) (hw : w.size ≤ 1048576) (hl : l.length ≤ 5000000000000) (hs : ∀ f ∈ l, f.at_.size ≤ 268435456) :
    NC Try.prog 41 [str w, .sl (l.map encFault)] (faultRow (l.map (underF w))) .os := by
  refine NC.body (c := Try.f41.body.getD .skip) (fun t => t == 5) mixed Try.func41 rfl (by kernel_rfl) ?_
  unfold Try.f41
  simp only [Option.getD_some]
  simp only [go_sem]
  refine anew_i fun j hj => ?_
  simp only [go_sem]
  refine ⟨fun ρ H => ∃ k : Nat, k ≤ l.length ∧ ρ 0 = str w ∧ ρ 1 = .sl (l.map encFault) ∧ ρ 6 = int k ∧ ∃ j, ρ 5 = .os j ∧ H j = some (faultRow ((l.take k).map (underF w))), fun ρ _ => l.length - natOf (ρ 6), ⟨0, Nat.zero_le _, rfl, rfl, rfl, j, rfl, updH_same _ _ _⟩, ?_⟩
  clear hj
  rintro ρ H ⟨k, hk, h0, h1, h6, j, h5, hH⟩
  simp only [go_sem, h0, h1, h6, h5]
  refine acond_i (fun hlt => ?_) (fun hge => ?_)
  · have hlt := le_of_lt_b hlt
    obtain ⟨f, hf⟩ := getIn hlt
    have b1 := inB hlt
    have hfs := hs f (mem_of_get hf)
    simp only [go_sem, h0, h1, h6, b1, getD_map hf]
    refine acond_join (fun ρ' H' => ρ' 0 = str w ∧ ρ' 1 = .sl (l.map encFault) ∧ ρ' 6 = int k ∧ ρ' 5 = .os j ∧ ρ' 7 = str (underF w f).at_ ∧ H' = H) ?_ fun K hK => acond_i (fun hb => ?_) (fun hb => ?_)
    · clear h0 h1 h6 h5
      rintro ρ H ⟨h0, h1, h6, h5, h7, rfl⟩
      simp only [go_sem, h0, h1, h6, h5, h7, b1, getD_map hf]
      refine wappE_i hH ⟨rfl, rfl⟩ (by simp only [go_sem]) (by simp only [List.length_map, List.length_take, List.length_cons, List.length_nil]; omega) (fun j' hj' => ?_)
      simp only [go_sem, h0, h1, h6, wrapS (show k ≤ 4611686018427387904 by omega)]
      refine ⟨⟨k + 1, hlt, rfl, j', rfl, ?_⟩, by simp only [natOf_int]; omega⟩
      rw [map_succ hf]
      exact row_app (l' := [underF w f]) rfl
    · simp only [go_sem, h0, h1, h6, b1, getD_map hf]
      have h32 : (#[32] : Array UInt8).size = 1 := rfl
      refine ⟨by rw [i64max]; omega, by rw [i64max]; omega, hK _ _ ⟨by simp only [go_sem, h0], by simp only [go_sem, h1], by simp only [go_sem, h6], by simp only [go_sem, h5], ?_, rfl⟩⟩
      have hc : (f.at_.toList == (⟨#[]⟩ : ByteArray).toList) = false := by have := hb; revert this; cases (f.at_.toList == (⟨#[]⟩ : ByteArray).toList) <;> simp
      simp only [go_sem, underF, hc]
    · simp only [go_sem]
      refine hK _ _ ⟨by simp only [go_sem, h0], by simp only [go_sem, h1], by simp only [go_sem, h6], by simp only [go_sem, h5], ?_, rfl⟩
      have hc : (f.at_.toList == (⟨#[]⟩ : ByteArray).toList) = true := by have := hb; revert this; cases (f.at_.toList == (⟨#[]⟩ : ByteArray).toList) <;> simp
      simp only [go_sem, underF, hc]
  · have hge := eq_of_ge_b hk hge
    subst hge
    simp only [go_sem, h5]
    exact ⟨_, rfl, by rw [hH, List.take_length]⟩
end Go.Proofs.Ytjlbikpgjejkjaa
