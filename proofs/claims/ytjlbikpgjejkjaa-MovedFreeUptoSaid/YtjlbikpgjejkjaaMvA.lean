/- moved: a long product (of one and a number); a list repeated. -/
import Derived.Test.YtjlbikpgjejkjaaMvZ
set_option linter.unusedSimpArgs false
set_option linter.unusedVariables false
namespace Go.Proofs.Ytjlbikpgjejkjaa.Mv
open Go.Aw Go.Aw.D Go.Proofs Ty
set_option maxRecDepth 100000

abbrev uint (n : Int) : AV := .v (.int .u64 n)
theorem uand {a b : Nat} (ha : a < 18446744073709551616) (hb : b < 18446744073709551616) : bitV .and .u64 (a : Int) (b : Int) = ((a &&& b : Nat) : Int) := by
  have h : ((BitVec.ofInt 64 (a : Int) &&& BitVec.ofInt 64 (b : Int)).toNat : Int) = ((a &&& b : Nat) : Int) := by
    rw [BitVec.toNat_and, BitVec.toNat_ofInt, BitVec.toNat_ofInt]
    have h1 : ((a : Int) % ((2 ^ 64 : Nat) : Int)).toNat = a := by omega
    have h2 : ((b : Int) % ((2 ^ 64 : Nat) : Int)).toNat = b := by omega
    rw [h1, h2]
  refine Eq.trans (congrArg IntKind.u64.wrap h) ?_
  have := @Nat.and_le_left a b
  exact uwrap_in (by omega)
theorem ushr (m : Nat) : shV .shr .u64 (m : Int) 32 = ((m / 4294967296 : Nat) : Int) := by
  show (m : Int).fdiv (2 ^ 32) = _
  rw [Int.fdiv_eq_ediv_of_nonneg _ (by decide)]
  omega
theorem mul64_c (n : Nat) (hn : n < 9223372036854775808) : PC Try.prog 104 [uint 1, uint n] (.tup [uint 0, uint n]) := by
  have a1 : bitV .and .u64 1 4294967295 = 1 := by decide +kernel
  have a0 : bitV .and .u64 0 4294967295 = 0 := by decide +kernel
  have s1 : shV .shr .u64 1 32 = 0 := by decide +kernel
  have s0 : shV .shr .u64 0 32 = 0 := by decide +kernel
  have w0 : IntKind.u64.wrap 0 = 0 := by decide +kernel
  have an : bitV .and .u64 (n : Int) 4294967295 = ((n % 4294967296 : Nat) : Int) := by
    have := uand (a := n) (b := 4294967295) (by omega) (by omega)
    rw [show n &&& 4294967295 = n % 4294967296 from Nat.and_two_pow_sub_one_eq_mod n 32] at this
    exact this
  have wl : IntKind.u64.wrap ((n % 4294967296 : Nat) : Int) = ((n % 4294967296 : Nat) : Int) := uwrap_in (by omega)
  have wh : IntKind.u64.wrap ((n / 4294967296 : Nat) : Int) = ((n / 4294967296 : Nat) : Int) := uwrap_in (by omega)
  have wn : IntKind.u64.wrap (n : Int) = (n : Int) := uwrap_in (by omega)
  have e1 : n % 4294967296 / 4294967296 = 0 := by omega
  have e2 : n / 4294967296 / 4294967296 = 0 := by omega
  refine PC.body (c := Try.f104.body.getD .skip) (fun _ => false) mixed Try.func104 rfl (by kernel_rfl) ?_
  unfold Try.f104
  simp only [Option.getD_some]
  simp only [go_sem]
  simp only [go_sem, a1, s1, an, ushr]
  simp only [Int.zero_mul, Int.one_mul, w0, wl, wh, wn, Int.zero_add, Int.add_zero, ushr, e1, e2, a0, s0, Int.natCast_zero]
  refine ⟨by decide, by decide, by decide, by decide, by decide, ?_⟩
  exact .refl _
theorem mul_c (n : Nat) (hn : n < 9223372036854775808) : PC Try.prog 82 [uint 1, uint n] (.tup [uint 0, uint n]) := by
  refine PC.body (c := Try.f82.body.getD .skip) (fun _ => false) mixed Try.func82 rfl (by kernel_rfl) ?_
  unfold Try.f82
  simp only [Option.getD_some]
  simp only [go_sem]
  refine acond_i (fun hb => by simp at hb) (fun _ => ?_)
  simp only [go_sem]
  refine PC.use (mul64_c n hn) ?_
  simp only [go_sem]
  exact .refl _
/-- a list of n numbers of which the first m are x -/
def part (x : Int) (m n : Nat) : List Int := List.replicate m x ++ List.replicate (n - m) 0
theorem part_copy {x : Int} {m n k : Nat} (h : m + k ≤ n) (hk : k ≤ m) : ((part x m n).map encInt).take m ++ (((part x m n).map encInt).take m).take k ++ ((part x m n).map encInt).drop (m + k) = (part x (m + k) n).map encInt := by
  unfold part
  simp only [List.map_append, List.map_replicate, List.take_append, List.take_replicate, List.length_replicate, List.drop_append, List.drop_replicate]
  rw [Nat.min_self, Nat.sub_self, Nat.zero_min, List.replicate_zero, List.append_nil, Nat.min_eq_left hk, Nat.min_zero, List.replicate_zero, List.append_nil, ← List.append_assoc, List.replicate_append_replicate, show m - (m + k) = 0 by omega, List.replicate_zero, List.append_nil, show n - m - (m + k - m) = n - (m + k) by omega]
theorem part_one (x : Int) (n : Nat) : ([encInt x] : List (List AV)).take (min 1 n) ++ ((List.replicate n (encInt 0)).drop (min 1 n)) = (part x (min 1 n) n).map encInt := by
  unfold part
  cases n with
  | zero => rfl
  | succ n => rw [show min 1 (n + 1) = 1 by omega]; simp
theorem ints_all : ∀ l : List Int, allLen 1 (l.map encInt)
  | [] => trivial
  | _ :: r => ⟨rfl, ints_all r⟩
theorem allLen_take {n : Nat} : ∀ {l : List (List AV)} {k : Nat}, allLen n l → allLen n (l.take k)
  | [], k, _ => by simp [allLen]
  | _ :: _, 0, _ => trivial
  | _ :: _, _ + 1, h => ⟨h.1, allLen_take h.2⟩
theorem repeat_c (x : Int) (n : Nat) (hn : n ≤ 1048576) : NC Try.prog 47 [.sl [[int x]], int n] (iRow (List.replicate n x)) .os := by
  have wn : IntKind.u64.wrap (n : Int) = (n : Int) := uwrap_in (by omega)
  have wi : IntKind.i64.wrap (n : Int) = (n : Int) := wrap_in (by omega)
  refine NC.body (c := Try.f47.body.getD .skip) (fun _ => false) mixed Try.func47 rfl (by kernel_rfl) ?_
  unfold Try.f47
  simp only [Option.getD_some]
  simp only [go_sem]
  refine acond_i (fun hb => by simp at hb; omega) (fun _ => ?_)
  simp only [go_sem, wn]
  refine PC.use (mul_c n (by omega)) ?_
  simp only [go_sem]
  refine acond_i (fun hb => by simp at hb; omega) (fun _ => ?_)
  simp only [go_sem, wi]
  refine ⟨by omega, ?_⟩
  refine anew_i fun j hj => ?_
  simp only [go_sem]
  refine wcopy_i el32 (updH_same _ _ _) (.inl ⟨rfl, rfl, rfl⟩) (.inl rfl) rfl (by simp [allLen]) ?_
  simp only [go_sem, updH_same]
  refine ⟨fun ρ H => ∃ m : Nat, m ≤ n ∧ (0 < m ∨ n = 0) ∧ ρ 7 = .os j ∧ ρ 8 = int m ∧ H j = some (iRow (part x m n)), fun ρ _ => n - natOf (ρ 8), ⟨min 1 n, by omega, by omega, by simp only [go_sem], by simp only [go_sem, List.length_cons, List.length_nil, Nat.zero_add, List.length_replicate], ?_⟩, ?_⟩
  · rw [updH_same]
    have := part_one x n
    simp only [List.take_zero, List.nil_append, Nat.zero_add, List.length_cons, List.length_nil, List.length_replicate]
    show _ = some (⟨3, 1, (part x (min 1 n) n).map encInt⟩ : Row)
    rw [← this]
    rfl
  clear hj
  rintro ρ H ⟨m, hm, hpos, h7, h8, hj⟩
  have hlen : (part x m n).length = n := by simp [part]; omega
  simp only [go_sem, h7, h8, hj, hlen]
  refine acond_i (fun hlt => ?_) (fun hge => ?_)
  · simp only [go_sem]
    have hlt : m < n := by simpa using hlt
    refine adraw_m [(0, true), (1, true), (2, true), (3, true), (4, true), (5, true), (6, true), (7, false), (8, false), (9, false)] (by kernel_rfl) ?_
    simp only [go_sem, h7, h8, hj, hlen]
    refine ⟨by omega, by omega, ?_⟩
    have hml : ((part x m n).map encInt).take m = (((part x m n).map encInt).take m).drop 0 := rfl
    refine wcopy_i (news := ((part x m n).map encInt).take m) el32 hj (.inr ⟨n, rfl, rfl⟩) (.inr (.inr ⟨j, _, 0, m, rfl, hj, rfl⟩)) rfl (allLen_take (ints_all _)) ?_
    have hl2 : (((part x m n).map encInt).take m).length = m := by rw [List.length_take, List.length_map, hlen]; omega
    simp only [go_sem, h7, h8, hl2]
    rw [wrap_in (by omega)]
    refine ⟨⟨m + min m (n - m), by omega, by omega, by push_cast; rfl, ?_⟩, by simp only [natOf_int]; omega⟩
    rw [part_copy (by omega) (by omega)]
  · have hge : m = n := by simp at hge; omega
    subst hge
    simp only [go_sem, h7]
    refine ⟨j, rfl, ?_⟩
    rw [hj]
    simp [part]
end Go.Proofs.Ytjlbikpgjejkjaa.Mv
