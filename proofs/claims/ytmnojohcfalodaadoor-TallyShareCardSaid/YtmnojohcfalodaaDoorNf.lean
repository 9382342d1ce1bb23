/-
  Plain numbers: the sum of one float32; a sum taken so many times.
-/
import Derived.Test.YtmnojohcfalodaaDoorNe
namespace Go.Proofs.YtmnojohcfalodaaDoor
set_option linter.unusedVariables false
set_option linter.unusedSimpArgs false
theorem sv_unique (x : Nat) (y t : Int) (hx : x < M384) (h1 : -(H383 : Int) ≤ y) (h2 : y < H383) (h : (x : Int) = y + M384 * t) : sv x = y := by
  have e := M384_2
  have hp : 0 < H383 := by decide
  unfold sv
  generalize M384 = M at *
  generalize H383 = H at *
  subst e
  have ht : t = 0 ∨ t = 1 := by
    rcases Int.lt_or_le t 0 with h3 | h3
    · have : ((2 * H : Nat) : Int) * t ≤ ((2 * H : Nat) : Int) * (-1) := Int.mul_le_mul_of_nonneg_left (by omega) (by omega)
      omega
    · rcases Int.lt_or_le t 2 with h4 | h4
      · omega
      · have : ((2 * H : Nat) : Int) * 2 ≤ ((2 * H : Nat) : Int) * t := Int.mul_le_mul_of_nonneg_left h4 (by omega)
        omega
  rcases ht with rfl | rfl
  · rw [if_pos (by omega)]; omega
  · rw [if_neg (by omega)]; omega
theorem sv_form (n : Nat) : ∃ c : Int, (n : Int) = sv n + M384 * c := by
  unfold sv
  split
  · exact ⟨0, by omega⟩
  · exact ⟨1, by omega⟩
theorem sv_mul (n k : Nat) (h1 : -(H383 : Int) ≤ sv n * k) (h2 : sv n * k < H383) : sv (n * k % M384) = sv n * k := by
  obtain ⟨c, hc⟩ := sv_form n
  refine sv_unique _ _ (c * k - ((n * k / M384 : Nat) : Int)) (Nat.mod_lt _ (by decide)) h1 h2 ?_
  have e := Nat.div_add_mod (n * k) M384
  have e2 : ((n * k % M384 : Nat) : Int) = ((n * k : Nat) : Int) - M384 * ((n * k / M384 : Nat) : Int) := by
    have e3 : ((n * k : Nat) : Int) = ((M384 * (n * k / M384) + n * k % M384 : Nat) : Int) := congrArg _ e.symm
    rw [e3, Int.natCast_add, Int.natCast_mul]
    omega
  rw [e2, Int.natCast_mul, hc, Int.add_mul, Int.mul_sub, Int.mul_assoc]
  omega
theorem mag_small (v k : Nat) (h : v < 2139095040) (hk : k ≤ 1099511627776) : mag v * k < H383 := by
  obtain ⟨e, he⟩ : ∃ e, e = 253 := ⟨_, rfl⟩
  obtain ⟨d, hd⟩ : ∃ d, 383 = e + (64 + d) := ⟨66, by omega⟩
  have h1 := mag_bound v e h he
  rw [H383_eq _ hd.symm, Nat.pow_add, Nat.pow_add]
  have hp : 0 < 2 ^ e := Nat.pow_pos (by decide)
  have hq : 0 < 2 ^ d := Nat.pow_pos (by decide)
  generalize 2 ^ e = P at *
  generalize 2 ^ d = Q at *
  have h2 : mag v * k ≤ (16777216 * P) * 1099511627776 := Nat.mul_le_mul (Nat.le_of_lt h1) hk
  have h3 : P * (2 ^ 64 * 1) ≤ P * (2 ^ 64 * Q) := Nat.mul_le_mul_left _ (Nat.mul_le_mul_left _ hq)
  have h4 : (16777216 * P) * 1099511627776 = P * (2 ^ 64 * 1) := by rw [Nat.mul_comm 16777216 P, Nat.mul_assoc]
  have h5 : mag v * k < P * (2 ^ 64 * 1) := by
    rcases Nat.eq_zero_or_pos k with h0 | h0
    · subst h0; rw [Nat.mul_zero]; exact Nat.mul_pos hp (by decide)
    · have : mag v * k < (16777216 * P) * k := Nat.mul_lt_mul_of_pos_right h1 h0
      have h6 : (16777216 * P) * k ≤ (16777216 * P) * 1099511627776 := Nat.mul_le_mul_left _ hk
      omega
  omega
theorem fmag_mag (u : Nat) (hu : u < 4294967296) : fmag u = mag (u % 2147483648) := by
  unfold fmag mag
  rw [show u / 8388608 % 256 = u % 2147483648 / 8388608 by omega, show u % 8388608 = u % 2147483648 % 8388608 by omega]
  by_cases h : u % 2147483648 < 8388608
  · rw [if_pos (by omega), if_pos h]; omega
  · rw [if_neg (by omega), if_neg h]
theorem sv_one (u : Nat) (hu : u < 4294967296) (hf : u % 2147483648 < 2139095040) : sv (putN 0 u) = fvI u ∧ putN 0 u < M384 := by
  have hfin : fin32 u = true := by unfold fin32; simp; omega
  have hm := mag_small (u % 2147483648) 1 hf (by decide)
  rw [Nat.mul_one] at hm
  have e : putN 0 u = fval u % M384 := by unfold putN; rw [hfin]; simp
  rw [e]
  refine ⟨?_, Nat.mod_lt _ (by decide)⟩
  unfold fval fvI
  rw [fmag_mag u hu]
  have e2 := M384_2
  generalize mag (u % 2147483648) = a at *
  have hp : 0 < H383 := by decide
  by_cases h : u / 2147483648 = 1
  · rw [if_pos h, if_pos h, Nat.mod_mod]
    by_cases h0 : a = 0
    · subst h0
      rw [Nat.sub_zero, Nat.mod_self]; decide
    · rw [Nat.mod_eq_of_lt (by omega)]
      refine sv_unique _ _ 1 (by omega) (by omega) (by omega) ?_
      omega
  · rw [if_neg h, if_neg h, Nat.mod_eq_of_lt (by omega)]
    refine sv_unique _ _ 0 (by omega) (by omega) (by omega) ?_
    omega
/-- a part of a sum, so many times -/
theorem sv_times (u k : Nat) (hu : u < 4294967296) (hf : u % 2147483648 < 2139095040) (hk : k ≤ 1099511627776) : sv (putN 0 u * k % M384) = fvI u * k := by
  have h := (sv_one u hu hf).1
  have hm := mag_small (u % 2147483648) k hf hk
  have hm' : ((mag (u % 2147483648) : Nat) : Int) * k < H383 := by exact_mod_cast hm
  have h0 : (0 : Int) ≤ ((mag (u % 2147483648) : Nat) : Int) * k := Int.mul_nonneg (by omega) (by omega)
  rw [← h]
  have e : sv (putN 0 u) * k = ((mag (u % 2147483648) : Nat) : Int) * k ∨ sv (putN 0 u) * k = -(((mag (u % 2147483648) : Nat) : Int) * k) := by
    rw [h]
    unfold fvI
    split
    · right; rw [Int.neg_mul]
    · left; rfl
  refine sv_mul _ _ ?_ ?_ <;> rcases e with e | e <;> rw [e] <;> omega
end Go.Proofs.YtmnojohcfalodaaDoor
