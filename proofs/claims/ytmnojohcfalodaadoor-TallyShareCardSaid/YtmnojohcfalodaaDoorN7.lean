/-
  The sign of a sum; its order.
-/
import Derived.Test.YtmnojohcfalodaaDoorNa
import Derived.RowKit
namespace Go.Proofs.YtmnojohcfalodaaDoor
set_option linter.unusedVariables false
set_option linter.unusedSimpArgs false
open Go.RowKit
/-- the number that a sum stands for -/
def sv (n : Nat) : Int := if n < H383 then (n : Int) else (n : Int) - M384
/-- its place in the order -/
def key (n : Nat) : Nat := (n + H383) % M384
def cmpI (a b : Int) : Int := if a < b then -1 else if b < a then 1 else 0
theorem M384_2 : M384 = 2 * H383 := by decide
theorem key_sv (n : Nat) (h : n < M384) : (key n : Int) = sv n + H383 := by
  have h2 := M384_2
  unfold key sv
  generalize M384 = M at *
  generalize H383 = H at *
  subst h2
  split
  · rw [Nat.mod_eq_of_lt (by omega)]; omega
  · rw [Nat.mod_eq_sub_mod (by omega), Nat.mod_eq_of_lt (by omega)]; omega
theorem key_lt (n : Nat) : key n < M384 := Nat.mod_lt _ (by decide)
theorem xor_top (x : Nat) (hx : x < 18446744073709551616) : x ^^^ 9223372036854775808 = (x + 9223372036854775808) % 18446744073709551616 := by
  have e1 : (x ^^^ 9223372036854775808) / 2 ^ 63 = (x / 2 ^ 63) ^^^ 1 := by
    rw [Nat.xor_div_two_pow]
  have e2 : (x ^^^ 9223372036854775808) % 2 ^ 63 = x % 2 ^ 63 := by
    rw [Nat.xor_mod_two_pow]
    simp
  have h := Nat.div_add_mod (x ^^^ 9223372036854775808) (2 ^ 63)
  rw [e1, e2] at h
  have hh : x / 2 ^ 63 = 0 ∨ x / 2 ^ 63 = 1 := by omega
  rcases hh with hh | hh
  · rw [hh] at h
    simp at h
    omega
  · rw [hh] at h
    simp at h
    omega
theorem bxor_top (x : Nat) (hx : x < 18446744073709551616) : bits .xor .u64 (x : Int) 9223372036854775808 = (((x + 9223372036854775808) % 18446744073709551616 : Nat) : Int) := by
  rw [← xor_top x hx]
  exact u64_xor_nat x 9223372036854775808 hx (by decide)
/-- words, the highest first -/
def valL : List Nat → Nat
  | [] => 0
  | a :: l => a * 18446744073709551616 ^ l.length + valL l
def cmpL : List Nat → List Nat → Int
  | a :: l, b :: r => if a < b then -1 else if b < a then 1 else cmpL l r
  | _, _ => 0
theorem valL_lt : ∀ l : List Nat, (∀ a ∈ l, a < 18446744073709551616) → valL l < 18446744073709551616 ^ l.length
  | [], _ => by simp [valL]
  | a :: l, h => by
    have h1 := valL_lt l (fun b hb => h b (List.mem_cons_of_mem _ hb))
    have h2 : (a + 1) * 18446744073709551616 ^ l.length ≤ 18446744073709551616 * 18446744073709551616 ^ l.length := Nat.mul_le_mul_right _ (h a List.mem_cons_self)
    rw [Nat.add_mul, Nat.one_mul] at h2
    rw [List.length_cons, Nat.pow_succ, Nat.mul_comm _ 18446744073709551616]
    unfold valL
    omega
theorem cmpL_val : ∀ l r : List Nat, l.length = r.length → (∀ a ∈ l, a < 18446744073709551616) → (∀ a ∈ r, a < 18446744073709551616) → cmpL l r = if valL l < valL r then -1 else if valL r < valL l then 1 else 0
  | [], [], _, _, _ => rfl
  | [], _ :: _, h, _, _ => by simp at h
  | _ :: _, [], h, _, _ => by simp at h
  | a :: l, b :: r, h, hl, hr => by
    have hlen : l.length = r.length := by simpa using h
    have hl' := fun c hc => hl c (List.mem_cons_of_mem _ hc)
    have hr' := fun c hc => hr c (List.mem_cons_of_mem _ hc)
    have ih := cmpL_val l r hlen hl' hr'
    have v1 := valL_lt l hl'
    have v2 := valL_lt r hr'
    rw [← hlen] at v2
    unfold cmpL valL
    rw [ih, ← hlen]
    generalize 18446744073709551616 ^ l.length = P at *
    by_cases h1 : a < b
    · have h2 : (a + 1) * P ≤ b * P := Nat.mul_le_mul_right _ h1
      rw [Nat.add_mul, Nat.one_mul] at h2
      rw [if_pos h1, if_pos (by omega)]
    · rw [if_neg h1]
      by_cases h3 : b < a
      · have h2 : (b + 1) * P ≤ a * P := Nat.mul_le_mul_right _ h3
        rw [Nat.add_mul, Nat.one_mul] at h2
        rw [if_pos h3, if_neg (by omega), if_pos (by omega)]
      · have : a = b := by omega
        subst this
        rw [if_neg h3]
        simp only [Nat.add_lt_add_iff_left]
theorem val_words (n : Nat) (h : n < M384) : valL [wd n 5, wd n 4, wd n 3, wd n 2, wd n 1, wd n 0] = n := by
  conv => rhs; rw [wd_join n h]
  simp only [valL, List.length_cons, List.length_nil, Nat.zero_add, Nat.reduceAdd, Nat.reducePow, Nat.add_zero, Nat.mul_one]
  omega
theorem cmp_words (m n : Nat) (hm : m < M384) (hn : n < M384) : cmpL [wd m 5, wd m 4, wd m 3, wd m 2, wd m 1, wd m 0] [wd n 5, wd n 4, wd n 3, wd n 2, wd n 1, wd n 0] = cmpI m n := by
  have hw : ∀ n, ∀ a ∈ [wd n 5, wd n 4, wd n 3, wd n 2, wd n 1, wd n 0], a < 18446744073709551616 := by
    intro n a ha
    simp only [List.mem_cons, List.not_mem_nil, or_false] at ha
    rcases ha with rfl | rfl | rfl | rfl | rfl | rfl <;> exact wd_lt _ _
  rw [cmpL_val [wd m 5, wd m 4, wd m 3, wd m 2, wd m 1, wd m 0] [wd n 5, wd n 4, wd n 3, wd n 2, wd n 1, wd n 0] rfl (hw m) (hw n), val_words m hm, val_words n hn]
  unfold cmpI
  simp only [Int.ofNat_lt]
theorem cmp_key (m n : Nat) (hm : m < M384) (hn : n < M384) : cmpI (key m) (key n) = cmpI (sv m) (sv n) := by
  rw [key_sv m hm, key_sv n hn]
  unfold cmpI
  simp only [Int.add_lt_add_iff_right]
theorem key_words (n : Nat) (hn : n < M384) : wd (key n) 5 = (wd n 5 + 9223372036854775808) % 18446744073709551616 ∧ ∀ j, j < 5 → wd (key n) j = wd n j := by
  obtain ⟨i, hi⟩ : ∃ i, i = 5 := ⟨_, rfl⟩
  constructor
  · unfold key
    rw [← hi, wd_mod _ _ (by omega)]
    unfold wd
    rw [H383_eq (64 * i + 63) (by omega), Nat.pow_add, Nat.add_mul_div_left _ _ (by exact Nat.pos_of_ne_zero (by simp)), Nat.add_mod, show (2 : Nat) ^ 63 = 9223372036854775808 from rfl]
  · intro j hj
    unfold key
    rw [wd_mod _ _ (by omega)]
    unfold wd
    obtain ⟨d, hd⟩ : ∃ d, 383 = 64 * j + (64 + d) := ⟨383 - 64 * j - 64, by omega⟩
    rw [H383_eq _ hd.symm, Nat.pow_add, Nat.add_mul_div_left _ _ (by exact Nat.pos_of_ne_zero (by simp)), Nat.pow_add, show (2 : Nat) ^ 64 = 18446744073709551616 from rfl, Nat.add_mul_mod_self_left]
end Go.Proofs.YtmnojohcfalodaaDoor
