/-
  Merged: N1 N2 N3 N4 N5 N6 N8 N9.
-/
import Derived.Laws.MathBits
/- Plain numbers: a sum of 384 bits as a natural number, and its six words. -/
namespace Go.Proofs.YtmnojohcfalodaaDoor
set_option linter.unusedVariables false
set_option linter.unusedSimpArgs false

/-- word i of a number -/
def wd (n i : Nat) : Nat := n / 2 ^ (64 * i) % 18446744073709551616
def M384 : Nat := 39402006196394479212279040100143613805079739270465446667948293404245721771497210611414266254884915640806627990306816

theorem wd_lt (n i : Nat) : wd n i < 18446744073709551616 := Nat.mod_lt _ (by decide)

theorem wd0 (n : Nat) : wd n 0 = n % 18446744073709551616 := by simp [wd]
theorem wd_succ (n i : Nat) : wd n (i + 1) = wd (n / 18446744073709551616) i := by
  unfold wd
  rw [Nat.div_div_eq_div_mul, show 64 * (i + 1) = 64 + 64 * i by omega, Nat.pow_add]
/-- A number below 2^384 is its six words. -/
theorem wd_join (n : Nat) (h : n < M384) :
    n = wd n 0 + 18446744073709551616 * (wd n 1 + 18446744073709551616 * (wd n 2 + 18446744073709551616 * (wd n 3 + 18446744073709551616 * (wd n 4 + 18446744073709551616 * wd n 5)))) := by
  unfold M384 at h
  have e1 : wd n 1 = wd (n / 18446744073709551616) 0 := wd_succ n 0
  have e2 : wd n 2 = wd (n / 18446744073709551616 / 18446744073709551616) 0 := by rw [wd_succ n 1, wd_succ _ 0]
  have e3 : wd n 3 = wd (n / 18446744073709551616 / 18446744073709551616 / 18446744073709551616) 0 := by rw [wd_succ n 2, wd_succ _ 1, wd_succ _ 0]
  have e4 : wd n 4 = wd (n / 18446744073709551616 / 18446744073709551616 / 18446744073709551616 / 18446744073709551616) 0 := by rw [wd_succ n 3, wd_succ _ 2, wd_succ _ 1, wd_succ _ 0]
  have e5 : wd n 5 = wd (n / 18446744073709551616 / 18446744073709551616 / 18446744073709551616 / 18446744073709551616 / 18446744073709551616) 0 := by rw [wd_succ n 4, wd_succ _ 3, wd_succ _ 2, wd_succ _ 1, wd_succ _ 0]
  rw [e1, e2, e3, e4, e5]
  simp only [wd0]
  omega
/-- The words of a number that is given by words. -/
theorem wd_of (a0 a1 a2 a3 a4 a5 : Nat) (h0 : a0 < 18446744073709551616) (h1 : a1 < 18446744073709551616) (h2 : a2 < 18446744073709551616) (h3 : a3 < 18446744073709551616) (h4 : a4 < 18446744073709551616) (h5 : a5 < 18446744073709551616)
    (n : Nat) (h : n = a0 + 18446744073709551616 * (a1 + 18446744073709551616 * (a2 + 18446744073709551616 * (a3 + 18446744073709551616 * (a4 + 18446744073709551616 * a5))))) :
    wd n 0 = a0 ∧ wd n 1 = a1 ∧ wd n 2 = a2 ∧ wd n 3 = a3 ∧ wd n 4 = a4 ∧ wd n 5 = a5 := by
  subst h
  simp only [wd_succ, wd0]
  refine ⟨?_, ?_, ?_, ?_, ?_, ?_⟩ <;> omega
theorem val_step (a r K : Nat) (ha : a < 18446744073709551616) (h : r < K) : a + 18446744073709551616 * r < 18446744073709551616 * K := by
  have : 18446744073709551616 * (r + 1) ≤ 18446744073709551616 * K := Nat.mul_le_mul_left _ h
  omega
theorem val_lt (a0 a1 a2 a3 a4 a5 : Nat) (h0 : a0 < 18446744073709551616) (h1 : a1 < 18446744073709551616) (h2 : a2 < 18446744073709551616) (h3 : a3 < 18446744073709551616) (h4 : a4 < 18446744073709551616) (h5 : a5 < 18446744073709551616) :
    a0 + 18446744073709551616 * (a1 + 18446744073709551616 * (a2 + 18446744073709551616 * (a3 + 18446744073709551616 * (a4 + 18446744073709551616 * a5)))) < M384 :=
  val_step _ _ _ h0 (val_step _ _ _ h1 (val_step _ _ _ h2 (val_step _ _ _ h3 (val_step _ _ _ h4 h5))))
/-- any six words are a number's -/
theorem wd_all (a0 a1 a2 a3 a4 a5 : Nat) (h0 : a0 < 18446744073709551616) (h1 : a1 < 18446744073709551616) (h2 : a2 < 18446744073709551616) (h3 : a3 < 18446744073709551616) (h4 : a4 < 18446744073709551616) (h5 : a5 < 18446744073709551616) :
    ∃ n, n < M384 ∧ a0 = wd n 0 ∧ a1 = wd n 1 ∧ a2 = wd n 2 ∧ a3 = wd n 3 ∧ a4 = wd n 4 ∧ a5 = wd n 5 := by
  obtain ⟨e0, e1, e2, e3, e4, e5⟩ := wd_of a0 a1 a2 a3 a4 a5 h0 h1 h2 h3 h4 h5 _ rfl
  exact ⟨_, val_lt _ _ _ _ _ _ h0 h1 h2 h3 h4 h5, e0.symm, e1.symm, e2.symm, e3.symm, e4.symm, e5.symm⟩
theorem wd_ext (m n : Nat) (hm : m < M384) (hn : n < M384) (h0 : wd m 0 = wd n 0) (h1 : wd m 1 = wd n 1) (h2 : wd m 2 = wd n 2) (h3 : wd m 3 = wd n 3) (h4 : wd m 4 = wd n 4) (h5 : wd m 5 = wd n 5) : m = n := by
  rw [wd_join m hm, wd_join n hn, h0, h1, h2, h3, h4, h5]

/-! Add64 and Sub64 -/
def cb (p : Bool) : Int := if p then 1 else 0
def adw (x y : Nat) (p : Bool) : Nat := (x + y + p.toNat) % 18446744073709551616
def adc (x y : Nat) (p : Bool) : Bool := decide (18446744073709551616 ≤ x + y + p.toNat)
def sbw (x y : Nat) (p : Bool) : Nat := (x + 18446744073709551616 - y - p.toNat) % 18446744073709551616
def sbc (x y : Nat) (p : Bool) : Bool := decide (x < y + p.toNat)

theorem adw_eq (x y : Nat) (p : Bool) (hx : x < 18446744073709551616) (hy : y < 18446744073709551616) : adw x y p + 18446744073709551616 * (adc x y p).toNat = x + y + p.toNat ∧ adw x y p < 18446744073709551616 ∧ (adc x y p).toNat ≤ 1 := by
  have hp : p.toNat ≤ 1 := by cases p <;> decide
  unfold adw adc
  by_cases h : 18446744073709551616 ≤ x + y + p.toNat
  · simp only [h, decide_true, Bool.toNat_true]; omega
  · simp only [h, decide_false, Bool.toNat_false]; omega
theorem sbw_eq (x y : Nat) (p : Bool) (hx : x < 18446744073709551616) (hy : y < 18446744073709551616) : sbw x y p + y + p.toNat = x + 18446744073709551616 * (sbc x y p).toNat ∧ sbw x y p < 18446744073709551616 ∧ (sbc x y p).toNat ≤ 1 := by
  have hp : p.toNat ≤ 1 := by cases p <;> decide
  unfold sbw sbc
  by_cases h : x < y + p.toNat
  · simp only [h, decide_true, Bool.toNat_true]; omega
  · simp only [h, decide_false, Bool.toNat_false]; omega

theorem add_chain {x0 x1 x2 x3 x4 x5 y0 y1 y2 y3 y4 y5 s0 s1 s2 s3 s4 s5 c0 c1 c2 c3 c4 c5 : Nat}
    (r0 : s0 + 18446744073709551616 * c0 = x0 + y0) (r1 : s1 + 18446744073709551616 * c1 = x1 + y1 + c0) (r2 : s2 + 18446744073709551616 * c2 = x2 + y2 + c1)
    (r3 : s3 + 18446744073709551616 * c3 = x3 + y3 + c2) (r4 : s4 + 18446744073709551616 * c4 = x4 + y4 + c3) (r5 : s5 + 18446744073709551616 * c5 = x5 + y5 + c4) :
    (x0 + 18446744073709551616 * (x1 + 18446744073709551616 * (x2 + 18446744073709551616 * (x3 + 18446744073709551616 * (x4 + 18446744073709551616 * x5))))) +
    (y0 + 18446744073709551616 * (y1 + 18446744073709551616 * (y2 + 18446744073709551616 * (y3 + 18446744073709551616 * (y4 + 18446744073709551616 * y5))))) =
    (s0 + 18446744073709551616 * (s1 + 18446744073709551616 * (s2 + 18446744073709551616 * (s3 + 18446744073709551616 * (s4 + 18446744073709551616 * s5))))) + M384 * c5 := by
  unfold M384; omega
theorem sub_chain {y0 y1 y2 y3 y4 y5 s0 s1 s2 s3 s4 s5 c0 c1 c2 c3 c4 c5 : Nat}
    (r0 : s0 + y0 = 18446744073709551616 * c0) (r1 : s1 + y1 + c0 = 18446744073709551616 * c1) (r2 : s2 + y2 + c1 = 18446744073709551616 * c2)
    (r3 : s3 + y3 + c2 = 18446744073709551616 * c3) (r4 : s4 + y4 + c3 = 18446744073709551616 * c4) (r5 : s5 + y5 + c4 = 18446744073709551616 * c5) :
    (s0 + 18446744073709551616 * (s1 + 18446744073709551616 * (s2 + 18446744073709551616 * (s3 + 18446744073709551616 * (s4 + 18446744073709551616 * s5))))) +
    (y0 + 18446744073709551616 * (y1 + 18446744073709551616 * (y2 + 18446744073709551616 * (y3 + 18446744073709551616 * (y4 + 18446744073709551616 * y5))))) = M384 * c5 := by
  unfold M384; omega

/-- The sum word by word is the sum. -/
theorem add_words (m n : Nat) (hm : m < M384) (hn : n < M384) :
    adw (wd m 0) (wd n 0) false = wd ((m + n) % M384) 0 ∧
    adw (wd m 1) (wd n 1) (adc (wd m 0) (wd n 0) false) = wd ((m + n) % M384) 1 ∧
    adw (wd m 2) (wd n 2) (adc (wd m 1) (wd n 1) (adc (wd m 0) (wd n 0) false)) = wd ((m + n) % M384) 2 ∧
    adw (wd m 3) (wd n 3) (adc (wd m 2) (wd n 2) (adc (wd m 1) (wd n 1) (adc (wd m 0) (wd n 0) false))) = wd ((m + n) % M384) 3 ∧
    adw (wd m 4) (wd n 4) (adc (wd m 3) (wd n 3) (adc (wd m 2) (wd n 2) (adc (wd m 1) (wd n 1) (adc (wd m 0) (wd n 0) false)))) = wd ((m + n) % M384) 4 ∧
    adw (wd m 5) (wd n 5) (adc (wd m 4) (wd n 4) (adc (wd m 3) (wd n 3) (adc (wd m 2) (wd n 2) (adc (wd m 1) (wd n 1) (adc (wd m 0) (wd n 0) false))))) = wd ((m + n) % M384) 5 := by
  have jm := wd_join m hm
  have jn := wd_join n hn
  have b0 := wd_lt m 0; have b1 := wd_lt m 1; have b2 := wd_lt m 2; have b3 := wd_lt m 3; have b4 := wd_lt m 4; have b5 := wd_lt m 5
  have d0 := wd_lt n 0; have d1 := wd_lt n 1; have d2 := wd_lt n 2; have d3 := wd_lt n 3; have d4 := wd_lt n 4; have d5 := wd_lt n 5
  generalize wd m 0 = x0 at *; generalize wd m 1 = x1 at *; generalize wd m 2 = x2 at *; generalize wd m 3 = x3 at *; generalize wd m 4 = x4 at *; generalize wd m 5 = x5 at *
  generalize wd n 0 = y0 at *; generalize wd n 1 = y1 at *; generalize wd n 2 = y2 at *; generalize wd n 3 = y3 at *; generalize wd n 4 = y4 at *; generalize wd n 5 = y5 at *
  obtain ⟨r0, l0, k0⟩ := adw_eq x0 y0 false b0 d0
  obtain ⟨r1, l1, k1⟩ := adw_eq x1 y1 (adc x0 y0 false) b1 d1
  obtain ⟨r2, l2, k2⟩ := adw_eq x2 y2 (adc x1 y1 (adc x0 y0 false)) b2 d2
  obtain ⟨r3, l3, k3⟩ := adw_eq x3 y3 (adc x2 y2 (adc x1 y1 (adc x0 y0 false))) b3 d3
  obtain ⟨r4, l4, k4⟩ := adw_eq x4 y4 (adc x3 y3 (adc x2 y2 (adc x1 y1 (adc x0 y0 false)))) b4 d4
  obtain ⟨r5, l5, k5⟩ := adw_eq x5 y5 (adc x4 y4 (adc x3 y3 (adc x2 y2 (adc x1 y1 (adc x0 y0 false))))) b5 d5
  simp only [Bool.toNat_false, Nat.add_zero] at r0
  have ch := add_chain r0 r1 r2 r3 r4 r5
  rw [← jm, ← jn] at ch
  have vl := val_lt _ _ _ _ _ _ l0 l1 l2 l3 l4 l5
  have h := wd_of _ _ _ _ _ _ l0 l1 l2 l3 l4 l5 ((m + n) % M384) (by rw [ch, Nat.add_mul_mod_self_left, Nat.mod_eq_of_lt vl])
  exact ⟨h.1.symm, h.2.1.symm, h.2.2.1.symm, h.2.2.2.1.symm, h.2.2.2.2.1.symm, h.2.2.2.2.2.symm⟩
theorem sub_words (n : Nat) (hn : n < M384) :
    sbw 0 (wd n 0) false = wd ((M384 - n) % M384) 0 ∧
    sbw 0 (wd n 1) (sbc 0 (wd n 0) false) = wd ((M384 - n) % M384) 1 ∧
    sbw 0 (wd n 2) (sbc 0 (wd n 1) (sbc 0 (wd n 0) false)) = wd ((M384 - n) % M384) 2 ∧
    sbw 0 (wd n 3) (sbc 0 (wd n 2) (sbc 0 (wd n 1) (sbc 0 (wd n 0) false))) = wd ((M384 - n) % M384) 3 ∧
    sbw 0 (wd n 4) (sbc 0 (wd n 3) (sbc 0 (wd n 2) (sbc 0 (wd n 1) (sbc 0 (wd n 0) false)))) = wd ((M384 - n) % M384) 4 ∧
    sbw 0 (wd n 5) (sbc 0 (wd n 4) (sbc 0 (wd n 3) (sbc 0 (wd n 2) (sbc 0 (wd n 1) (sbc 0 (wd n 0) false))))) = wd ((M384 - n) % M384) 5 := by
  have jn := wd_join n hn
  have d0 := wd_lt n 0; have d1 := wd_lt n 1; have d2 := wd_lt n 2; have d3 := wd_lt n 3; have d4 := wd_lt n 4; have d5 := wd_lt n 5
  generalize wd n 0 = y0 at *; generalize wd n 1 = y1 at *; generalize wd n 2 = y2 at *; generalize wd n 3 = y3 at *; generalize wd n 4 = y4 at *; generalize wd n 5 = y5 at *
  obtain ⟨r0, l0, k0⟩ := sbw_eq 0 y0 false (by decide) d0
  obtain ⟨r1, l1, k1⟩ := sbw_eq 0 y1 (sbc 0 y0 false) (by decide) d1
  obtain ⟨r2, l2, k2⟩ := sbw_eq 0 y2 (sbc 0 y1 (sbc 0 y0 false)) (by decide) d2
  obtain ⟨r3, l3, k3⟩ := sbw_eq 0 y3 (sbc 0 y2 (sbc 0 y1 (sbc 0 y0 false))) (by decide) d3
  obtain ⟨r4, l4, k4⟩ := sbw_eq 0 y4 (sbc 0 y3 (sbc 0 y2 (sbc 0 y1 (sbc 0 y0 false)))) (by decide) d4
  obtain ⟨r5, l5, k5⟩ := sbw_eq 0 y5 (sbc 0 y4 (sbc 0 y3 (sbc 0 y2 (sbc 0 y1 (sbc 0 y0 false))))) (by decide) d5
  simp only [Bool.toNat_false] at r0
  simp only [Nat.zero_add, Nat.add_zero] at r0 r1 r2 r3 r4 r5
  have ch := sub_chain r0 r1 r2 r3 r4 r5
  rw [← jn] at ch
  have vl := val_lt _ _ _ _ _ _ l0 l1 l2 l3 l4 l5
  generalize (sbc 0 y5 (sbc 0 y4 (sbc 0 y3 (sbc 0 y2 (sbc 0 y1 (sbc 0 y0 false)))))).toNat = c5 at *
  have h := wd_of _ _ _ _ _ _ l0 l1 l2 l3 l4 l5 ((M384 - n) % M384) (by
    obtain rfl | rfl : c5 = 0 ∨ c5 = 1 := by omega
    · have : n = 0 := by omega
      subst this
      rw [Nat.sub_zero, Nat.mod_self]; omega
    · rw [Nat.mul_one] at ch
      rw [Nat.sub_eq_of_eq_add ch.symm, Nat.mod_eq_of_lt vl])
  exact ⟨h.1.symm, h.2.1.symm, h.2.2.1.symm, h.2.2.2.1.symm, h.2.2.2.2.1.symm, h.2.2.2.2.2.symm⟩
end Go.Proofs.YtmnojohcfalodaaDoor
/- Plain numbers: the units of a float32, laid into six words. -/
namespace Go.Proofs.YtmnojohcfalodaaDoor
set_option linter.unusedVariables false
set_option linter.unusedSimpArgs false

theorem wd_shift_ge (n a j : Nat) (b : Nat) : wd (n * 2 ^ (64 * a + b)) (a + j) = wd (n * 2 ^ b) j := by
  unfold wd
  rw [show n * 2 ^ (64 * a + b) = (n * 2 ^ b) * 2 ^ (64 * a) by rw [Nat.pow_add, Nat.mul_assoc, Nat.mul_comm (2 ^ b)],
    show 64 * (a + j) = 64 * a + 64 * j by omega, Nat.pow_add (2) (64 * a), ← Nat.div_div_eq_div_mul, Nat.mul_div_cancel _ (Nat.pow_pos (by decide))]
theorem wd_shift_lt (n a j : Nat) (b : Nat) (h : j < a) : wd (n * 2 ^ (64 * a + b)) j = 0 := by
  unfold wd
  obtain ⟨d, rfl⟩ : ∃ d, a = j + 1 + d := ⟨a - (j + 1), by omega⟩
  rw [show n * 2 ^ (64 * (j + 1 + d) + b) = (n * 2 ^ (64 * d + b) * 18446744073709551616) * 2 ^ (64 * j) by
    rw [show 64 * (j + 1 + d) + b = (64 * d + b) + 64 + 64 * j by omega, Nat.pow_add 2 (64 * d + b + 64), Nat.pow_add 2 (64 * d + b), ← Nat.mul_assoc, ← Nat.mul_assoc],
    Nat.mul_div_cancel _ (Nat.pow_pos (by decide)), Nat.mul_mod_left]
theorem wd_small (n j : Nat) (h : n < 2 ^ (64 * j)) : wd n j = 0 := by
  unfold wd; rw [Nat.div_eq_of_lt h]
theorem lead_lt (M b : Nat) (hM : M < 16777216) (hb : b ≤ 63) : M * 2 ^ b < 2 ^ 88 := by
  have h1 : 2 ^ b ≤ 2 ^ 63 := Nat.pow_le_pow_right (by decide) hb
  have h2 : M * 2 ^ b ≤ 16777215 * 2 ^ 63 := Nat.mul_le_mul (by omega) h1
  have h3 : 16777215 * 2 ^ 63 < 2 ^ 88 := by decide
  omega
/-- the words of M * 2^(64 a + b): below a: nothing -/
theorem lay_lo (M a b j : Nat) (h : j < a) : wd (M * 2 ^ (64 * a + b)) j = 0 := wd_shift_lt M a j b h
theorem lay_at (M a b : Nat) : wd (M * 2 ^ (64 * a + b)) a = M * 2 ^ b % 18446744073709551616 := by
  have := wd_shift_ge M a 0 b
  rw [Nat.add_zero] at this
  rw [this, wd0]
theorem lay_next (M a b : Nat) (hM : M < 16777216) (hb : b ≤ 63) : wd (M * 2 ^ (64 * a + b)) (a + 1) = M / 2 ^ (64 - b) := by
  rw [wd_shift_ge M a 1 b]
  have hl := lead_lt M b hM hb
  unfold wd
  rw [Nat.mod_eq_of_lt (by
    rw [Nat.div_lt_iff_lt_mul (by decide)]
    have : (2 : Nat) ^ 88 ≤ 18446744073709551616 * 2 ^ (64 * 1) := by decide
    omega)]
  have e : 2 ^ (64 * 1) = 2 ^ (64 - b) * 2 ^ b := by rw [← Nat.pow_add]; congr 1; omega
  rw [e, Nat.mul_div_mul_right _ _ (Nat.pow_pos (by decide))]
theorem lay_next0 (M a b : Nat) (hM : M < 16777216) (hb : b ≤ 40) : wd (M * 2 ^ (64 * a + b)) (a + 1) = 0 := by
  rw [lay_next M a b hM (by omega)]
  apply Nat.div_eq_of_lt
  have : 2 ^ 24 ≤ 2 ^ (64 - b) := Nat.pow_le_pow_right (by decide) (by omega)
  omega
theorem lay_hi (M a b j : Nat) (hM : M < 16777216) (hb : b ≤ 63) (hj : a + 2 ≤ j) : wd (M * 2 ^ (64 * a + b)) j = 0 := by
  obtain ⟨d, rfl⟩ : ∃ d, j = a + (d + 2) := ⟨j - a - 2, by omega⟩
  rw [wd_shift_ge]
  apply wd_small
  have hl := lead_lt M b hM hb
  have : 2 ^ 88 ≤ 2 ^ (64 * (d + 2)) := Nat.pow_le_pow_right (by decide) (by omega)
  omega
theorem lay_lt (M a b : Nat) (hM : M < 16777216) (hb : b ≤ 63) (ha : a ≤ 3) : M * 2 ^ (64 * a + b) < M384 := by
  have hl := lead_lt M b hM hb
  rw [show M * 2 ^ (64 * a + b) = M * 2 ^ b * 2 ^ (64 * a) by rw [Nat.pow_add, Nat.mul_assoc, Nat.mul_comm (2 ^ b)]]
  have h1 : 2 ^ (64 * a) ≤ 2 ^ 192 := Nat.pow_le_pow_right (by decide) (by omega)
  have h2 : M * 2 ^ b * 2 ^ (64 * a) ≤ 2 ^ 88 * 2 ^ 192 := Nat.mul_le_mul (by omega) h1
  have h3 : 2 ^ 88 * 2 ^ 192 < M384 := by decide
  omega

/-! float32 by its bits -/
def fin32 (u : Nat) : Bool := !(u / 8388608 % 256 == 255)
/-- its greatness, in units -/
def fmag (u : Nat) : Nat := if u / 8388608 % 256 = 0 then u % 8388608 else (u % 8388608 + 8388608) * 2 ^ (u / 8388608 % 256 - 1)
/-- its value modulo 2^384 -/
def fval (u : Nat) : Nat := if u / 2147483648 = 1 then (M384 - fmag u) % M384 else fmag u
/-- what Put gives -/
def putN (s u : Nat) : Nat := if fin32 u then (s + fval u) % M384 else s
end Go.Proofs.YtmnojohcfalodaaDoor
/- Plain numbers: the quotient digit of a division of two words by one. -/
namespace Go.Proofs.YtmnojohcfalodaaDoor
set_option linter.unusedVariables false
set_option linter.unusedSimpArgs false

/-- What stands at the head of the loop that mends a guessed digit: u: the upper word, v: the next half word, (a, b) the halves of the divisor; q: the guess, r: its rest. -/
structure Guess (u v a b q r : Nat) : Prop where
  ha : 2147483648 ≤ a
  ha2 : a < 4294967296
  hb : b < 4294967296
  hv : v < 4294967296
  hu : u < a * 4294967296 + b
  eq : q * a + r = u
  hr : r < 4294967296
  lo : (u * 4294967296 + v) / (a * 4294967296 + b) ≤ q

theorem Guess.q_le {u v a b q r : Nat} (h : Guess u v a b q r) : q ≤ 4294967297 := by
  obtain ⟨ha, ha2, hb, hv, hu, eq, hr, lo⟩ := h
  rcases Nat.lt_or_ge 4294967297 q with hq | hq
  · have : 4294967298 * a ≤ q * a := Nat.mul_le_mul_right _ hq
    omega
  · exact hq
theorem Guess.d_lt {u v a b q r : Nat} (h : Guess u v a b q r) : (u * 4294967296 + v) / (a * 4294967296 + b) < 4294967296 := by
  obtain ⟨ha, ha2, hb, hv, hu, eq, hr, lo⟩ := h
  rw [Nat.div_lt_iff_lt_mul (by omega)]
  omega
theorem Guess.over {u v a b q r : Nat} (h : Guess u v a b q r) : (u * 4294967296 + v) / (a * 4294967296 + b) < q ↔ r * 4294967296 + v < q * b := by
  obtain ⟨ha, ha2, hb, hv, hu, eq, hr, lo⟩ := h
  rw [Nat.div_lt_iff_lt_mul (by omega), Nat.mul_add, ← Nat.mul_assoc, ← eq, Nat.add_mul]
  omega
theorem Guess.prod {u v a b q r : Nat} (h : Guess u v a b q r) (hq : q < 4294967296) : q * b < 18446744073709551616 := by
  have : q * b ≤ 4294967295 * 4294967295 := Nat.mul_le_mul (by omega) (by have := h.hb; omega)
  omega
theorem Guess.next {u v a b q r : Nat} (h : Guess u v a b q r) (hq : (u * 4294967296 + v) / (a * 4294967296 + b) < q) (hr : r + a < 4294967296) : Guess u v a b (q - 1) (r + a) := by
  obtain ⟨ha, ha2, hb, hv, hu, eq, _, lo⟩ := h
  refine ⟨ha, ha2, hb, hv, hu, ?_, hr, Nat.le_sub_one_of_lt hq⟩
  obtain ⟨p, rfl⟩ : ∃ p, q = p + 1 := ⟨q - 1, by have := Nat.lt_of_le_of_lt (Nat.zero_le _) hq; omega⟩
  rw [Nat.add_sub_cancel, ← eq, Nat.add_mul, Nat.one_mul]
  omega
theorem Guess.broke {u v a b q r : Nat} (h : Guess u v a b q r) (hq : (u * 4294967296 + v) / (a * 4294967296 + b) < q) (hr : 4294967296 ≤ r + a) : q - 1 = (u * 4294967296 + v) / (a * 4294967296 + b) := by
  have hl := h.q_le
  obtain ⟨ha, ha2, hb, hv, hu, eq, _, lo⟩ := h
  obtain ⟨p, rfl⟩ : ∃ p, q = p + 1 := ⟨q - 1, by have := Nat.lt_of_le_of_lt (Nat.zero_le _) hq; omega⟩
  rw [Nat.add_sub_cancel]
  refine Nat.le_antisymm ?_ (Nat.le_of_lt_succ hq)
  rw [Nat.le_div_iff_mul_le (by omega), Nat.mul_add, ← Nat.mul_assoc]
  have hpb : p * b ≤ 4294967296 * 4294967295 := Nat.mul_le_mul (by omega) (by omega)
  rw [Nat.add_mul, Nat.one_mul] at eq
  omega
theorem Guess.start {u v a b : Nat} (ha : 2147483648 ≤ a) (ha2 : a < 4294967296) (hb : b < 4294967296) (hv : v < 4294967296) (hu : u < a * 4294967296 + b) : Guess u v a b (u / a) (u % a) := by
  refine ⟨ha, ha2, hb, hv, hu, by rw [Nat.mul_comm]; exact Nat.div_add_mod _ _, Nat.lt_trans (Nat.mod_lt _ (by omega)) ha2, ?_⟩
  have h1 : (u * 4294967296 + v) / (a * 4294967296 + b) ≤ (u * 4294967296 + v) / (a * 4294967296) := Nat.div_le_div_left (by omega) (by omega)
  have h2 : (u * 4294967296 + v) / (a * 4294967296) = u / a := by
    rw [Nat.mul_comm a, ← Nat.div_div_eq_div_mul]
    congr 1; omega
  omega

/-- The whole: two digits. Y is the divisor, U < Y the upper word, L the lower. -/
theorem two_digits (U L Y q1 u2 q0 R : Nat) (hY : 0 < Y) (e1 : Y * q1 + u2 = U * 4294967296 + L / 4294967296)
    (e0 : Y * q0 + R = u2 * 4294967296 + L % 4294967296) (hR : R < Y) :
    q1 * 4294967296 + q0 = (U * 18446744073709551616 + L) / Y ∧ R = (U * 18446744073709551616 + L) % Y := by
  have key : U * 18446744073709551616 + L = Y * (q1 * 4294967296 + q0) + R := by
    rw [Nat.mul_add, ← Nat.mul_assoc]; omega
  refine ⟨?_, ?_⟩
  · rw [key, Nat.mul_add_div hY, Nat.div_eq_of_lt hR, Nat.add_zero]
  · rw [key, Nat.mul_add_mod, Nat.mod_eq_of_lt hR]

/-- The division, its operands moved up by s bits. -/
theorem up_div (hi lo y s : Nat) (hs : s ≤ 63) (hlo : lo < 18446744073709551616) (hhi : hi < y) :
    let U := hi * 2 ^ s + lo / 2 ^ (64 - s)
    let L := lo * 2 ^ s % 18446744073709551616
    U < y * 2 ^ s ∧ (U * 18446744073709551616 + L) / (y * 2 ^ s) = (hi * 18446744073709551616 + lo) / y ∧ (U * 18446744073709551616 + L) % (y * 2 ^ s) / 2 ^ s = (hi * 18446744073709551616 + lo) % y := by
  intro U L
  have hp : 0 < 2 ^ s := Nat.pow_pos (by decide)
  have he : 2 ^ (64 - s) * 2 ^ s = 18446744073709551616 := by rw [← Nat.pow_add, show 64 - s + s = 64 by omega]
  have h1 : lo / 2 ^ (64 - s) < 2 ^ s := by
    rw [Nat.div_lt_iff_lt_mul (Nat.pow_pos (by decide)), Nat.mul_comm, he]; exact hlo
  have h2 : lo * 2 ^ s / 18446744073709551616 = lo / 2 ^ (64 - s) := by
    rw [← he, Nat.mul_div_mul_right _ _ hp]
  have key : U * 18446744073709551616 + L = (hi * 18446744073709551616 + lo) * 2 ^ s := by
    have h3 := Nat.div_add_mod (lo * 2 ^ s) 18446744073709551616
    rw [h2] at h3
    show (hi * 2 ^ s + lo / 2 ^ (64 - s)) * 18446744073709551616 + lo * 2 ^ s % 18446744073709551616 = _
    rw [Nat.add_mul (hi * 18446744073709551616) lo, Nat.mul_right_comm hi]
    generalize lo / 2 ^ (64 - s) = A at *
    generalize lo * 2 ^ s = B at *
    generalize hi * 2 ^ s = C at *
    omega
  refine ⟨?_, ?_, ?_⟩
  · have : (hi + 1) * 2 ^ s ≤ y * 2 ^ s := Nat.mul_le_mul_right _ hhi
    rw [Nat.add_mul, Nat.one_mul] at this
    show hi * 2 ^ s + lo / 2 ^ (64 - s) < _
    omega
  · rw [key, Nat.mul_div_mul_right _ _ hp]
  · rw [key, Nat.mul_mod_mul_right, Nat.mul_div_cancel _ hp]
end Go.Proofs.YtmnojohcfalodaaDoor
/- Plain numbers: the sign, the length, single bits and shifts of a sum, word by word. -/
namespace Go.Proofs.YtmnojohcfalodaaDoor
set_option linter.unusedVariables false
set_option linter.unusedSimpArgs false

def H383 : Nat := 19701003098197239606139520050071806902539869635232723333974146702122860885748605305707133127442457820403313995153408
theorem M384_eq (e : Nat) (h : e = 384) : M384 = 2 ^ e := by
  have h2 : (2 : Nat) ^ e = 2 ^ 128 * (2 ^ 128 * 2 ^ (e - 256)) := by
    rw [← Nat.pow_add, ← Nat.pow_add]
    exact congrArg (fun x => 2 ^ x) (by omega)
  rw [h2, show e - 256 = 128 by omega]; rfl
theorem H383_eq (e : Nat) (h : e = 383) : H383 = 2 ^ e := by
  have h2 : (2 : Nat) ^ e = 2 ^ 128 * (2 ^ 128 * 2 ^ (e - 256)) := by
    rw [← Nat.pow_add, ← Nat.pow_add]
    exact congrArg (fun x => 2 ^ x) (by omega)
  rw [h2, show e - 256 = 127 by omega]; rfl
theorem H383_lt : H383 < M384 := by decide
theorem M384_H383 : M384 = 2 * H383 := by decide
/-- the sign of a sum -/
def sgnN (n : Nat) : Int := if n = 0 then 0 else if n < H383 then 1 else -1

/-- from word i on -/
theorem div_words (n i : Nat) (h : n < 2 ^ (64 * (i + 1))) : n / 2 ^ (64 * i) = wd n i := by
  unfold wd
  rw [Nat.mod_eq_of_lt]
  rw [Nat.div_lt_iff_lt_mul (Nat.pow_pos (by decide)), show 18446744073709551616 = 2 ^ 64 from rfl, ← Nat.pow_add, show 64 + 64 * i = 64 * (i + 1) by omega]
  exact h
theorem lt_of_wd (n i : Nat) (h : n < 2 ^ (64 * (i + 1))) (h0 : wd n i = 0) : n < 2 ^ (64 * i) := by
  rw [← div_words n i h] at h0
  exact (Nat.div_eq_zero_iff_lt (Nat.pow_pos (by decide))).1 h0
theorem lt_pow6 (n : Nat) (h : n < M384) (i : Nat) (hi : i = 5) : n < 2 ^ (64 * (i + 1)) := by
  rw [M384_eq (64 * (i + 1)) (by omega)] at h; exact h
theorem top_word (n : Nat) (h : n < M384) : wd n 5 / 9223372036854775808 = if n < H383 then 0 else 1 := by
  obtain ⟨i, hi⟩ : ∃ i, i = 5 := ⟨_, rfl⟩
  rw [← hi, ← div_words n i (lt_pow6 n h i hi), show 9223372036854775808 = 2 ^ 63 from rfl, Nat.div_div_eq_div_mul, ← Nat.pow_add, ← H383_eq (64 * i + 63) (by omega)]
  have := M384_H383
  split
  · rename_i h1; exact Nat.div_eq_of_lt h1
  · rename_i h1
    refine Nat.le_antisymm ?_ ?_
    · refine Nat.le_of_lt_succ ?_
      rw [Nat.div_lt_iff_lt_mul (by decide)]; omega
    · rw [Nat.le_div_iff_mul_le (by decide)]; omega
theorem len_at (n i : Nat) (h : n < 2 ^ (64 * (i + 1))) (h0 : wd n i ≠ 0) : bitLen n = 64 * i + bitLen (wd n i) := by
  rw [← div_words n i h] at h0 ⊢
  exact bitLen_shift n (64 * i) h0
theorem bit_word (n i : Nat) : wd n (i / 64) / 2 ^ (i % 64) % 2 = n / 2 ^ i % 2 := by
  unfold wd
  have h1 : 2 ^ i = 2 ^ (64 * (i / 64)) * 2 ^ (i % 64) := by rw [← Nat.pow_add]; congr 1; omega
  rw [h1, ← Nat.div_div_eq_div_mul]
  generalize n / 2 ^ (64 * (i / 64)) = m
  have h2 : i % 64 < 64 := Nat.mod_lt _ (by decide)
  generalize i % 64 = r at *
  have h3 : 18446744073709551616 = 2 ^ r * (2 * 2 ^ (63 - r)) := by
    rw [← Nat.mul_assoc, ← Nat.pow_succ, ← Nat.pow_add, show r + 1 + (63 - r) = 64 by omega]
  rw [h3, Nat.mod_mul_right_div_self, Nat.mod_mul_right_mod]

/-! moved down -/
theorem shr_word (m r : Nat) (hr : r ≤ 64) : m / 2 ^ r % 18446744073709551616 = m % 18446744073709551616 / 2 ^ r + m / 18446744073709551616 % 18446744073709551616 * 2 ^ (64 - r) % 18446744073709551616 := by
  have e : 2 ^ (64 - r) * 2 ^ r = 18446744073709551616 := by rw [← Nat.pow_add, show 64 - r + r = 64 by omega]
  have hp : 0 < 2 ^ r := Nat.pow_pos (by decide)
  have hq : 0 < 2 ^ (64 - r) := Nat.pow_pos (by decide)
  have h1 : m / 18446744073709551616 % 18446744073709551616 * 2 ^ (64 - r) % 18446744073709551616 = m / 18446744073709551616 % 2 ^ r * 2 ^ (64 - r) := by
    have : ∀ x : Nat, x * 2 ^ (64 - r) % 18446744073709551616 = x % 2 ^ r * 2 ^ (64 - r) := by
      intro x; rw [← e, Nat.mul_comm (2 ^ (64 - r)), Nat.mul_mod_mul_right]
    rw [this]
    congr 1
    have hd : 2 ^ r ∣ 18446744073709551616 := ⟨2 ^ (64 - r), by rw [Nat.mul_comm]; exact e.symm⟩
    exact Nat.mod_mod_of_dvd _ hd
  rw [h1]
  have h2 : m % 18446744073709551616 / 2 ^ r = m / 2 ^ r % 2 ^ (64 - r) := by
    rw [← e, Nat.mul_comm, Nat.mod_mul_right_div_self]
  rw [h2]
  have h3 : m / 18446744073709551616 = m / 2 ^ r / 2 ^ (64 - r) := by rw [Nat.div_div_eq_div_mul, Nat.mul_comm (2 ^ r), e]
  rw [h3, ← e]
  rw [Nat.mod_mul]
  rw [Nat.mul_comm (2 ^ (64 - r)) (_ % _)]
theorem down_word (n q r j : Nat) (hr : r ≤ 64) : wd (n / 2 ^ (64 * q + r)) j = wd n (j + q) / 2 ^ r + wd n (j + q + 1) * 2 ^ (64 - r) % 18446744073709551616 := by
  have h := shr_word (n / 2 ^ (64 * (j + q))) r hr
  have e1 : wd (n / 2 ^ (64 * q + r)) j = n / 2 ^ (64 * (j + q)) / 2 ^ r % 18446744073709551616 := by
    unfold wd
    rw [Nat.div_div_eq_div_mul, Nat.div_div_eq_div_mul, ← Nat.pow_add, ← Nat.pow_add]
    congr 3; omega
  rw [e1, h]
  unfold wd
  rw [Nat.div_div_eq_div_mul, show 18446744073709551616 = 2 ^ 64 from rfl, ← Nat.pow_add, show 64 * (j + q + 1) = 64 * (j + q) + 64 by omega]
theorem down_word0 (n q j : Nat) : wd (n / 2 ^ (64 * q + 0)) j = wd n (j + q) := by
  rw [down_word n q 0 j (by omega)]
  rw [show 2 ^ (64 - 0) = 18446744073709551616 from rfl, Nat.mul_mod_left]
  simp
theorem wd_six (n i : Nat) (h : n < M384) (hi : 6 ≤ i) : wd n i = 0 := by
  unfold wd
  rw [Nat.div_eq_of_lt, Nat.zero_mod]
  obtain ⟨k, hk⟩ : ∃ k, k = 5 := ⟨_, rfl⟩
  exact Nat.lt_of_lt_of_le (lt_pow6 n h k hk) (Nat.pow_le_pow_right (by decide) (by omega))
theorem down_lt (n k : Nat) (h : n < M384) : n / 2 ^ k < M384 := Nat.lt_of_le_of_lt (Nat.div_le_self _ _) h

/-! moved up -/
theorem wd_mod (x j : Nat) (hj : j < 6) : wd (x % M384) j = wd x j := by
  unfold wd
  obtain ⟨d, hd⟩ : ∃ d, 384 = 64 * j + (64 + d) := ⟨384 - 64 * j - 64, by omega⟩
  rw [M384_eq _ hd.symm, Nat.pow_add, Nat.mod_mul_right_div_self]
  rw [Nat.pow_add, show 18446744073709551616 = 2 ^ 64 from rfl, Nat.mod_mul_right_mod]
theorem up_word (n q r j : Nat) (hr : r < 64) (hj : j + 1 + q < 6) : wd (n * 2 ^ (64 * q + r) % M384) (j + 1 + q) = wd n (j + 1) * 2 ^ r % 18446744073709551616 + wd n j / 2 ^ (64 - r) := by
  rw [wd_mod _ _ hj, Nat.add_comm (j + 1) q, wd_shift_ge]
  have e : wd (n * 2 ^ r) (j + 1) = wd (n / 2 ^ (64 * j + (64 - r))) 0 := by
    unfold wd
    rw [show 64 * (j + 1) = 64 * j + (64 - r) + r by omega, Nat.pow_add, Nat.mul_div_mul_right _ _ (Nat.pow_pos (by decide))]
    simp
  rw [e, down_word n j (64 - r) 0 (by omega), Nat.zero_add, show 64 - (64 - r) = r by omega, Nat.add_comm]
theorem up_word_lo (n q r : Nat) (hq : q < 6) : wd (n * 2 ^ (64 * q + r) % M384) q = wd n 0 * 2 ^ r % 18446744073709551616 := by
  have h := wd_shift_ge n q 0 r
  rw [Nat.add_zero] at h
  rw [wd_mod _ _ hq, h, wd0, wd0, Nat.mod_mul_mod]
theorem up_word_z (n q r j : Nat) (hj : j < q) (hq : q < 6) : wd (n * 2 ^ (64 * q + r) % M384) j = 0 := by
  rw [wd_mod _ _ (by omega)]
  exact wd_shift_lt n q j r hj
end Go.Proofs.YtmnojohcfalodaaDoor
/- Plain numbers: rounding a sum to a float32, as the program does it. -/
namespace Go.Proofs.YtmnojohcfalodaaDoor
set_option linter.unusedVariables false
set_option linter.unusedSimpArgs false
/-- is a number rounded away from 0? -/
def raisedB (mode : Nat) (neg last half rest : Bool) : Bool :=
  match mode with
  | 0 => half && (rest || last)
  | 1 => false
  | 2 => (half || rest) && neg
  | _ => (half || rest) && !neg
/-- the greatness of a sum -/
def magN (n : Nat) : Nat := if n < H383 then n else (M384 - n) % M384
def dropN (m : Nat) : Nat := bitLen m - 24
def restN (m : Nat) (half rest : Bool) : Bool := if 0 < dropN m then (rest || (half || decide (m % 2 ^ (dropN m - 1) ≠ 0))) else rest
def halfN (m : Nat) (half : Bool) : Bool := if 0 < dropN m then decide (m / 2 ^ (dropN m - 1) % 2 = 1) else half
/-- the significand and how many bits were dropped, rounded -/
def sigN (m : Nat) (up : Bool) : Nat × Nat :=
  let s := m / 2 ^ dropN m + up.toNat
  if s = 16777216 then (8388608, dropN m + 1) else (s, dropN m)
/-- a significand and an exponent as a float32's bits, and the error -/
def putBits (neg : Bool) (s d : Nat) : Nat × Nat :=
  if 8388608 ≤ s then
    if 254 < d + 1 then (0, 20) else ((d + 1) * 8388608 + s % 8388608 + (if neg then 2147483648 else 0), 0)
  else (s + (if neg then 2147483648 else 0), 0)
def packN (neg : Bool) (m : Nat) (half rest : Bool) (mode : Nat) : Nat × Nat :=
  let up := raisedB mode neg (decide (m / 2 ^ dropN m % 2 = 1)) (halfN m half) (restN m half rest)
  putBits neg (sigN m up).1 (sigN m up).2
/-- Over -/
def overN (n k mode : Nat) : Nat × Nat :=
  if n = 0 then (0, 0) else
  let m := magN n
  let r := m % k
  packN (decide (H383 ≤ n)) (m / k) (decide (k - r ≤ r)) (decide (r ≠ 0 ∧ r ≠ k - r)) mode
theorem sig_lt (m : Nat) : m / 2 ^ dropN m < 16777216 := by
  unfold dropN
  rw [Nat.div_lt_iff_lt_mul (Nat.pow_pos (by decide)), show 16777216 = 2 ^ 24 from rfl, ← Nat.pow_add]
  obtain ⟨h1, _⟩ := bitLen_spec m
  exact Nat.lt_of_lt_of_le h1 (Nat.pow_le_pow_right (by decide) (by omega))
theorem bitLen_le_of (m e : Nat) (h : m < 2 ^ e) : bitLen m ≤ e := by
  obtain ⟨_, h2⟩ := bitLen_spec m
  rcases Nat.lt_or_ge e (bitLen m) with h3 | h3
  · have h4 : 2 ^ e ≤ 2 ^ (bitLen m - 1) := Nat.pow_le_pow_right (by decide) (by omega)
    have h0 : m ≠ 0 := by
      intro h0; subst h0
      have h5 : bitLen 0 = 0 := rfl
      omega
    have := h2 h0
    omega
  · exact h3
theorem bitLen_384 (m : Nat) (h : m < M384) : bitLen m ≤ 384 := by
  obtain ⟨e, he⟩ : ∃ e, e = 384 := ⟨_, rfl⟩
  rw [M384_eq e he] at h
  rw [← he]
  exact bitLen_le_of m e h
theorem magN_lt (n : Nat) (h : n < M384) : magN n < M384 := by
  unfold magN; split
  · exact h
  · exact Nat.mod_lt _ (by decide)
end Go.Proofs.YtmnojohcfalodaaDoor
/- Plain numbers: a sum divided word by word. -/
namespace Go.Proofs.YtmnojohcfalodaaDoor
set_option linter.unusedVariables false
set_option linter.unusedSimpArgs false
theorem div_step (m k i : Nat) (hk : 0 < k) :
    (m / 2 ^ (64 * (i + 1)) % k * 18446744073709551616 + wd m i) / k = wd (m / k) i ∧ (m / 2 ^ (64 * (i + 1)) % k * 18446744073709551616 + wd m i) % k = m / 2 ^ (64 * i) % k := by
  have e1 : m / 2 ^ (64 * (i + 1)) = m / 2 ^ (64 * i) / 18446744073709551616 := by
    rw [Nat.div_div_eq_div_mul, show 18446744073709551616 = 2 ^ 64 from rfl, ← Nat.pow_add, show 64 * i + 64 = 64 * (i + 1) by omega]
  have e2 : wd (m / k) i = m / 2 ^ (64 * i) / k % 18446744073709551616 := by
    unfold wd; rw [Nat.div_div_eq_div_mul, Nat.div_div_eq_div_mul, Nat.mul_comm]
  rw [e1, e2]
  unfold wd
  generalize m / 2 ^ (64 * i) = M
  have e3 : M = k * (M / 18446744073709551616 / k * 18446744073709551616) + (M / 18446744073709551616 % k * 18446744073709551616 + M % 18446744073709551616) := by
    have h1 := Nat.div_add_mod M 18446744073709551616
    have h2 := Nat.div_add_mod (M / 18446744073709551616) k
    rw [← Nat.mul_assoc]
    generalize k * (M / 18446744073709551616 / k) = A at *
    generalize M / 18446744073709551616 % k = B at *
    omega
  have hlt : (M / 18446744073709551616 % k * 18446744073709551616 + M % 18446744073709551616) / k < 18446744073709551616 := by
    rw [Nat.div_lt_iff_lt_mul hk]
    have h1 : M / 18446744073709551616 % k < k := Nat.mod_lt _ hk
    have h2 : M % 18446744073709551616 < 18446744073709551616 := Nat.mod_lt _ (by decide)
    have h3 : (M / 18446744073709551616 % k + 1) * 18446744073709551616 ≤ k * 18446744073709551616 := Nat.mul_le_mul_right _ h1
    omega
  constructor
  · conv => rhs; rw [e3]
    rw [Nat.mul_add_div hk, Nat.mul_comm (M / 18446744073709551616 / k), Nat.mul_add_mod, Nat.mod_eq_of_lt hlt]
  · conv => rhs; rw [e3]
    rw [Nat.mul_add_mod]
theorem magN_zero (n : Nat) (h : n < M384) : magN n = 0 ↔ n = 0 := by
  unfold magN
  have h1 := M384_H383
  have h2 : 0 < H383 := by decide
  constructor
  · intro h3
    split at h3
    · exact h3
    · rw [Nat.mod_eq_of_lt (by omega)] at h3; omega
  · rintro rfl; rw [if_pos h2]
end Go.Proofs.YtmnojohcfalodaaDoor
/- Plain numbers: a sum multiplied word by word. -/
namespace Go.Proofs.YtmnojohcfalodaaDoor
set_option linter.unusedVariables false
set_option linter.unusedSimpArgs false
/-- what is carried into word k -/
def mcar (m n p k : Nat) : Nat := (m % 2 ^ (64 * k) * n + p) / 2 ^ (64 * k)
theorem mcar_zero (m n p : Nat) : mcar m n p 0 = p := by simp [mcar, Nat.mod_one]
theorem mod_step (m k : Nat) : m % 2 ^ (64 * (k + 1)) = m % 2 ^ (64 * k) + 2 ^ (64 * k) * wd m k := by
  rw [show 64 * (k + 1) = 64 * k + 64 by omega, Nat.pow_add, Nat.mod_mul]
  rfl
theorem mcar_step (m n p k : Nat) : (wd m k * n + mcar m n p k) / 18446744073709551616 = mcar m n p (k + 1) ∧ (wd m k * n + mcar m n p k) % 18446744073709551616 = wd (m * n + p) k := by
  have h0 := mod_step m k
  have hpos : 0 < 2 ^ (64 * k) := Nat.pos_of_ne_zero (by simp)
  constructor
  · unfold mcar
    rw [h0, show 64 * (k + 1) = 64 * k + 64 by omega, Nat.pow_add, ← Nat.div_div_eq_div_mul, show (2 : Nat) ^ 64 = 18446744073709551616 from rfl]
    congr 1
    rw [Nat.add_mul, Nat.mul_assoc, Nat.add_right_comm, Nat.add_mul_div_left _ _ hpos, Nat.add_comm]
  · have h1 := Nat.mod_add_div m (2 ^ (64 * (k + 1)))
    rw [h0] at h1
    unfold mcar
    rw [show wd (m * n + p) k = (m * n + p) / 2 ^ (64 * k) % 18446744073709551616 from rfl]
    conv => rhs; rw [← h1]
    rw [show 64 * (k + 1) = 64 * k + 64 by omega, Nat.pow_add, show (2 : Nat) ^ 64 = 18446744073709551616 from rfl]
    generalize 2 ^ (64 * k) = P at *
    generalize m / (P * 18446744073709551616) = q
    rw [show (m % P + P * wd m k + P * 18446744073709551616 * q) * n + p = (m % P * n + p) + P * (wd m k * n + 18446744073709551616 * (q * n)) by
      rw [Nat.add_mul, Nat.add_mul, Nat.mul_add, Nat.mul_assoc, Nat.mul_assoc, Nat.mul_assoc]; omega, Nat.add_mul_div_left _ _ hpos]
    omega
theorem mcar_lt (m n p k : Nat) (hn : n < 18446744073709551616) (hp : p < 18446744073709551616) : mcar m n p k < 18446744073709551616 := by
  unfold mcar
  have hpos : 0 < 2 ^ (64 * k) := Nat.pos_of_ne_zero (by simp)
  rw [Nat.div_lt_iff_lt_mul hpos]
  have h1 : m % 2 ^ (64 * k) < 2 ^ (64 * k) := Nat.mod_lt _ hpos
  generalize 2 ^ (64 * k) = P at *
  generalize m % P = A at *
  have h2 : A * n ≤ A * 18446744073709551615 := Nat.mul_le_mul_left _ (by omega)
  have h3 : (A + 1) * 18446744073709551615 ≤ P * 18446744073709551615 := Nat.mul_le_mul_right _ h1
  omega
theorem mcar_six (m n p : Nat) (hm : m < M384) (i : Nat) (hi : i = 6) : mcar m n p i = (m * n + p) / M384 := by
  unfold mcar
  have h := M384_eq (64 * i) (by omega)
  rw [← h, Nat.mod_eq_of_lt hm]
theorem low_eq (m k d e : Nat) (h : k + d = e) (he : e = 384) : m * 2 ^ d % M384 / 2 ^ d = m % 2 ^ k := by
  rw [M384_eq e he, ← h, Nat.pow_add, Nat.mul_comm m, Nat.mul_comm (2 ^ k), Nat.mul_mod_mul_left, Nat.mul_div_cancel_left _ (Nat.pos_of_ne_zero (by simp))]
end Go.Proofs.YtmnojohcfalodaaDoor
/- Plain: the decimal text of a sum. -/
namespace Go.Proofs.YtmnojohcfalodaaDoor
set_option linter.unusedVariables false
set_option linter.unusedSimpArgs false
def digB (d : Nat) : UInt8 := UInt8.ofNat (48 + d)
/-- digits, the lowest first -/
def lowD (n : Nat) : List UInt8 := if h : n = 0 then [] else digB (n % 10) :: lowD (n / 10)
termination_by n
decreasing_by exact Nat.div_lt_self (by omega) (by decide)
theorem lowD_zero : lowD 0 = [] := by unfold lowD; rfl
theorem lowD_pos (n : Nat) (h : n ≠ 0) : lowD n = digB (n % 10) :: lowD (n / 10) := by rw [lowD, dif_neg h]
def U149 : Nat := 713623846352979940529142984724747568191373312
/-- digits behind the point -/
def fracD : Nat → Nat → List UInt8
  | 0, _ => []
  | k + 1, r => if r = 0 then [] else digB (r * 10 / U149) :: fracD k (r * 10 % U149)
def headT (h : Nat) : List UInt8 := if h = 0 then [48] else (lowD h).reverse
def restT (r : Nat) : List UInt8 := if r = 0 then [] else 46 :: fracD 149 r
def textN (n : Nat) : List UInt8 := (if H383 ≤ n then [45] else []) ++ (headT (magN n / U149) ++ restT (magN n % U149))
theorem digB_toNat (d : Nat) (h : d < 10) : (digB d).toNat = 48 + d := by
  unfold digB
  rw [UInt8.toNat_ofNat']
  omega
theorem U149_eq : U149 = 2 ^ 149 := by decide
theorem lowD_len (k : Nat) : ∀ n, n < 10 ^ k → (lowD n).length ≤ k := by
  induction k with
  | zero => intro n h; have : n = 0 := by simpa using h
            subst this; rw [lowD_zero]; simp
  | succ k ih =>
    intro n h
    by_cases h0 : n = 0
    · subst h0; rw [lowD_zero]; simp
    · rw [lowD_pos n h0, List.length_cons]
      have := ih (n / 10) (by rw [Nat.div_lt_iff_lt_mul (by decide), ← Nat.pow_succ]; exact h)
      omega
theorem lowD_nil (n : Nat) : lowD n = [] ↔ n = 0 := by
  constructor
  · intro h
    by_cases h0 : n = 0
    · exact h0
    · rw [lowD_pos n h0] at h; simp at h
  · intro h; subst h; exact lowD_zero
end Go.Proofs.YtmnojohcfalodaaDoor
