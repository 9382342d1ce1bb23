/-
  Plain numbers: float32 by rungs; what rounding down, up and to even give.
-/
import Derived.Test.YtmnojohcfalodaaDoorN7
import Ieee.Arith
namespace Go.Proofs.YtmnojohcfalodaaDoor
set_option linter.unusedVariables false
set_option linter.unusedSimpArgs false
/-- the greatness of a rung, in units of 2^-149 -/
def mag (v : Nat) : Nat := if v < 8388608 then v else (v % 8388608 + 8388608) * 2 ^ (v / 8388608 - 1)
/-- the value of a finite float32, by its bits -/
def fvI (u : Nat) : Int := if u / 2147483648 = 1 then -(mag (u % 2147483648) : Int) else mag (u % 2147483648)
theorem mag_lo (v : Nat) (h : v < 8388608) : mag v = v := by unfold mag; rw [if_pos h]
theorem mag_hi (d s : Nat) (h1 : 8388608 ≤ s) (h2 : s < 16777216) : mag ((d + 1) * 8388608 + (s - 8388608)) = s * 2 ^ d := by
  unfold mag
  rw [if_neg (by omega), show ((d + 1) * 8388608 + (s - 8388608)) / 8388608 - 1 = d by omega, show ((d + 1) * 8388608 + (s - 8388608)) % 8388608 + 8388608 = s by omega]
/-- a rung is a significand and an exponent -/
theorem rung_form (v : Nat) : (v < 8388608) ∨ ∃ d s, 8388608 ≤ s ∧ s < 16777216 ∧ v = (d + 1) * 8388608 + (s - 8388608) := by
  rcases Nat.lt_or_ge v 8388608 with h | h
  · exact .inl h
  · exact .inr ⟨v / 8388608 - 1, v % 8388608 + 8388608, by omega, by omega, by omega⟩
theorem mag_next (d s : Nat) (h1 : 8388608 ≤ s) (h2 : s < 16777216) : mag ((d + 1) * 8388608 + (s - 8388608) + 1) = (s + 1) * 2 ^ d := by
  by_cases h : s + 1 < 16777216
  · rw [show (d + 1) * 8388608 + (s - 8388608) + 1 = (d + 1) * 8388608 + (s + 1 - 8388608) by omega]
    exact mag_hi d (s + 1) (by omega) h
  · obtain rfl : s = 16777215 := by omega
    rw [show (d + 1) * 8388608 + (16777215 - 8388608) + 1 = (d + 1 + 1) * 8388608 + (8388608 - 8388608) by omega, mag_hi (d + 1) 8388608 (by omega) (by omega), Nat.pow_succ]
    omega
theorem mag_next0 (v : Nat) (h : v < 8388608) : mag (v + 1) = v + 1 := by
  by_cases h2 : v + 1 < 8388608
  · exact mag_lo _ h2
  · obtain rfl : v = 8388607 := by omega
    have := mag_hi 0 8388608 (Nat.le_refl _) (by decide)
    rw [Nat.pow_zero, Nat.mul_one] at this
    rw [Nat.zero_add, Nat.one_mul, Nat.sub_self, Nat.add_zero] at this
    exact this
theorem mag_succ (v : Nat) : mag v < mag (v + 1) := by
  rcases rung_form v with h | ⟨d, s, h1, h2, hv⟩
  · rw [mag_lo v h, mag_next0 v h]; omega
  · rw [hv, mag_hi d s h1 h2, mag_next d s h1 h2, Nat.add_mul, Nat.one_mul]
    have := Nat.pow_pos (n := d) (show 0 < 2 by decide)
    omega
theorem mag_add (v : Nat) : ∀ d, 0 < d → mag v < mag (v + d)
  | 1, _ => mag_succ v
  | d + 2, _ => Nat.lt_trans (mag_add v (d + 1) (by omega)) (mag_succ (v + (d + 1)))
theorem mag_lt {v w : Nat} (h : v < w) : mag v < mag w := by
  obtain ⟨d, rfl⟩ : ∃ d, w = v + d := ⟨w - v, by omega⟩
  exact mag_add v d (by omega)
theorem mag_le {v w : Nat} (h : v ≤ w) : mag v ≤ mag w := by
  rcases Nat.lt_or_ge v w with h1 | h1
  · exact Nat.le_of_lt (mag_lt h1)
  · obtain rfl : v = w := by omega
    exact Nat.le_refl _
theorem mag_lt_iff (v w : Nat) : mag v < mag w ↔ v < w := by
  constructor
  · intro h
    rcases Nat.lt_or_ge v w with h1 | h1
    · exact h1
    · have := mag_le h1; omega
  · exact mag_lt
theorem mag_inj {v w : Nat} (h : mag v = mag w) : v = w := by
  rcases Nat.lt_trichotomy v w with h1 | h1 | h1
  · have := mag_lt h1; omega
  · exact h1
  · have := mag_lt h1; omega
theorem mag_zero : mag 0 = 0 := rfl
theorem mag_bound (v e : Nat) (h : v < 2139095040) (he : e = 253) : mag v < 16777216 * 2 ^ e := by
  have h1 : 0 < 2 ^ e := Nat.pow_pos (by decide)
  rcases rung_form v with h2 | ⟨d, s, h3, h4, hv⟩
  · rw [mag_lo v h2]
    generalize 2 ^ e = P at *
    omega
  · rw [hv, mag_hi d s h3 h4]
    have h5 : 2 ^ d ≤ 2 ^ e := Nat.pow_le_pow_right (by decide) (by omega)
    exact Nat.lt_of_le_of_lt (Nat.mul_le_mul_left s h5) (Nat.mul_lt_mul_of_pos_right h4 h1)
/-! ### the order of floats -/
theorem signed_scale (s : Bool) (m i j : Nat) : Ieee.signed s m (i + j) = Ieee.signed s m i * (2 ^ j : Nat) := by
  unfold Ieee.signed
  rw [Nat.shiftLeft_eq, Nat.shiftLeft_eq, Nat.pow_add, ← Nat.mul_assoc]
  cases s
  · simp
  · simp [Int.neg_mul]
theorem compare_scale (a b : Int) (p : Nat) (hp : 0 < p) : compare (a * (p : Int)) (b * (p : Int)) = compare a b := by
  have hp' : (0 : Int) < p := by omega
  rcases Int.lt_trichotomy a b with h | h | h
  · rw [Int.compare_eq_lt.2 h, Int.compare_eq_lt.2 (Int.mul_lt_mul_of_pos_right h hp')]
  · rw [h, Int.compare_eq_eq.2 rfl, Int.compare_eq_eq.2 rfl]
  · rw [Int.compare_eq_gt.2 h, Int.compare_eq_gt.2 (Int.mul_lt_mul_of_pos_right h hp')]
/-- what a finite word stands for -/
theorem read_fin (u : Nat) (hu : u < 4294967296) (hf : u % 2147483648 < 2139095040) : ∃ (m : Nat) (e : Nat), Ieee.single.read u = .number (u / 2147483648 % 2 == 1) m (Ieee.single.leastPlace + (e : Int)) ∧ mag (u % 2147483648) = m * 2 ^ e := by
  have hs : Ieee.single.signWeight = 2147483648 := by decide
  have hb : Ieee.single.binade = 8388608 := by decide
  have hi : Ieee.single.infRung = 2139095040 := by decide
  unfold Ieee.Format.read
  simp only [hs, hb, hi]
  by_cases h : u % 2147483648 < 8388608
  · refine ⟨u % 2147483648, 0, ?_, ?_⟩
    · rw [if_pos h]; simp
    · rw [mag_lo _ h]; simp
  · refine ⟨8388608 + u % 2147483648 % 8388608, u % 2147483648 / 8388608 - 1, ?_, ?_⟩
    · rw [if_neg h, if_pos hf]
    · unfold mag; rw [if_neg h, Nat.add_comm 8388608]
theorem signed_fvI (u m e : Nat) (hu : u < 4294967296) (h : mag (u % 2147483648) = m * 2 ^ e) : Ieee.signed (u / 2147483648 % 2 == 1) m e = fvI u := by
  unfold Ieee.signed fvI
  rw [Nat.shiftLeft_eq, h]
  by_cases h1 : u / 2147483648 = 1
  · rw [h1]; rfl
  · rw [show u / 2147483648 = 0 by omega]; rfl
theorem order_fin (u v : Nat) (hu : u < 4294967296) (hv : v < 4294967296) (hfu : u % 2147483648 < 2139095040) (hfv : v % 2147483648 < 2139095040) : Ieee.single.order u v = some (compare (fvI u) (fvI v)) := by
  obtain ⟨m, e, h1, h2⟩ := read_fin u hu hfu
  obtain ⟨n, f, h3, h4⟩ := read_fin v hv hfv
  unfold Ieee.Format.order
  rw [h1, h3]
  simp only [Ieee.Datum.order, Option.some.injEq]
  rw [← signed_fvI u m e hu h2, ← signed_fvI v n f hv h4]
  generalize (u / 2147483648 % 2 == 1) = s
  generalize (v / 2147483648 % 2 == 1) = t
  generalize Ieee.single.leastPlace = L
  rcases Nat.le_total e f with h | h
  · obtain ⟨d, rfl⟩ : ∃ d, f = e + d := ⟨f - e, by omega⟩
    rw [show min (L + (e : Int)) (L + ((e + d : Nat) : Int)) = L + (e : Int) by omega, show (L + (e : Int) - (L + (e : Int))).toNat = 0 by omega, show (L + ((e + d : Nat) : Int) - (L + (e : Int))).toNat = d by omega]
    rw [show e + d = d + e by omega, signed_scale t n d e, show Ieee.signed s m e = Ieee.signed s m 0 * ((2 ^ e : Nat) : Int) by rw [← signed_scale]; simp]
    rw [compare_scale _ _ _ (Nat.pow_pos (by decide))]
  · obtain ⟨d, rfl⟩ : ∃ d, e = f + d := ⟨e - f, by omega⟩
    rw [show min (L + ((f + d : Nat) : Int)) (L + (f : Int)) = L + (f : Int) by omega, show (L + (f : Int) - (L + (f : Int))).toNat = 0 by omega, show (L + ((f + d : Nat) : Int) - (L + (f : Int))).toNat = d by omega]
    rw [show f + d = d + f by omega, signed_scale s m d f, show Ieee.signed t n f = Ieee.signed t n 0 * ((2 ^ f : Nat) : Int) by rw [← signed_scale]; simp]
    rw [compare_scale _ _ _ (Nat.pow_pos (by decide))]
/-! ### rounding -/
/-- the rung below -/
def v0 (m : Nat) : Nat := if m / 2 ^ dropN m < 8388608 then m / 2 ^ dropN m else (dropN m + 1) * 8388608 + (m / 2 ^ dropN m - 8388608)
theorem drop_pos_sig (m : Nat) (h : 0 < dropN m) : 8388608 ≤ m / 2 ^ dropN m := by
  unfold dropN at *
  obtain ⟨h1, h2⟩ := bitLen_spec m
  have hm : m ≠ 0 := by
    intro h0; subst h0
    have h5 : bitLen 0 = 0 := rfl
    omega
  have h3 := h2 hm
  rw [Nat.le_div_iff_mul_le (Nat.pow_pos (by decide)), show 8388608 = 2 ^ 23 from rfl, ← Nat.pow_add, show 23 + (bitLen m - 24) = bitLen m - 1 by omega]
  exact h3
theorem mag_v0 (m : Nat) : mag (v0 m) = m / 2 ^ dropN m * 2 ^ dropN m ∧ mag (v0 m + 1) = (m / 2 ^ dropN m + 1) * 2 ^ dropN m := by
  have hs := sig_lt m
  unfold v0
  by_cases h : m / 2 ^ dropN m < 8388608
  · have h0 : dropN m = 0 := by
      rcases Nat.eq_zero_or_pos (dropN m) with h0 | h0
      · exact h0
      · have := drop_pos_sig m h0; omega
    rw [if_pos h, mag_lo _ h, mag_next0 _ h, h0]; simp
  · rw [if_neg h, mag_hi _ _ (by omega) hs, mag_next _ _ (by omega) hs]
    exact ⟨rfl, rfl⟩
theorem put_v0 (neg : Bool) (m : Nat) (up : Bool) : putBits neg (sigN m up).1 (sigN m up).2 = if v0 m + up.toNat < 2139095040 then (v0 m + up.toNat + (if neg then 2147483648 else 0), 0) else (0, 20) := by
  have hs := sig_lt m
  have hd := drop_pos_sig m
  have hu : up.toNat ≤ 1 := by cases up <;> decide
  have hV : (m / 2 ^ dropN m < 8388608 ∧ dropN m = 0 ∧ v0 m = m / 2 ^ dropN m) ∨ (8388608 ≤ m / 2 ^ dropN m ∧ v0 m = (dropN m + 1) * 8388608 + (m / 2 ^ dropN m - 8388608)) := by
    rcases Nat.lt_or_ge (m / 2 ^ dropN m) 8388608 with h | h
    · refine .inl ⟨h, ?_, by unfold v0; rw [if_pos h]⟩
      rcases Nat.eq_zero_or_pos (dropN m) with h0 | h0
      · exact h0
      · have := hd h0; omega
    · exact .inr ⟨h, by unfold v0; rw [if_neg (by omega)]⟩
  clear hd
  unfold sigN putBits
  generalize v0 m = V at *
  generalize m / 2 ^ dropN m = s at *
  generalize dropN m = d at *
  generalize up.toNat = b at *
  obtain ⟨g, hg⟩ : ∃ g, g = (if neg = true then 2147483648 else 0) := ⟨_, rfl⟩
  rw [← hg]
  clear hg
  by_cases h1 : s + b = 16777216
  · simp only [h1, if_true]
    by_cases h2 : 254 < d + 1 + 1
    · rw [if_pos (Nat.le_refl _), if_pos h2, if_neg (by omega)]
    · rw [if_pos (Nat.le_refl _), if_neg h2, if_pos (by omega)]
      congr 1
      omega
  · simp only [h1, if_false]
    by_cases h2 : 8388608 ≤ s + b
    · by_cases h4 : 254 < d + 1
      · rw [if_pos h2, if_pos h4, if_neg (by omega)]
      · rw [if_pos h2, if_neg h4, if_pos (by omega)]
        congr 1
        omega
    · rw [if_neg h2, if_pos (by omega)]
      congr 1
      omega
/-- the half bit and what stands behind it, by the rest of the division -/
theorem half_rest (N k : Nat) (hk : 0 < k) : halfN (N / k) (decide (k - N % k ≤ N % k)) = decide (k * 2 ^ dropN (N / k) ≤ 2 * (N % (k * 2 ^ dropN (N / k)))) ∧
    restN (N / k) (decide (k - N % k ≤ N % k)) (decide (N % k ≠ 0 ∧ N % k ≠ k - N % k)) = decide (N % (k * 2 ^ dropN (N / k)) ≠ 0 ∧ 2 * (N % (k * 2 ^ dropN (N / k))) ≠ k * 2 ^ dropN (N / k)) := by
  have hr : N % k < k := Nat.mod_lt _ hk
  unfold halfN restN
  rcases Nat.eq_zero_or_pos (dropN (N / k)) with h0 | h0
  · rw [h0]
    simp only [Nat.lt_irrefl, if_false, Nat.pow_zero, Nat.mul_one]
    constructor
    · rw [decide_eq_decide]; omega
    · rw [decide_eq_decide]; omega
  · obtain ⟨d, hd⟩ : ∃ d, dropN (N / k) = d + 1 := ⟨dropN (N / k) - 1, by omega⟩
    rw [hd]
    simp only [Nat.zero_lt_succ, if_true, Nat.add_sub_cancel]
    have hP : 0 < 2 ^ d := Nat.pow_pos (by decide)
    have e1 : N % (k * 2 ^ (d + 1)) = k * (N / k % 2 ^ (d + 1)) + N % k := by
      rw [Nat.mod_mul]; omega
    have e2 : N / k % 2 ^ (d + 1) = N / k % 2 ^ d + 2 ^ d * (N / k / 2 ^ d % 2) := by
      rw [Nat.pow_succ, Nat.mod_mul]
    rw [e1, e2, Nat.pow_succ]
    have hm : N / k % 2 ^ d < 2 ^ d := Nat.mod_lt _ hP
    have hb : N / k / 2 ^ d % 2 < 2 := Nat.mod_lt _ (by decide)
    generalize N % k = r at *
    generalize N / k / 2 ^ d % 2 = b at *
    generalize N / k % 2 ^ d = x at *
    generalize 2 ^ d = P at *
    clear e1 e2 hd
    have h1 : (x + 1) * k ≤ P * k := Nat.mul_le_mul_right _ hm
    rw [Nat.add_mul, Nat.one_mul] at h1
    have e3 : k * (x + P * b) + r = x * k + P * k * b + r := by
      rw [Nat.mul_add, Nat.mul_comm k x, ← Nat.mul_assoc, Nat.mul_comm k P]
    have e4 : k * (P * 2) = P * k * 2 := by rw [← Nat.mul_assoc, Nat.mul_comm k P]
    rw [e3, e4]
    have hx0 : x = 0 ↔ x * k = 0 := by
      constructor
      · rintro rfl; simp
      · intro h; rcases Nat.mul_eq_zero.1 h with h | h
        · exact h
        · omega
    generalize hX : x * k = X at *
    generalize P * k = Q at *
    have hb2 : b = 0 ∨ b = 1 := by omega
    rcases hb2 with rfl | rfl
    · constructor
      · rw [decide_eq_decide]; omega
      · rw [Bool.eq_iff_iff]
        simp only [Bool.or_eq_true, decide_eq_true_eq, ne_eq, Nat.mul_zero, Nat.add_zero]
        rw [hx0]
        omega
    · constructor
      · rw [decide_eq_decide]; omega
      · rw [Bool.eq_iff_iff]
        simp only [Bool.or_eq_true, decide_eq_true_eq, ne_eq, Nat.mul_one]
        rw [hx0]
        omega
/-- is the number rounded away from 0? -/
def upB (N k mode : Nat) (neg : Bool) : Bool :=
  let D := k * 2 ^ dropN (N / k)
  raisedB mode neg (decide (N / D % 2 = 1)) (decide (D ≤ 2 * (N % D))) (decide (N % D ≠ 0 ∧ 2 * (N % D) ≠ D))
theorem over_eq (n k mode : Nat) (hn : n ≠ 0) (hk : 0 < k) : overN n k mode =
    if v0 (magN n / k) + (upB (magN n) k mode (decide (H383 ≤ n))).toNat < 2139095040 then (v0 (magN n / k) + (upB (magN n) k mode (decide (H383 ≤ n))).toNat + (if decide (H383 ≤ n) then 2147483648 else 0), 0) else (0, 20) := by
  unfold overN
  rw [if_neg hn]
  simp only [packN]
  rw [put_v0, (half_rest (magN n) k hk).1, (half_rest (magN n) k hk).2]
  unfold upB
  simp only [Nat.div_div_eq_div_mul]
/-- where a number lies between two rungs -/
theorem between (N k : Nat) (hk : 0 < k) : mag (v0 (N / k)) * k ≤ N ∧ N < mag (v0 (N / k) + 1) * k ∧ (mag (v0 (N / k)) * k = N ↔ N % (k * 2 ^ dropN (N / k)) = 0) := by
  obtain ⟨h1, h2⟩ := mag_v0 (N / k)
  rw [h1, h2, Nat.div_div_eq_div_mul]
  have hP : 0 < 2 ^ dropN (N / k) := Nat.pow_pos (by decide)
  have hD : 0 < k * 2 ^ dropN (N / k) := Nat.mul_pos hk hP
  generalize 2 ^ dropN (N / k) = P at *
  have e := Nat.div_add_mod N (k * P)
  have hr := Nat.mod_lt N hD
  have e1 : N / (k * P) * P * k = k * P * (N / (k * P)) := by rw [Nat.mul_assoc, Nat.mul_comm, Nat.mul_comm P k]
  have e2 : (N / (k * P) + 1) * P * k = k * P * (N / (k * P)) + k * P := by rw [Nat.mul_assoc, Nat.mul_comm, Nat.mul_comm P k, Nat.mul_add, Nat.mul_one]
  rw [e1, e2]
  generalize k * P * (N / (k * P)) = A at *
  omega
end Go.Proofs.YtmnojohcfalodaaDoor
