/-
  Plain numbers: rounding keeps the order; down is below and up is above, with no float32 between.
-/
import Derived.Test.YtmnojohcfalodaaDoorNd
namespace Go.Proofs.YtmnojohcfalodaaDoor
set_option linter.unusedVariables false
set_option linter.unusedSimpArgs false
/-- the bits of a rung with a sign -/
def fl (v : Nat) (neg : Bool) : Nat := v + (if neg then 2147483648 else 0)
theorem fl_lt (v : Nat) (neg : Bool) (h : v < 2139095040) : fl v neg < 4294967296 ∧ fl v neg % 2147483648 = v := by
  unfold fl; cases neg <;> simp <;> omega
theorem fvI_fl (v : Nat) (neg : Bool) (h : v < 2139095040) : fvI (fl v neg) = if neg then -(mag v : Int) else mag v := by
  have h2 := (fl_lt v neg h).2
  unfold fvI
  rw [h2]
  unfold fl
  cases neg
  · rw [if_neg (by simp; omega)]; rfl
  · rw [if_pos (by simp; omega)]; rfl
theorem magN_le (n : Nat) (h : n < M384) : magN n ≤ H383 ∧ (n ≠ 0 → magN n ≠ 0) ∧ sv n = (if decide (H383 ≤ n) then -(magN n : Int) else magN n) := by
  have e := M384_2
  have hp : 0 < H383 := by decide
  unfold magN sv
  generalize M384 = M at *
  generalize H383 = H at *
  subst e
  by_cases h1 : n < H
  · rw [if_pos h1, if_pos h1]
    simp only [show ¬ H ≤ n by omega, decide_false, Bool.false_eq_true, if_false]
    exact ⟨by omega, fun h => h, trivial⟩
  · rw [if_neg h1, if_neg h1]
    simp only [show H ≤ n by omega, decide_true, if_true]
    rw [Nat.mod_eq_of_lt (by omega)]
    exact ⟨by omega, fun _ => by omega, by omega⟩
theorem up_down (N k : Nat) (hk : 0 < k) (neg : Bool) : upB N k 2 neg = (decide (N % (k * 2 ^ dropN (N / k)) ≠ 0) && neg) ∧ upB N k 3 neg = (decide (N % (k * 2 ^ dropN (N / k)) ≠ 0) && !neg) ∧ upB N k 1 neg = false ∧ (N % (k * 2 ^ dropN (N / k)) = 0 → upB N k 0 neg = false) := by
  have hD : 0 < k * 2 ^ dropN (N / k) := Nat.mul_pos hk (Nat.pow_pos (by decide))
  unfold upB raisedB
  dsimp only
  generalize k * 2 ^ dropN (N / k) = D at *
  have hr := Nat.mod_lt N hD
  generalize N % D = R at *
  have e : (decide (D ≤ 2 * R) || decide (R ≠ 0 ∧ 2 * R ≠ D)) = decide (R ≠ 0) := by
    rw [Bool.eq_iff_iff]; simp only [Bool.or_eq_true, decide_eq_true_eq, ne_eq]; omega
  refine ⟨by simp only [e], by simp only [e], rfl, ?_⟩
  rintro rfl
  have : decide (D ≤ 2 * 0) = false := by simp; omega
  simp only [this, Bool.false_and]
/-- what Over gives, where the number lies between two rungs -/
structure Sides (n k : Nat) (neg : Bool) (N v : Nat) (z : Bool) : Prop where
  sgn : sv n = if neg then -(N : Int) else N
  pos : 0 < N
  lo : mag v * k ≤ N
  hi : N < mag (v + 1) * k
  eq : z = false ↔ mag v * k = N
  down : overN n k 2 = if v + (z && neg).toNat < 2139095040 then (fl (v + (z && neg).toNat) neg, 0) else (0, 20)
  up : overN n k 3 = if v + (z && !neg).toNat < 2139095040 then (fl (v + (z && !neg).toNat) neg, 0) else (0, 20)
  zero : overN n k 1 = if v < 2139095040 then (fl v neg, 0) else (0, 20)
  even : ∃ b : Bool, (z = false → b = false) ∧ overN n k 0 = if v + b.toNat < 2139095040 then (fl (v + b.toNat) neg, 0) else (0, 20)
theorem sides (n k : Nat) (hn : n < M384) (h0 : n ≠ 0) (hk : 0 < k) : ∃ neg N v z, Sides n k neg N v z := by
  obtain ⟨h1, h2, h3⟩ := magN_le n hn
  obtain ⟨b1, b2, b3⟩ := between (magN n) k hk
  obtain ⟨u2, u3, u1, u0⟩ := up_down (magN n) k hk (decide (H383 ≤ n))
  refine ⟨decide (H383 ≤ n), magN n, v0 (magN n / k), decide (magN n % (k * 2 ^ dropN (magN n / k)) ≠ 0), h3, Nat.pos_of_ne_zero (h2 h0), b1, b2, ?_, ?_, ?_, ?_, ?_⟩
  · rw [b3]; simp
  · rw [over_eq n k 2 h0 hk, u2]; rfl
  · rw [over_eq n k 3 h0 hk, u3]; rfl
  · rw [over_eq n k 1 h0 hk, u1]; rfl
  · refine ⟨upB (magN n) k 0 (decide (H383 ≤ n)), fun h => u0 (by simpa using h), ?_⟩
    rw [over_eq n k 0 h0 hk]; rfl
theorem over_err (n k mode : Nat) (hk : 0 < k) : (overN n k mode).2 = 0 ∨ (overN n k mode).2 = 20 := by
  by_cases h0 : n = 0
  · left; unfold overN; rw [if_pos h0]
  · rw [over_eq n k mode h0 hk]
    split
    · left; rfl
    · right; rfl
/-! ### rounding keeps the order -/
theorem up_mono (N N' k mode : Nat) (neg : Bool) (hk : 0 < k) (hm : mode ≤ 3) (h : N ≤ N') (hv : v0 (N / k) = v0 (N' / k)) : (upB N k mode neg).toNat ≤ (upB N' k mode neg).toNat := by
  have hd : dropN (N / k) = dropN (N' / k) ∧ N / k / 2 ^ dropN (N / k) = N' / k / 2 ^ dropN (N' / k) := by
    have s1 := sig_lt (N / k)
    have s2 := sig_lt (N' / k)
    have d1 := drop_pos_sig (N / k)
    have d2 := drop_pos_sig (N' / k)
    unfold v0 at hv
    generalize N / k / 2 ^ dropN (N / k) = a at *
    generalize N' / k / 2 ^ dropN (N' / k) = b at *
    generalize dropN (N / k) = d at *
    generalize dropN (N' / k) = d' at *
    split at hv <;> split at hv <;> omega
  obtain ⟨h1, h2⟩ := hd
  rw [Nat.div_div_eq_div_mul, Nat.div_div_eq_div_mul, ← h1] at h2
  unfold upB
  simp only [← h1]
  have hD : 0 < k * 2 ^ dropN (N / k) := Nat.mul_pos hk (Nat.pow_pos (by decide))
  generalize k * 2 ^ dropN (N / k) = D at *
  have e1 := Nat.div_add_mod N D
  have e2 := Nat.div_add_mod N' D
  have r1 := Nat.mod_lt N hD
  have r2 := Nat.mod_lt N' hD
  rw [h2] at *
  generalize N' / D = s at *
  generalize D * s = A at *
  generalize N % D = R at *
  generalize N' % D = R' at *
  have hR : R ≤ R' := by omega
  have key : ∀ a b : Bool, (a = true → b = true) → a.toNat ≤ b.toNat := by decide
  apply key
  unfold raisedB
  obtain rfl | rfl | rfl | rfl : mode = 0 ∨ mode = 1 ∨ mode = 2 ∨ mode = 3 := by omega
  · simp only [Bool.and_eq_true, Bool.or_eq_true, decide_eq_true_eq, ne_eq]; omega
  · simp
  · simp only [Bool.and_eq_true, Bool.or_eq_true, decide_eq_true_eq, ne_eq]
    exact fun h => ⟨by have := h.1; omega, h.2⟩
  · simp only [Bool.and_eq_true, Bool.or_eq_true, decide_eq_true_eq, ne_eq]
    exact fun h => ⟨by have := h.1; omega, h.2⟩
theorem v0_mono (N N' k : Nat) (hk : 0 < k) (h : N ≤ N') : v0 (N / k) ≤ v0 (N' / k) := by
  obtain ⟨a1, _, _⟩ := between N k hk
  obtain ⟨_, b2, _⟩ := between N' k hk
  have h1 : mag (v0 (N / k)) * k < mag (v0 (N' / k) + 1) * k := by omega
  have h2 := (mag_lt_iff _ _).1 (Nat.lt_of_mul_lt_mul_right h1)
  omega
theorem rung_mono (N N' k mode : Nat) (neg : Bool) (hk : 0 < k) (hm : mode ≤ 3) (h : N ≤ N') : v0 (N / k) + (upB N k mode neg).toNat ≤ v0 (N' / k) + (upB N' k mode neg).toNat := by
  have h1 := v0_mono N N' k hk h
  have t1 : (upB N k mode neg).toNat ≤ 1 := by cases upB N k mode neg <;> decide
  rcases Nat.lt_or_ge (v0 (N / k)) (v0 (N' / k)) with h2 | h2
  · omega
  · have := up_mono N N' k mode neg hk hm h (by omega)
    omega
/-- a result without an error: its value -/
theorem over_ok (n k mode : Nat) (hn : n < M384) (hk : 0 < k) (he : (overN n k mode).2 = 0) : (overN n k mode).1 < 4294967296 ∧ (overN n k mode).1 % 2147483648 < 2139095040 ∧
    fvI (overN n k mode).1 = (if decide (H383 ≤ n) then -(if n = 0 then 0 else (mag (v0 (magN n / k) + (upB (magN n) k mode (decide (H383 ≤ n))).toNat) : Int)) else (if n = 0 then 0 else (mag (v0 (magN n / k) + (upB (magN n) k mode (decide (H383 ≤ n))).toNat) : Int))) := by
  by_cases h0 : n = 0
  · have e : overN n k mode = (0, 0) := by unfold overN; rw [if_pos h0]
    rw [e, if_pos h0]
    refine ⟨by decide, by decide, ?_⟩
    rw [show fvI 0 = 0 by decide]
    split <;> rfl
  · rw [if_neg h0]
    rw [over_eq n k mode h0 hk] at he ⊢
    split at he
    · rename_i h
      rw [if_pos h]
      have h1 := fl_lt _ (decide (H383 ≤ n)) h
      exact ⟨h1.1, by show fl _ _ % _ < _; rw [h1.2]; exact h, fvI_fl _ _ h⟩
    · simp at he
theorem round_mono (m n k mode : Nat) (hm : m < M384) (hn : n < M384) (hk : 0 < k) (hmo : mode ≤ 3) (h : sv m ≤ sv n) (e1 : (overN m k mode).2 = 0) (e2 : (overN n k mode).2 = 0) : fvI (overN m k mode).1 ≤ fvI (overN n k mode).1 := by
  rw [(over_ok m k mode hm hk e1).2.2, (over_ok n k mode hn hk e2).2.2]
  obtain ⟨_, a2, a3⟩ := magN_le m hm
  obtain ⟨_, b2, b3⟩ := magN_le n hn
  rw [a3, b3] at h
  have hp : 0 < H383 := by decide
  by_cases p : H383 ≤ m
  · have m0 : m ≠ 0 := by omega
    have := a2 m0
    simp only [p, decide_true, if_true, m0, if_false] at *
    by_cases q : H383 ≤ n
    · have n0 : n ≠ 0 := by omega
      simp only [q, decide_true, if_true, n0, if_false] at *
      have h1 : magN n ≤ magN m := by omega
      have := mag_le (rung_mono (magN n) (magN m) k mode true hk hmo h1)
      omega
    · simp only [q, decide_false, Bool.false_eq_true, if_false] at *
      split <;> omega
  · simp only [p, decide_false, Bool.false_eq_true, if_false] at *
    by_cases q : H383 ≤ n
    · have n0 : n ≠ 0 := by omega
      have := b2 n0
      simp only [q, decide_true, if_true, n0, if_false] at *
      omega
    · simp only [q, decide_false, Bool.false_eq_true, if_false] at *
      have h1 : magN m ≤ magN n := by omega
      have := mag_le (rung_mono (magN m) (magN n) k mode false hk hmo h1)
      split <;> split
      · omega
      · omega
      · rename_i n0
        subst n0
        have : magN m = 0 := by have : magN 0 = 0 := by decide
                                omega
        exact absurd this (a2 (by assumption))
      · omega
/-! ### ranks -/
def rankI (u : Nat) : Int := if u / 2147483648 = 1 then -((u % 2147483648 : Nat) : Int) - 1 else u
def ofRank (r : Int) : Nat × Nat := if r < -2147483648 ∨ 2147483647 < r then (0, 12) else if r < 0 then (((-r - 1) + 2147483648).toNat, 0) else (r.toNat, 0)
/-- what the two sides give -/
structure TwoOk (n k lo hi : Nat) : Prop where
  l1 : lo < 4294967296
  l2 : lo % 2147483648 < 2139095040
  h1 : hi < 4294967296
  h2 : hi % 2147483648 < 2139095040
  below : fvI lo * k ≤ sv n
  above : sv n ≤ fvI hi * k
  both : fvI lo * k = sv n ↔ fvI hi * k = sv n
  same : fvI lo = fvI hi ↔ fvI lo * k = sv n
  e0 : (overN n k 0).2 = 0
  e1 : (overN n k 1).2 = 0
  even : fvI (overN n k 0).1 = fvI lo ∨ fvI (overN n k 0).1 = fvI hi
  zero : fvI (overN n k 1).1 = fvI lo ∨ fvI (overN n k 1).1 = fvI hi
  next : fvI lo * k ≠ sv n → lo ≠ 2147483648 ∧ (ofRank (rankI lo + 1)).2 = 0 ∧ (ofRank (rankI lo + 1)).1 = hi
  nextz : fvI lo * k ≠ sv n → fvI lo = 0 → hi = 1
theorem two_ok (n k : Nat) (hn : n < M384) (hk : 0 < k) (e2 : (overN n k 2).2 = 0) (e3 : (overN n k 3).2 = 0) : TwoOk n k (overN n k 2).1 (overN n k 3).1 := by
  by_cases h0 : n = 0
  · have e : ∀ mode, overN n k mode = (0, 0) := fun mode => by unfold overN; rw [if_pos h0]
    have s0 : sv n = 0 := by rw [h0]; decide
    have f0 : fvI 0 = 0 := by decide
    constructor <;> simp [e, s0, f0]
  · obtain ⟨neg, N, v, z, S⟩ := sides n k hn h0 hk
    have hd := S.down
    have hu := S.up
    have hz1 := S.zero
    obtain ⟨b, hb, he0⟩ := S.even
    have hv := mag_lt_iff v (v + 1)
    have hv1 := mag_succ v
    have hk' : (0 : Int) < k := by omega
    have hlo := S.lo
    have hhi := S.hi
    have heq := S.eq
    have hsg := S.sgn
    have hpos := S.pos
    have c1 : ((mag v : Nat) : Int) * k ≤ N := by exact_mod_cast hlo
    have c2 : (N : Int) < ((mag (v + 1) : Nat) : Int) * k := by exact_mod_cast hhi
    have c3 : z = false ↔ ((mag v : Nat) : Int) * k = N := by rw [heq]; exact_mod_cast Iff.rfl
    have vpos : z = false → 0 < v := fun hz => by
      rcases Nat.eq_zero_or_pos v with h | h
      · subst h; have := heq.1 hz; rw [mag_zero] at this; omega
      · exact h
    have vne : ((mag v : Nat) : Int) ≠ ((mag (v + 1) : Nat) : Int) := by omega
    have en : ∀ x : Int, -x * k = -(x * k) := fun x => Int.neg_mul _ _
    cases neg
    · simp only [Bool.false_eq_true, if_false] at hsg
      simp only [Bool.and_false, Bool.not_false, Bool.and_true, Bool.toNat_false, Nat.add_zero] at hd hu
      have hvl : v < 2139095040 := by
        rw [hd] at e2
        by_cases h : v < 2139095040
        · exact h
        · rw [if_neg h] at e2; simp at e2
      have hvu : v + z.toNat < 2139095040 := by
        rw [hu] at e3
        by_cases h : v + z.toNat < 2139095040
        · exact h
        · rw [if_neg h] at e3; simp at e3
      rw [if_pos hvl] at hd hz1
      rw [if_pos hvu] at hu
      have hbz : b.toNat ≤ z.toNat := by
        cases z
        · rw [hb rfl]; decide
        · cases b <;> decide
      rw [if_pos (by omega)] at he0
      have fl0 : fl v false = v := rfl
      cases z
      · have hbf := hb rfl
        subst hbf
        have q := c3.1 rfl
        simp only [Bool.toNat_false, Nat.add_zero] at hu he0
        rw [hd, hu]
        have fv := fvI_fl v false hvl
        simp only [Bool.false_eq_true, if_false] at fv
        constructor
        all_goals (try simp only [he0, hz1, fv, hsg, q])
        all_goals (try exact (fl_lt v false hvl).1)
        all_goals (try (rw [(fl_lt v false hvl).2]; exact hvl))
        all_goals simp
      · simp only [Bool.toNat_true] at hu hvu
        have q : ¬ ((mag v : Nat) : Int) * k = N := fun h => by have := c3.2 h; simp at this
        have q2 : ¬ ((mag (v + 1) : Nat) : Int) * k = N := by omega
        rw [hd, hu]
        have fv := fvI_fl v false hvl
        have fw := fvI_fl (v + 1) false hvu
        simp only [Bool.false_eq_true, if_false] at fv fw
        refine ⟨(fl_lt v false hvl).1, by rw [(fl_lt v false hvl).2]; exact hvl, (fl_lt (v + 1) false hvu).1, by rw [(fl_lt (v + 1) false hvu).2]; exact hvu, by simp only [fv, hsg]; exact c1, by simp only [fw, hsg]; omega, by simp only [fv, fw, hsg]; omega, by simp only [fv, fw, hsg]; omega, by rw [he0], by rw [hz1], ?_, by rw [hz1]; exact .inl rfl, ?_, ?_⟩
        · rw [he0]
          cases b
          · exact .inl rfl
          · exact .inr rfl
        · intro _
          show fl v false ≠ _ ∧ (ofRank (rankI (fl v false) + 1)).2 = 0 ∧ (ofRank (rankI (fl v false) + 1)).1 = fl (v + 1) false
          rw [fl0, show fl (v + 1) false = v + 1 by simp [fl]]
          have r : rankI v = v := by unfold rankI; rw [if_neg (by omega)]
          rw [r]
          unfold ofRank
          rw [if_neg (by omega), if_neg (by omega)]
          exact ⟨by omega, rfl, by omega⟩
        · intro _ hf
          simp only [fv] at hf
          have : v = 0 := by
            have h1 : mag v = mag 0 := by rw [mag_zero]; omega
            exact mag_inj h1
          subst this
          rfl
    · simp only [if_true] at hsg
      simp only [Bool.and_true, Bool.not_true, Bool.and_false, Bool.toNat_false, Nat.add_zero] at hd hu
      have hvl : v < 2139095040 := by
        rw [hu] at e3
        by_cases h : v < 2139095040
        · exact h
        · rw [if_neg h] at e3; simp at e3
      have hvu : v + z.toNat < 2139095040 := by
        rw [hd] at e2
        by_cases h : v + z.toNat < 2139095040
        · exact h
        · rw [if_neg h] at e2; simp at e2
      rw [if_pos hvl] at hu hz1
      rw [if_pos hvu] at hd
      have hbz : b.toNat ≤ z.toNat := by
        cases z
        · rw [hb rfl]; decide
        · cases b <;> decide
      rw [if_pos (by omega)] at he0
      obtain ⟨V, hV⟩ : ∃ V, V = fl v true := ⟨_, rfl⟩
      have fv := fvI_fl v true hvl
      have gv := fl_lt v true hvl
      simp only [if_true] at fv
      rw [← hV] at hu hz1 fv gv
      have hV2 : V = v + 2147483648 := by rw [hV]; simp [fl]
      clear hV
      cases z
      · have hbf := hb rfl
        subst hbf
        have q := c3.1 rfl
        simp only [Bool.toNat_false, Nat.add_zero] at hd he0
        obtain ⟨W, hW⟩ : ∃ W, W = fl v true := ⟨_, rfl⟩
        rw [← hW] at hd he0
        have hWV : W = V := by rw [hW, hV2]; simp [fl]
        subst hWV
        have p : fvI W * k = sv n := by rw [fv, hsg, en, q]
        rw [hd, hu]
        exact ⟨gv.1, by rw [gv.2]; exact hvl, gv.1, by rw [gv.2]; exact hvl, Int.le_of_eq p, Int.le_of_eq p.symm, Iff.rfl, ⟨fun _ => p, fun _ => rfl⟩, by rw [he0], by rw [hz1], .inl (by rw [he0]), .inl (by rw [hz1]), fun h => absurd p h, fun h => absurd p h⟩
      · simp only [Bool.toNat_true] at hd hvu
        have q : ¬ ((mag v : Nat) : Int) * k = N := fun h => by have := c3.2 h; simp at this
        have q2 : ¬ ((mag (v + 1) : Nat) : Int) * k = N := by omega
        obtain ⟨W, hW⟩ : ∃ W, W = fl (v + 1) true := ⟨_, rfl⟩
        have fw := fvI_fl (v + 1) true hvu
        have gw := fl_lt (v + 1) true hvu
        simp only [if_true] at fw
        rw [← hW] at hd fw gw
        have he1 : (overN n k 0).1 = V ∨ (overN n k 0).1 = W := by
          rw [he0]
          cases b
          · left; rw [hV2]; simp [fl]
          · right; rw [hW]; rfl
        have he2 : (overN n k 0).2 = 0 := by rw [he0]
        have hW2 : W = v + 1 + 2147483648 := by rw [hW]; simp [fl]
        clear hW he0
        have p1 : fvI W * k = -(((mag (v + 1) : Nat) : Int) * k) := by rw [fw, en]
        have p2 : fvI V * k = -(((mag v : Nat) : Int) * k) := by rw [fv, en]
        have pne : fvI W ≠ fvI V := by rw [fw, fv]; omega
        rw [hd, hu]
        refine ⟨gw.1, by rw [gw.2]; exact hvu, gv.1, by rw [gv.2]; exact hvl, by rw [p1, hsg]; omega, by rw [p2, hsg]; omega, by rw [p1, p2, hsg]; omega, ⟨fun h => absurd h pne, fun h => by rw [p1, hsg] at h; omega⟩, he2, by rw [hz1], ?_, by rw [hz1]; exact .inr rfl, ?_, ?_⟩
        · rcases he1 with h | h
          · exact .inr (by rw [h])
          · exact .inl (by rw [h])
        · intro _
          have r : rankI W = -((v + 1 : Nat) : Int) - 1 := by unfold rankI; rw [if_pos (by omega)]; omega
          have r2 : ofRank (rankI W + 1) = (V, 0) := by
            rw [r]
            unfold ofRank
            rw [if_neg (by omega), if_pos (by omega)]
            congr 1
            omega
          rw [r2]
          exact ⟨by omega, rfl, rfl⟩
        · intro _ hf
          rw [fw] at hf
          omega
end Go.Proofs.YtmnojohcfalodaaDoor
