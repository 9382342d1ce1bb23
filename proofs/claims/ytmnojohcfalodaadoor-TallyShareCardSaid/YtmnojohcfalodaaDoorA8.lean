/-
  The length of a sum, and whether one of the bits below is set, by walks.
-/
import Derived.Test.YtmnojohcfalodaaDoorA7
import Derived.Test.YtmnojohcfalodaaDoorA3
namespace Go.Proofs.YtmnojohcfalodaaDoor
set_option linter.unusedVariables false
set_option linter.unusedSimpArgs false
open Go.RowKit
theorem len64 (x : Nat) (hx : x < 18446744073709551616) (w : World) : Calls Tryd.prog 83 #[.int .u64 x] w fun e w' => e = .returned (.int .i64 (bitLen x : Nat)) ∧ w = w' :=
  (Tryd.bits_Len64 x w (by omega) (by omega)).mono fun _ _ ⟨h1, h2⟩ => ⟨by rw [h1, Int.toNat_natCast, libBitLen x hx], h2.symm⟩

theorem bitLen_le (x : Nat) (h : x < 18446744073709551616) : bitLen x ≤ 64 := by
  obtain ⟨_, h2⟩ := bitLen_spec x
  rcases Nat.lt_or_ge 64 (bitLen x) with h3 | h3
  · have : 2 ^ 64 ≤ 2 ^ (bitLen x - 1) := Nat.pow_le_pow_right (by decide) (by omega)
    have h0 : x ≠ 0 := by
      intro h0; subst h0
      exact absurd h3 (by decide)
    have := h2 h0
    omega
  · exact h3
theorem below_word (n k d : Nat) (hd : d ≤ 64) (h : n % 2 ^ (64 * k) = 0) : n % 2 ^ (64 * k + d) = 0 ↔ wd n k * 2 ^ (64 - d) % 18446744073709551616 = 0 := by
  have e : 2 ^ d * 2 ^ (64 - d) = 18446744073709551616 := by rw [← Nat.pow_add, show d + (64 - d) = 64 by omega]
  have hp : 0 < 2 ^ (64 * k) := Nat.pow_pos (by decide)
  have hq : 0 < 2 ^ (64 - d) := Nat.pow_pos (by decide)
  have h1 : wd n k * 2 ^ (64 - d) % 18446744073709551616 = n / 2 ^ (64 * k) % 2 ^ d * 2 ^ (64 - d) := by
    rw [← e, Nat.mul_mod_mul_right]
    unfold wd
    rw [← e, Nat.mod_mul_right_mod]
  rw [h1, Nat.pow_add, Nat.mod_mul, h, Nat.zero_add]
  constructor
  · intro h2
    rcases Nat.mul_eq_zero.1 h2 with h3 | h3
    · omega
    · rw [h3, Nat.zero_mul]
  · intro h2
    rcases Nat.mul_eq_zero.1 h2 with h3 | h3
    · rw [h3, Nat.mul_zero]
    · omega

def BelowAt (n i : Nat) (v : Value) : Prop := ∃ k : Nat, k ≤ 6 ∧ v = .int .i64 k ∧ n % 2 ^ (min (64 * k) i) = 0
set_option maxRecDepth 100000 in
set_option maxHeartbeats 1000000 in
theorem below_any (n i : Nat) (hi : i ≤ 384) (w : World) :
    Calls Tryd.prog 60 #[SV n, .int .i64 i] w fun e w' => e = .returned (.bool (decide (n % 2 ^ i ≠ 0))) ∧ Below w.heap.size w w' := by
  have hc : ∀ k, k < 6 → ((w.alloc (.cells #[Value.int .u64 (wd n 0 : Nat), .int .u64 (wd n 1 : Nat), .int .u64 (wd n 2 : Nat), .int .u64 (wd n 3 : Nat), .int .u64 (wd n 4 : Nat), .int .u64 (wd n 5 : Nat)] 27))).cell? ⟨w.heap.size, k, none⟩ = some (.int .u64 (wd n k : Nat)) := by
    intro k hk
    obtain rfl | rfl | rfl | rfl | rfl | rfl : k = 0 ∨ k = 1 ∨ k = 2 ∨ k = 3 ∨ k = 4 ∨ k = 5 := by omega
    all_goals simp [World.cell?_alloc_new]
  have HC := Lib.hid hc
  have bi : (i : Int) ≤ 384 := by omega
  clear hc
  go_enter Tryd.func60, Tryd.ntmps60
  go_wp2
  go_loop [7] (fun v => BelowAt n i v) (fun v => 6 - (intOf v).toNat)
  case atStart => exact ⟨0, by omega, rfl, by simp; omega⟩
  case round =>
    obtain ⟨k, hk, rfl, hz⟩ := hrel
    rcases Nat.lt_or_ge k 6 with hk6 | hk6
    · have hck := HC.out k hk6
      replace hk6 : (k : Int) < 6 := by omega
      rcases Int.lt_or_le (64 * (k : Int)) i with hd | hd
      · obtain ⟨d, hdd⟩ : ∃ d, d = min (i - 64 * k) 64 := ⟨_, rfl⟩
        have hd64 : d ≤ 64 := by omega
        rw [show min (64 * k) i = 64 * k by omega] at hz
        have hw := below_word n k d hd64 hz
        have hform : IntKind.u64.wrap (((wd n k : Nat) : Int) * 2 ^ (64 - min ((i : Int) - 64 * k) 64).toNat) = ((wd n k * 2 ^ (64 - d) % 18446744073709551616 : Nat) : Int) := by
          rw [IntKind.wrap_u64, show (64 - min ((i : Int) - 64 * k) 64).toNat = 64 - d by omega]; simp
        have hsum : 64 * k + d = min (64 * (k + 1)) i := by omega
        have hle : 64 * k + d ≤ i := by omega
        by_cases hb : n % 2 ^ (64 * k + d) = 0
        · have hnz : (IntKind.u64.wrap (((wd n k : Nat) : Int) * 2 ^ (64 - min ((i : Int) - 64 * k) 64).toNat) != 0) = false := by rw [hform, hw.1 hb]; rfl
          have HR := Lib.hid (hsum ▸ hb)
          clear hdd hd64 hz hw hform hsum hle hb
          go_wp2
          go_round
          case rel => exact ⟨k + 1, by omega, by go_num, HR.out⟩
          case measure => simp [intOf]; omega
        · have hnz : (IntKind.u64.wrap (((wd n k : Nat) : Int) * 2 ^ (64 - min ((i : Int) - 64 * k) 64).toNat) != 0) = true := by
            rw [hform, bne_iff_ne]
            intro h; exact hb (hw.2 (by omega))
          have hne : decide (n % 2 ^ i ≠ 0) = true := by
            rw [decide_eq_true_eq]
            intro h0
            apply hb
            obtain ⟨e, he⟩ : ∃ e, i = 64 * k + d + e := ⟨i - (64 * k + d), by omega⟩
            rw [he, Nat.pow_add] at h0
            have := Nat.mod_mul_right_mod n (2 ^ (64 * k + d)) (2 ^ e)
            rw [h0] at this
            rw [← this, Nat.zero_mod]
          have HN := Lib.hid hne
          clear hdd hd64 hz hw hform hsum hle hb hne
          go_wp2
          go_ret
          exact ⟨by have := HN.out; simp at this; simp [this], (Below.refl _ _).alloc (Nat.le_refl _) _⟩
      · rw [show min (64 * k) i = i by omega] at hz
        have HN := Lib.hid hz
        clear hz
        go_wp2
        go_ret
        exact ⟨by simp [HN.out], (Below.refl _ _).alloc (Nat.le_refl _) _⟩
    · obtain rfl : k = 6 := by omega
      rw [show min (64 * 6) i = i by omega] at hz
      have HN := Lib.hid hz
      clear hz
      go_wp2
      go_ret
      exact ⟨by simp [HN.out], (Below.refl _ _).alloc (Nat.le_refl _) _⟩

set_option maxRecDepth 100000 in
set_option maxHeartbeats 1000000 in
theorem length_5 (n : Nat)  (hne : wd n 5 ≠ 0) (w : World) :
    Calls Tryd.prog 59 #[SV n] w fun e w' => e = .returned (.int .i64 ((64 * 5 + bitLen (wd n 5) : Nat) : Int)) ∧ Below w.heap.size w w' := by
  have gt : (((wd n 5 : Nat) : Int) != 0) = true := by rw [bne_iff_ne]; omega
  have hl := wd_lt n 5
  have hb := (bitLen_le (wd n 5) hl)
  have HL := Lib.hid (fun W => len64 (wd n 5) hl W)
  clear hl hne
  go_enter Tryd.func59, Tryd.ntmps59
  go_wp2_with fail
  refine wp_loop_rounds 7 ?_
  refine rounds_step 6 ?_
  go_wp2_with fail
  refine (HL.out _).mono ?_
  rintro e w' ⟨rfl, rfl⟩
  go_wp2_with fail
  go_ret
  exact ⟨by simp, (Below.refl _ _).alloc (Nat.le_refl _) _⟩
set_option maxRecDepth 100000 in
set_option maxHeartbeats 1000000 in
theorem length_4 (n : Nat) (h5 : wd n 5 = 0) (hne : wd n 4 ≠ 0) (w : World) :
    Calls Tryd.prog 59 #[SV n] w fun e w' => e = .returned (.int .i64 ((64 * 4 + bitLen (wd n 4) : Nat) : Int)) ∧ Below w.heap.size w w' := by
  have g5 : (((wd n 5 : Nat) : Int) != 0) = false := by rw [h5]; rfl
  clear h5
  have gt : (((wd n 4 : Nat) : Int) != 0) = true := by rw [bne_iff_ne]; omega
  have hl := wd_lt n 4
  have hb := (bitLen_le (wd n 4) hl)
  have HL := Lib.hid (fun W => len64 (wd n 4) hl W)
  clear hl hne
  go_enter Tryd.func59, Tryd.ntmps59
  go_wp2_with fail
  refine wp_loop_rounds 7 ?_
  refine rounds_step 6 ?_
  go_wp2_with fail
  refine rounds_step 5 ?_
  go_wp2_with fail
  refine (HL.out _).mono ?_
  rintro e w' ⟨rfl, rfl⟩
  go_wp2_with fail
  go_ret
  exact ⟨by simp, (Below.refl _ _).alloc (Nat.le_refl _) _⟩
set_option maxRecDepth 100000 in
set_option maxHeartbeats 1000000 in
theorem length_3 (n : Nat) (h5 : wd n 5 = 0) (h4 : wd n 4 = 0) (hne : wd n 3 ≠ 0) (w : World) :
    Calls Tryd.prog 59 #[SV n] w fun e w' => e = .returned (.int .i64 ((64 * 3 + bitLen (wd n 3) : Nat) : Int)) ∧ Below w.heap.size w w' := by
  have g5 : (((wd n 5 : Nat) : Int) != 0) = false := by rw [h5]; rfl
  clear h5
  have g4 : (((wd n 4 : Nat) : Int) != 0) = false := by rw [h4]; rfl
  clear h4
  have gt : (((wd n 3 : Nat) : Int) != 0) = true := by rw [bne_iff_ne]; omega
  have hl := wd_lt n 3
  have hb := (bitLen_le (wd n 3) hl)
  have HL := Lib.hid (fun W => len64 (wd n 3) hl W)
  clear hl hne
  go_enter Tryd.func59, Tryd.ntmps59
  go_wp2_with fail
  refine wp_loop_rounds 7 ?_
  refine rounds_step 6 ?_
  go_wp2_with fail
  refine rounds_step 5 ?_
  go_wp2_with fail
  refine rounds_step 4 ?_
  go_wp2_with fail
  refine (HL.out _).mono ?_
  rintro e w' ⟨rfl, rfl⟩
  go_wp2_with fail
  go_ret
  exact ⟨by simp, (Below.refl _ _).alloc (Nat.le_refl _) _⟩
set_option maxRecDepth 100000 in
set_option maxHeartbeats 1000000 in
theorem length_2 (n : Nat) (h5 : wd n 5 = 0) (h4 : wd n 4 = 0) (h3 : wd n 3 = 0) (hne : wd n 2 ≠ 0) (w : World) :
    Calls Tryd.prog 59 #[SV n] w fun e w' => e = .returned (.int .i64 ((64 * 2 + bitLen (wd n 2) : Nat) : Int)) ∧ Below w.heap.size w w' := by
  have g5 : (((wd n 5 : Nat) : Int) != 0) = false := by rw [h5]; rfl
  clear h5
  have g4 : (((wd n 4 : Nat) : Int) != 0) = false := by rw [h4]; rfl
  clear h4
  have g3 : (((wd n 3 : Nat) : Int) != 0) = false := by rw [h3]; rfl
  clear h3
  have gt : (((wd n 2 : Nat) : Int) != 0) = true := by rw [bne_iff_ne]; omega
  have hl := wd_lt n 2
  have hb := (bitLen_le (wd n 2) hl)
  have HL := Lib.hid (fun W => len64 (wd n 2) hl W)
  clear hl hne
  go_enter Tryd.func59, Tryd.ntmps59
  go_wp2_with fail
  refine wp_loop_rounds 7 ?_
  refine rounds_step 6 ?_
  go_wp2_with fail
  refine rounds_step 5 ?_
  go_wp2_with fail
  refine rounds_step 4 ?_
  go_wp2_with fail
  refine rounds_step 3 ?_
  go_wp2_with fail
  refine (HL.out _).mono ?_
  rintro e w' ⟨rfl, rfl⟩
  go_wp2_with fail
  go_ret
  exact ⟨by simp, (Below.refl _ _).alloc (Nat.le_refl _) _⟩
set_option maxRecDepth 100000 in
set_option maxHeartbeats 1000000 in
theorem length_1 (n : Nat) (h5 : wd n 5 = 0) (h4 : wd n 4 = 0) (h3 : wd n 3 = 0) (h2 : wd n 2 = 0) (hne : wd n 1 ≠ 0) (w : World) :
    Calls Tryd.prog 59 #[SV n] w fun e w' => e = .returned (.int .i64 ((64 * 1 + bitLen (wd n 1) : Nat) : Int)) ∧ Below w.heap.size w w' := by
  have g5 : (((wd n 5 : Nat) : Int) != 0) = false := by rw [h5]; rfl
  clear h5
  have g4 : (((wd n 4 : Nat) : Int) != 0) = false := by rw [h4]; rfl
  clear h4
  have g3 : (((wd n 3 : Nat) : Int) != 0) = false := by rw [h3]; rfl
  clear h3
  have g2 : (((wd n 2 : Nat) : Int) != 0) = false := by rw [h2]; rfl
  clear h2
  have gt : (((wd n 1 : Nat) : Int) != 0) = true := by rw [bne_iff_ne]; omega
  have hl := wd_lt n 1
  have hb := (bitLen_le (wd n 1) hl)
  have HL := Lib.hid (fun W => len64 (wd n 1) hl W)
  clear hl hne
  go_enter Tryd.func59, Tryd.ntmps59
  go_wp2_with fail
  refine wp_loop_rounds 7 ?_
  refine rounds_step 6 ?_
  go_wp2_with fail
  refine rounds_step 5 ?_
  go_wp2_with fail
  refine rounds_step 4 ?_
  go_wp2_with fail
  refine rounds_step 3 ?_
  go_wp2_with fail
  refine rounds_step 2 ?_
  go_wp2_with fail
  refine (HL.out _).mono ?_
  rintro e w' ⟨rfl, rfl⟩
  go_wp2_with fail
  go_ret
  exact ⟨by simp, (Below.refl _ _).alloc (Nat.le_refl _) _⟩
set_option maxRecDepth 100000 in
set_option maxHeartbeats 1000000 in
theorem length_0 (n : Nat) (h5 : wd n 5 = 0) (h4 : wd n 4 = 0) (h3 : wd n 3 = 0) (h2 : wd n 2 = 0) (h1 : wd n 1 = 0) (hne : wd n 0 ≠ 0) (w : World) :
    Calls Tryd.prog 59 #[SV n] w fun e w' => e = .returned (.int .i64 ((64 * 0 + bitLen (wd n 0) : Nat) : Int)) ∧ Below w.heap.size w w' := by
  have g5 : (((wd n 5 : Nat) : Int) != 0) = false := by rw [h5]; rfl
  clear h5
  have g4 : (((wd n 4 : Nat) : Int) != 0) = false := by rw [h4]; rfl
  clear h4
  have g3 : (((wd n 3 : Nat) : Int) != 0) = false := by rw [h3]; rfl
  clear h3
  have g2 : (((wd n 2 : Nat) : Int) != 0) = false := by rw [h2]; rfl
  clear h2
  have g1 : (((wd n 1 : Nat) : Int) != 0) = false := by rw [h1]; rfl
  clear h1
  have gt : (((wd n 0 : Nat) : Int) != 0) = true := by rw [bne_iff_ne]; omega
  have hl := wd_lt n 0
  have hb := (bitLen_le (wd n 0) hl)
  have HL := Lib.hid (fun W => len64 (wd n 0) hl W)
  clear hl hne
  go_enter Tryd.func59, Tryd.ntmps59
  go_wp2_with fail
  refine wp_loop_rounds 7 ?_
  refine rounds_step 6 ?_
  go_wp2_with fail
  refine rounds_step 5 ?_
  go_wp2_with fail
  refine rounds_step 4 ?_
  go_wp2_with fail
  refine rounds_step 3 ?_
  go_wp2_with fail
  refine rounds_step 2 ?_
  go_wp2_with fail
  refine rounds_step 1 ?_
  go_wp2_with fail
  refine (HL.out _).mono ?_
  rintro e w' ⟨rfl, rfl⟩
  go_wp2_with fail
  go_ret
  exact ⟨by simp, (Below.refl _ _).alloc (Nat.le_refl _) _⟩
set_option maxRecDepth 100000 in
set_option maxHeartbeats 1000000 in
theorem length_z (n : Nat) (h5 : wd n 5 = 0) (h4 : wd n 4 = 0) (h3 : wd n 3 = 0) (h2 : wd n 2 = 0) (h1 : wd n 1 = 0) (h0 : wd n 0 = 0) (w : World) :
    Calls Tryd.prog 59 #[SV n] w fun e w' => e = .returned (.int .i64 ((0 : Nat) : Int)) ∧ Below w.heap.size w w' := by
  have g5 : (((wd n 5 : Nat) : Int) != 0) = false := by rw [h5]; rfl
  clear h5
  have g4 : (((wd n 4 : Nat) : Int) != 0) = false := by rw [h4]; rfl
  clear h4
  have g3 : (((wd n 3 : Nat) : Int) != 0) = false := by rw [h3]; rfl
  clear h3
  have g2 : (((wd n 2 : Nat) : Int) != 0) = false := by rw [h2]; rfl
  clear h2
  have g1 : (((wd n 1 : Nat) : Int) != 0) = false := by rw [h1]; rfl
  clear h1
  have g0 : (((wd n 0 : Nat) : Int) != 0) = false := by rw [h0]; rfl
  clear h0
  go_enter Tryd.func59, Tryd.ntmps59
  go_wp2_with fail
  refine wp_loop_rounds 7 ?_
  refine rounds_step 6 ?_
  go_wp2_with fail
  refine rounds_step 5 ?_
  go_wp2_with fail
  refine rounds_step 4 ?_
  go_wp2_with fail
  refine rounds_step 3 ?_
  go_wp2_with fail
  refine rounds_step 2 ?_
  go_wp2_with fail
  refine rounds_step 1 ?_
  go_wp2_with fail
  refine rounds_step 0 ?_
  go_wp2_with fail
  go_ret
  exact ⟨by simp, (Below.refl _ _).alloc (Nat.le_refl _) _⟩
theorem length_any (n : Nat) (hn : n < M384) (w : World) :
    Calls Tryd.prog 59 #[SV n] w fun e w' => e = .returned (.int .i64 ((bitLen n : Nat) : Int)) ∧ Below w.heap.size w w' := by
  obtain ⟨i, hi⟩ : ∃ i, i = 5 := ⟨_, rfl⟩
  obtain ⟨j, hj⟩ : ∃ j, j = 4 := ⟨_, rfl⟩
  have l5 := lt_pow6 n hn i hi
  have hl5 := fun h => len_at n i l5 h
  have l4 : wd n 5 = 0 → n < 2 ^ (64 * (j + 1)) := fun h => by
    have h2 := lt_of_wd n i l5 (by rw [hi]; exact h)
    rw [show i = j + 1 by omega] at h2
    exact h2
  have hl4 := fun h h' => len_at n j (l4 h) h'
  have l3 : wd n 5 = 0 → wd n 4 = 0 → n < 2 ^ (64 * j) := fun h h' => lt_of_wd n j (l4 h) (by rw [hj]; exact h')
  clear l4 l5
  rw [hi] at hl5
  rw [hj] at hl4 l3
  clear hi hj
  by_cases h5 : wd n 5 = 0
  · by_cases h4 : wd n 4 = 0
    · have l3 := l3 h5 h4
      by_cases h3 : wd n 3 = 0
      · have l2 := lt_of_wd n 3 l3 h3
        by_cases h2 : wd n 2 = 0
        · have l1 := lt_of_wd n 2 l2 h2
          by_cases h1 : wd n 1 = 0
          · have l0 := lt_of_wd n 1 l1 h1
            by_cases h0 : wd n 0 = 0
            · have := lt_of_wd n 0 l0 h0
              have e : n = 0 := by simpa using this
              rw [show bitLen n = 0 by rw [e]; rfl]
              exact length_z n h5 h4 h3 h2 h1 h0 w
            · rw [len_at n 0 l0 h0]; exact length_0 n h5 h4 h3 h2 h1 h0 w
          · rw [len_at n 1 l1 h1]; exact length_1 n h5 h4 h3 h2 h1 w
        · rw [len_at n 2 l2 h2]; exact length_2 n h5 h4 h3 h2 w
      · rw [len_at n 3 l3 h3]; exact length_3 n h5 h4 h3 w
    · rw [hl4 h5 h4]; exact length_4 n h5 h4 w
  · rw [hl5 h5]; exact length_5 n h5 w
end Go.Proofs.YtmnojohcfalodaaDoor
