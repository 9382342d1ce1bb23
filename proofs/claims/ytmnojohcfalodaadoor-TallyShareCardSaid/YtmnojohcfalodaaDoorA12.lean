/-
  Over and Round, by walks.
-/
import Derived.Test.YtmnojohcfalodaaDoorA11
import Derived.Test.YtmnojohcfalodaaDoorA10
import Derived.Test.YtmnojohcfalodaaDoorNa
namespace Go.Proofs.YtmnojohcfalodaaDoor
set_option linter.unusedVariables false
set_option linter.unusedSimpArgs false
open Go.RowKit
theorem Below.zero_le {B : Nat} {w w' : World} (h : Below B w w') : w.heap.size ≤ w'.heap.size := h.size
set_option maxRecDepth 100000 in
set_option maxHeartbeats 1000000 in
theorem over_zero (k : Nat) (hk : 0 < k) (mode : Nat) (hmo : mode ≤ 3) (w : World) :
    Calls Tryd.prog 22 #[SV 0, .int .u64 k, .int .i64 mode] w fun e w' => e = .returned (.tuple #[.float .f32 0, .int .i64 0]) ∧ Below w.heap.size w w' := by
  have f1 : ((k : Int) == 0) = false := by rw [beq_eq_false_iff_ne]; omega
  have d1 : decide ((mode : Int) < 0) = false := by simp <;> omega
  have d2 : decide ((4 : Int) ≤ mode) = false := by simp <;> omega
  have hz : magN 0 = 0 := rfl
  have HA := Lib.hid (fun W => apart_any 0 (by decide) W)
  rw [hz, show decide (H383 ≤ 0) = false by decide] at HA
  have hq := run_eql_zero 0 (by decide)
  go_enter Tryd.func22, Tryd.ntmps22
  go_wp2_with fail
  refine (HA.out _).mono ?_
  rintro e w1 ⟨rfl, hb1⟩
  have hz1 := hb1.size
  simp only [World.size_alloc] at hz1
  have HB1 := Lib.hid hb1; clear hb1
  go_wp2_with fail
  go_ret2
  refine ⟨rfl, ?_⟩
  repeat (first | with_reducible exact Below.refl _ _ | ((with_reducible refine Below.setCell ?_ ?hp _); case hp => (first | omega | (simp <;> omega))) | ((with_reducible refine Below.alloc ?_ ?hp _); case hp => (first | omega | (simp <;> omega))) | (with_reducible refine Below.drew ?_) | ((with_reducible refine Below.trans ?_ (HB1.out.mono ?hm)); case hm => (first | omega | (simp <;> omega))))
set_option maxRecDepth 100000 in
set_option maxHeartbeats 4000000 in
theorem over_pos (n : Nat) (hn : n < M384) (hn0 : n ≠ 0) (k : Nat) (hk : 0 < k) (hk2 : k < 18446744073709551616) (mode : Nat) (hmo : mode ≤ 3) (w : World) (hM : Modes w) :
    Calls Tryd.prog 22 #[SV n, .int .u64 k, .int .i64 mode] w fun e w' => e = .returned (.tuple #[.float .f32 (overN n k mode).1, .int .i64 ((overN n k mode).2 : Nat)]) ∧ Below w.heap.size w w' := by
  have f1 : ((k : Int) == 0) = false := by rw [beq_eq_false_iff_ne]; omega
  have d1 : decide ((mode : Int) < 0) = false := by simp <;> omega
  have d2 : decide ((4 : Int) ≤ mode) = false := by simp <;> omega
  have HA := Lib.hid (fun W => apart_any n hn W)
  obtain ⟨m, hm⟩ : ∃ m, m = magN n := ⟨_, rfl⟩
  obtain ⟨sg, hsg⟩ : ∃ sg, sg = decide (H383 ≤ n) := ⟨_, rfl⟩
  rw [← hm, ← hsg] at HA
  have hml : m < M384 := by rw [hm]; exact magN_lt n hn
  have hm0 : m ≠ 0 := by rw [hm]; intro h; exact hn0 ((magN_zero n hn).1 h)
  have hq : ∀ w, (binOp .eql 27 (SV m) (.agg #[.int .u64 0, .int .u64 0, .int .u64 0, .int .u64 0, .int .u64 0, .int .u64 0])).run Tryd.prog w = .ok (.bool false) w := fun w => by
    rw [run_eql_zero m hml w, show decide (m = 0) = false by simp [hm0]]
  obtain ⟨Q, hQ⟩ : ∃ Q, Q = m / k := ⟨_, rfl⟩
  obtain ⟨i5, hi5⟩ : ∃ i, i = 5 := ⟨_, rfl⟩
  obtain ⟨r5, hr5⟩ : ∃ r, r = m / 2 ^ (64 * i5) % k := ⟨_, rfl⟩
  obtain ⟨r4, hr4⟩ : ∃ r, r = m / 2 ^ (64 * 4) % k := ⟨_, rfl⟩
  obtain ⟨r3, hr3⟩ : ∃ r, r = m / 2 ^ (64 * 3) % k := ⟨_, rfl⟩
  obtain ⟨r2, hr2⟩ : ∃ r, r = m / 2 ^ (64 * 2) % k := ⟨_, rfl⟩
  obtain ⟨r1, hr1⟩ : ∃ r, r = m / 2 ^ (64 * 1) % k := ⟨_, rfl⟩
  obtain ⟨r0, hr0⟩ : ∃ r, r = m / 2 ^ (64 * 0) % k := ⟨_, rfl⟩
  have s5 := div_step m k i5 hk
  have z6 : m / 2 ^ (64 * (i5 + 1)) = 0 := Nat.div_eq_of_lt (lt_pow6 m hml i5 hi5)
  rw [z6, ← hr5, Nat.zero_mod, Nat.zero_mul, Nat.zero_add, hi5, ← hQ] at s5
  have HD5 := Lib.hid (fun W => s5.1 ▸ s5.2 ▸ div64_small (wd m 5) k hk (wd_lt _ _) hk2 W)
  obtain ⟨i4, hi4⟩ : ∃ i, i = 4 := ⟨_, rfl⟩
  rw [show i5 = i4 + 1 by omega] at hr5
  have s4 := div_step m k i4 hk
  rw [← hr5, hi4, ← hr4, ← hQ] at s4
  have s3 := div_step m k 3 hk
  rw [← hr4, ← hr3, ← hQ] at s3
  have s2 := div_step m k 2 hk
  rw [← hr3, ← hr2, ← hQ] at s2
  have s1 := div_step m k 1 hk
  rw [← hr2, ← hr1, ← hQ] at s1
  have s0 := div_step m k 0 hk
  rw [← hr1, ← hr0, ← hQ] at s0
  have l5 : r5 < k := by rw [hr5]; exact Nat.mod_lt _ hk
  have HD4 := Lib.hid (fun W => s4.1 ▸ s4.2 ▸ div64_any r5 (wd m 4) k l5 (wd_lt _ _) hk2 W)
  have l4 : r4 < k := by rw [hr4]; exact Nat.mod_lt _ hk
  have HD3 := Lib.hid (fun W => s3.1 ▸ s3.2 ▸ div64_any r4 (wd m 3) k l4 (wd_lt _ _) hk2 W)
  have l3 : r3 < k := by rw [hr3]; exact Nat.mod_lt _ hk
  have HD2 := Lib.hid (fun W => s2.1 ▸ s2.2 ▸ div64_any r3 (wd m 2) k l3 (wd_lt _ _) hk2 W)
  have l2 : r2 < k := by rw [hr2]; exact Nat.mod_lt _ hk
  have HD1 := Lib.hid (fun W => s1.1 ▸ s1.2 ▸ div64_any r2 (wd m 1) k l2 (wd_lt _ _) hk2 W)
  have l1 : r1 < k := by rw [hr1]; exact Nat.mod_lt _ hk
  have HD0 := Lib.hid (fun W => s0.1 ▸ s0.2 ▸ div64_any r1 (wd m 0) k l1 (wd_lt _ _) hk2 W)
  have l0 : r0 < k := by rw [hr0]; exact Nat.mod_lt _ hk
  have hr0' : r0 = m % k := by rw [hr0]; simp
  obtain ⟨P1, hP1⟩ : ∃ P1, P1 = (overN n k mode).1 := ⟨_, rfl⟩
  obtain ⟨P2, hP2⟩ : ∃ P2, P2 = (overN n k mode).2 := ⟨_, rfl⟩
  have hov : overN n k mode = packN sg Q (decide (k - r0 ≤ r0)) (decide (r0 ≠ 0 ∧ r0 ≠ k - r0)) mode := by
    unfold overN
    rw [if_neg hn0]
    simp only [← hm, ← hsg, ← hQ, ← hr0']
  rw [← hP1, ← hP2]
  rw [hov] at hP1 hP2
  have hQl : Q < M384 := by rw [hQ]; exact Nat.lt_of_le_of_lt (Nat.div_le_self _ _) hml
  obtain ⟨hf, hhf⟩ : ∃ hf, hf = decide (k - r0 ≤ r0) := ⟨_, rfl⟩
  have dh : decide ((k : Int) - r0 ≤ r0) = hf := by rw [hhf, Bool.eq_iff_iff]; simp only [decide_eq_true_eq]; omega
  obtain ⟨rs, hrs⟩ : ∃ rs, rs = decide (r0 ≠ 0 ∧ r0 ≠ k - r0) := ⟨_, rfl⟩
  rw [← hhf, ← hrs] at hP1 hP2
  have HPk := Lib.hid (fun W hW => packed_any sg Q hQl hf rs mode hmo W hW)
  rw [← hP1, ← hP2] at HPk
  have HRS := Lib.hid hrs
  have HMo := Lib.hid hM
  clear hn hn0 hmo hm hsg hml hm0 hQ hr5 hr4 hr3 hr2 hr1 hr0 hr0' s5 s4 s3 s2 s1 s0 z6 hi5 hi4 hP1 hP2 hov hQl hhf hrs hM
  replace l0 : (r0 : Int) < k := by omega
  replace l1 : (r1 : Int) < k := by omega
  replace l2 : (r2 : Int) < k := by omega
  replace l3 : (r3 : Int) < k := by omega
  replace l4 : (r4 : Int) < k := by omega
  replace l5 : (r5 : Int) < k := by omega
  replace hk : (0 : Int) < k := by omega
  replace hk2 : (k : Int) < 18446744073709551616 := by omega
  go_enter Tryd.func22, Tryd.ntmps22
  go_wp2_with fail
  refine (HA.out _).mono ?_
  rintro e w1 ⟨rfl, hb1⟩
  obtain ⟨hc1, hf1, hz1⟩ := kept_to hb1 (w.heap.size + 1) (by simp)
  have HB1 := Lib.hid hb1; clear hb1
  go_wp2_with fail
  refine wp_loop_rounds 7 ?_
  refine rounds_step 6 ?_
  go_wp2_with fail
  refine (HD5.out _).mono ?_
  rintro e v5 ⟨rfl, hb⟩
  obtain ⟨hcv5, hfv5, hzv5⟩ := kept_to hb (w1.heap.size + 1) (by first | omega | (simp <;> omega))
  have HV5 := Lib.hid hb; clear hb
  go_wp2_with fail
  refine rounds_step 5 ?_
  go_wp2_with fail
  refine (HD4.out _).mono ?_
  rintro e v4 ⟨rfl, hb⟩
  obtain ⟨hcv4, hfv4, hzv4⟩ := kept_to hb (w1.heap.size + 1) (by first | omega | (simp <;> omega))
  have HV4 := Lib.hid hb; clear hb
  go_wp2_with fail
  refine rounds_step 4 ?_
  go_wp2_with fail
  refine (HD3.out _).mono ?_
  rintro e v3 ⟨rfl, hb⟩
  obtain ⟨hcv3, hfv3, hzv3⟩ := kept_to hb (w1.heap.size + 1) (by first | omega | (simp <;> omega))
  have HV3 := Lib.hid hb; clear hb
  go_wp2_with fail
  refine rounds_step 3 ?_
  go_wp2_with fail
  refine (HD2.out _).mono ?_
  rintro e v2 ⟨rfl, hb⟩
  obtain ⟨hcv2, hfv2, hzv2⟩ := kept_to hb (w1.heap.size + 1) (by first | omega | (simp <;> omega))
  have HV2 := Lib.hid hb; clear hb
  go_wp2_with fail
  refine rounds_step 2 ?_
  go_wp2_with fail
  refine (HD1.out _).mono ?_
  rintro e v1 ⟨rfl, hb⟩
  obtain ⟨hcv1, hfv1, hzv1⟩ := kept_to hb (w1.heap.size + 1) (by first | omega | (simp <;> omega))
  have HV1 := Lib.hid hb; clear hb
  go_wp2_with fail
  refine rounds_step 1 ?_
  go_wp2_with fail
  refine (HD0.out _).mono ?_
  rintro e v0 ⟨rfl, hb⟩
  obtain ⟨hcv0, hfv0, hzv0⟩ := kept_to hb (w1.heap.size + 1) (by first | omega | (simp <;> omega))
  have HV0 := Lib.hid hb; clear hb
  go_wp2_with fail
  refine rounds_step 0 ?_
  have lt3 := HMo.out.lt
  rcases Int.lt_or_le 0 (r0 : Int) with h0 | h0
  · have g0 : ((r0 : Int) != 0) = true := by rw [bne_iff_ne]; omega
    by_cases h1 : r0 = k - r0
    · have g1 : ((r0 : Int) != (k : Int) - r0) = false := by rw [bne_eq_false_iff_eq]; omega
      have hr : rs = false := by rw [HRS.out]; simp only [decide_eq_false_iff_not]; omega
      subst hr
      clear h1
      go_wp2_with fail
      refine (HPk.out _ (HMo.out.keep (show Below w.heap.size w _ from by
        repeat (first | with_reducible exact Below.refl _ _ | ((with_reducible refine Below.setCell ?_ ?hp _); case hp => (first | omega | (simp <;> omega))) | ((with_reducible refine Below.alloc ?_ ?hp _); case hp => (first | omega | (simp <;> omega))) | (with_reducible refine Below.drew ?_) | ((with_reducible refine Below.trans ?_ (HV0.out.mono ?hm)); case hm => (first | omega | (simp <;> omega))) | ((with_reducible refine Below.trans ?_ (HV1.out.mono ?hm)); case hm => (first | omega | (simp <;> omega))) | ((with_reducible refine Below.trans ?_ (HV2.out.mono ?hm)); case hm => (first | omega | (simp <;> omega))) | ((with_reducible refine Below.trans ?_ (HV3.out.mono ?hm)); case hm => (first | omega | (simp <;> omega))) | ((with_reducible refine Below.trans ?_ (HV4.out.mono ?hm)); case hm => (first | omega | (simp <;> omega))) | ((with_reducible refine Below.trans ?_ (HV5.out.mono ?hm)); case hm => (first | omega | (simp <;> omega))) | ((with_reducible refine Below.trans ?_ (HB1.out.mono ?hm)); case hm => (first | omega | (simp <;> omega))))) HMo.out.lt)).mono ?_
      rintro e v7 ⟨rfl, hb7⟩
      have HV7 := Lib.hid hb7; clear hb7
      go_wp2_with fail
      go_ret2
      refine ⟨by simp, ?_⟩
      repeat (first | with_reducible exact Below.refl _ _ | ((with_reducible refine Below.setCell ?_ ?hp _); case hp => (first | omega | (simp <;> omega))) | ((with_reducible refine Below.alloc ?_ ?hp _); case hp => (first | omega | (simp <;> omega))) | (with_reducible refine Below.drew ?_) | ((with_reducible refine Below.trans ?_ (HV7.out.mono ?hm)); case hm => (first | omega | (simp <;> omega))) | ((with_reducible refine Below.trans ?_ (HV0.out.mono ?hm)); case hm => (first | omega | (simp <;> omega))) | ((with_reducible refine Below.trans ?_ (HV1.out.mono ?hm)); case hm => (first | omega | (simp <;> omega))) | ((with_reducible refine Below.trans ?_ (HV2.out.mono ?hm)); case hm => (first | omega | (simp <;> omega))) | ((with_reducible refine Below.trans ?_ (HV3.out.mono ?hm)); case hm => (first | omega | (simp <;> omega))) | ((with_reducible refine Below.trans ?_ (HV4.out.mono ?hm)); case hm => (first | omega | (simp <;> omega))) | ((with_reducible refine Below.trans ?_ (HV5.out.mono ?hm)); case hm => (first | omega | (simp <;> omega))) | ((with_reducible refine Below.trans ?_ (HB1.out.mono ?hm)); case hm => (first | omega | (simp <;> omega))))
    · have g1 : ((r0 : Int) != (k : Int) - r0) = true := by rw [bne_iff_ne]; omega
      have hr : rs = true := by rw [HRS.out]; simp only [decide_eq_true_eq]; omega
      subst hr
      clear h1
      go_wp2_with fail
      refine (HPk.out _ (HMo.out.keep (show Below w.heap.size w _ from by
        repeat (first | with_reducible exact Below.refl _ _ | ((with_reducible refine Below.setCell ?_ ?hp _); case hp => (first | omega | (simp <;> omega))) | ((with_reducible refine Below.alloc ?_ ?hp _); case hp => (first | omega | (simp <;> omega))) | (with_reducible refine Below.drew ?_) | ((with_reducible refine Below.trans ?_ (HV0.out.mono ?hm)); case hm => (first | omega | (simp <;> omega))) | ((with_reducible refine Below.trans ?_ (HV1.out.mono ?hm)); case hm => (first | omega | (simp <;> omega))) | ((with_reducible refine Below.trans ?_ (HV2.out.mono ?hm)); case hm => (first | omega | (simp <;> omega))) | ((with_reducible refine Below.trans ?_ (HV3.out.mono ?hm)); case hm => (first | omega | (simp <;> omega))) | ((with_reducible refine Below.trans ?_ (HV4.out.mono ?hm)); case hm => (first | omega | (simp <;> omega))) | ((with_reducible refine Below.trans ?_ (HV5.out.mono ?hm)); case hm => (first | omega | (simp <;> omega))) | ((with_reducible refine Below.trans ?_ (HB1.out.mono ?hm)); case hm => (first | omega | (simp <;> omega))))) HMo.out.lt)).mono ?_
      rintro e v7 ⟨rfl, hb7⟩
      have HV7 := Lib.hid hb7; clear hb7
      go_wp2_with fail
      go_ret2
      refine ⟨by simp, ?_⟩
      repeat (first | with_reducible exact Below.refl _ _ | ((with_reducible refine Below.setCell ?_ ?hp _); case hp => (first | omega | (simp <;> omega))) | ((with_reducible refine Below.alloc ?_ ?hp _); case hp => (first | omega | (simp <;> omega))) | (with_reducible refine Below.drew ?_) | ((with_reducible refine Below.trans ?_ (HV7.out.mono ?hm)); case hm => (first | omega | (simp <;> omega))) | ((with_reducible refine Below.trans ?_ (HV0.out.mono ?hm)); case hm => (first | omega | (simp <;> omega))) | ((with_reducible refine Below.trans ?_ (HV1.out.mono ?hm)); case hm => (first | omega | (simp <;> omega))) | ((with_reducible refine Below.trans ?_ (HV2.out.mono ?hm)); case hm => (first | omega | (simp <;> omega))) | ((with_reducible refine Below.trans ?_ (HV3.out.mono ?hm)); case hm => (first | omega | (simp <;> omega))) | ((with_reducible refine Below.trans ?_ (HV4.out.mono ?hm)); case hm => (first | omega | (simp <;> omega))) | ((with_reducible refine Below.trans ?_ (HV5.out.mono ?hm)); case hm => (first | omega | (simp <;> omega))) | ((with_reducible refine Below.trans ?_ (HB1.out.mono ?hm)); case hm => (first | omega | (simp <;> omega))))
  · have g0 : ((r0 : Int) != 0) = false := by rw [bne_eq_false_iff_eq]; omega
    have hr : rs = false := by rw [HRS.out]; simp only [decide_eq_false_iff_not]; omega
    subst hr
    go_wp2_with fail
    refine (HPk.out _ (HMo.out.keep (show Below w.heap.size w _ from by
      repeat (first | with_reducible exact Below.refl _ _ | ((with_reducible refine Below.setCell ?_ ?hp _); case hp => (first | omega | (simp <;> omega))) | ((with_reducible refine Below.alloc ?_ ?hp _); case hp => (first | omega | (simp <;> omega))) | (with_reducible refine Below.drew ?_) | ((with_reducible refine Below.trans ?_ (HV0.out.mono ?hm)); case hm => (first | omega | (simp <;> omega))) | ((with_reducible refine Below.trans ?_ (HV1.out.mono ?hm)); case hm => (first | omega | (simp <;> omega))) | ((with_reducible refine Below.trans ?_ (HV2.out.mono ?hm)); case hm => (first | omega | (simp <;> omega))) | ((with_reducible refine Below.trans ?_ (HV3.out.mono ?hm)); case hm => (first | omega | (simp <;> omega))) | ((with_reducible refine Below.trans ?_ (HV4.out.mono ?hm)); case hm => (first | omega | (simp <;> omega))) | ((with_reducible refine Below.trans ?_ (HV5.out.mono ?hm)); case hm => (first | omega | (simp <;> omega))) | ((with_reducible refine Below.trans ?_ (HB1.out.mono ?hm)); case hm => (first | omega | (simp <;> omega))))) HMo.out.lt)).mono ?_
    rintro e v7 ⟨rfl, hb7⟩
    have HV7 := Lib.hid hb7; clear hb7
    go_wp2_with fail
    go_ret2
    refine ⟨by simp, ?_⟩
    repeat (first | with_reducible exact Below.refl _ _ | ((with_reducible refine Below.setCell ?_ ?hp _); case hp => (first | omega | (simp <;> omega))) | ((with_reducible refine Below.alloc ?_ ?hp _); case hp => (first | omega | (simp <;> omega))) | (with_reducible refine Below.drew ?_) | ((with_reducible refine Below.trans ?_ (HV7.out.mono ?hm)); case hm => (first | omega | (simp <;> omega))) | ((with_reducible refine Below.trans ?_ (HV0.out.mono ?hm)); case hm => (first | omega | (simp <;> omega))) | ((with_reducible refine Below.trans ?_ (HV1.out.mono ?hm)); case hm => (first | omega | (simp <;> omega))) | ((with_reducible refine Below.trans ?_ (HV2.out.mono ?hm)); case hm => (first | omega | (simp <;> omega))) | ((with_reducible refine Below.trans ?_ (HV3.out.mono ?hm)); case hm => (first | omega | (simp <;> omega))) | ((with_reducible refine Below.trans ?_ (HV4.out.mono ?hm)); case hm => (first | omega | (simp <;> omega))) | ((with_reducible refine Below.trans ?_ (HV5.out.mono ?hm)); case hm => (first | omega | (simp <;> omega))) | ((with_reducible refine Below.trans ?_ (HB1.out.mono ?hm)); case hm => (first | omega | (simp <;> omega))))
theorem over_any (n : Nat) (hn : n < M384) (k : Nat) (hk : 0 < k) (hk2 : k < 18446744073709551616) (mode : Nat) (hmo : mode ≤ 3) (w : World) (hM : Modes w) :
    Calls Tryd.prog 22 #[SV n, .int .u64 k, .int .i64 mode] w fun e w' => e = .returned (.tuple #[.float .f32 (overN n k mode).1, .int .i64 ((overN n k mode).2 : Nat)]) ∧ Below w.heap.size w w' := by
  by_cases h : n = 0
  · subst h
    exact over_zero k hk mode hmo w
  · exact over_pos n hn h k hk hk2 mode hmo w hM
set_option maxRecDepth 100000 in
set_option maxHeartbeats 1000000 in
theorem round_any (n : Nat) (hn : n < M384) (mode : Nat) (hmo : mode ≤ 3) (w : World) (hM : Modes w) :
    Calls Tryd.prog 16 #[SV n, .int .i64 mode] w fun e w' => e = .returned (.tuple #[.float .f32 (overN n 1 mode).1, .int .i64 ((overN n 1 mode).2 : Nat)]) ∧ Below w.heap.size w w' := by
  have HO := Lib.hid (fun W hW => over_any n hn 1 (by decide) (by decide) mode hmo W hW)
  obtain ⟨P1, hP1⟩ : ∃ P1, P1 = (overN n 1 mode).1 := ⟨_, rfl⟩
  obtain ⟨P2, hP2⟩ : ∃ P2, P2 = (overN n 1 mode).2 := ⟨_, rfl⟩
  rw [← hP1, ← hP2] at HO ⊢
  have HMo := Lib.hid hM
  clear hP1 hP2 hmo hn hM
  go_enter Tryd.func16, Tryd.ntmps16
  go_wp2_with fail
  refine (HO.out _ (HMo.out.keep ((Below.refl _ _).alloc (Nat.le_refl _) _) HMo.out.lt)).mono ?_
  rintro e w1 ⟨rfl, hb1⟩
  have HB1 := Lib.hid hb1; clear hb1
  go_wp2_with fail
  go_ret2
  refine ⟨by simp, ?_⟩
  repeat (first | with_reducible exact Below.refl _ _ | ((with_reducible refine Below.setCell ?_ ?hp _); case hp => (first | omega | (simp <;> omega))) | ((with_reducible refine Below.alloc ?_ ?hp _); case hp => (first | omega | (simp <;> omega))) | (with_reducible refine Below.drew ?_) | ((with_reducible refine Below.trans ?_ (HB1.out.mono ?hm)); case hm => (first | omega | (simp <;> omega))))
end Go.Proofs.YtmnojohcfalodaaDoor
