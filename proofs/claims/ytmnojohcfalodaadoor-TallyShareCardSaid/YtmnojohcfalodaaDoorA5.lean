/-
  Sums moved down, by walks: one for each word.
-/
import Derived.Test.YtmnojohcfalodaaDoorA1
import Derived.Test.YtmnojohcfalodaaDoorNa
namespace Go.Proofs.YtmnojohcfalodaaDoor
set_option linter.unusedVariables false
set_option linter.unusedSimpArgs false
open Go.RowKit
theorem or_parts (A B r : Nat) (hA : A < 2 ^ (64 - r)) (hB : B % 2 ^ (64 - r) = 0) (hB2 : B < 18446744073709551616) : bits .or .u64 (A : Int) (B : Int) = ((A + B : Nat) : Int) := by
  have hA2 : A < 18446744073709551616 := Nat.lt_of_lt_of_le hA (Nat.pow_le_pow_right (by decide : 0 < 2) (by omega : 64 - r ≤ 64))
  have h := u64_or_nat A B hA2 hB2
  rw [Nat.or_comm, nat_join (64 - r) B A hB hA, Nat.add_comm] at h
  exact h
theorem or_down (x y r : Nat) (hx : x < 18446744073709551616) (hr : r ≤ 64) : bits .or .u64 ((x : Int) / 2 ^ r) (IntKind.u64.wrap ((y : Int) * 2 ^ (64 - r))) = ((x / 2 ^ r + y * 2 ^ (64 - r) % 18446744073709551616 : Nat) : Int) := by
  have e : 2 ^ (64 - r) * 2 ^ r = 18446744073709551616 := by rw [← Nat.pow_add, show 64 - r + r = 64 by omega]
  have h := or_parts (x / 2 ^ r) (y * 2 ^ (64 - r) % 18446744073709551616) r (by rw [Nat.div_lt_iff_lt_mul (Nat.pow_pos (by decide)), e]; exact hx)
    (by rw [← e, Nat.mul_comm (2 ^ (64 - r)), Nat.mul_mod_mul_right]; exact Nat.mul_mod_left _ _) (Nat.mod_lt _ (by decide))
  rw [← h, IntKind.wrap_u64]
  congr 1
  all_goals simp
theorem or_up (x y r : Nat) (hy : y < 18446744073709551616) (hr : r ≤ 64) : bits .or .u64 (IntKind.u64.wrap ((x : Int) * 2 ^ r)) ((y : Int) / 2 ^ (64 - r)) = ((x * 2 ^ r % 18446744073709551616 + y / 2 ^ (64 - r) : Nat) : Int) := by
  have e : 2 ^ r * 2 ^ (64 - r) = 18446744073709551616 := by rw [← Nat.pow_add, show r + (64 - r) = 64 by omega]
  have h := or_parts (y / 2 ^ (64 - r)) (x * 2 ^ r % 18446744073709551616) (64 - r) (by rw [show 64 - (64 - r) = r by omega, Nat.div_lt_iff_lt_mul (Nat.pow_pos (by decide)), e]; exact hy)
    (by rw [show 64 - (64 - r) = r by omega, ← e, Nat.mul_comm (2 ^ r) (2 ^ (64 - r)), Nat.mul_mod_mul_right]; exact Nat.mul_mod_left _ _) (Nat.mod_lt _ (by decide))
  have hc : bits .or .u64 ((x * 2 ^ r % 18446744073709551616 : Nat) : Int) ((y / 2 ^ (64 - r) : Nat) : Int) = bits .or .u64 ((y / 2 ^ (64 - r) : Nat) : Int) ((x * 2 ^ r % 18446744073709551616 : Nat) : Int) := by
    have l1 : x * 2 ^ r % 18446744073709551616 < 18446744073709551616 := Nat.mod_lt _ (by decide)
    have l2 : y / 2 ^ (64 - r) < 18446744073709551616 := Nat.lt_of_le_of_lt (Nat.div_le_self _ _) hy
    rw [u64_or_nat _ _ l1 l2, u64_or_nat _ _ l2 l1, Nat.or_comm]
  rw [h] at hc
  rw [Nat.add_comm (x * 2 ^ r % 18446744073709551616), ← hc, IntKind.wrap_u64]
  congr 1
  all_goals simp
set_option maxRecDepth 100000 in
set_option maxHeartbeats 4000000 in
theorem down_0z (n k : Nat) (hn : n < M384) (hk : k = 64 * 0 + 0) (w : World) :
    Calls Tryd.prog 47 #[SV n, .int .i64 k] w fun e w' => e = .returned (SV (n / 2 ^ k)) ∧ Below w.heap.size w w' := by
  have g1 : (k : Int) / 64 = 0 := by omega
  have g2 : (k : Int) % 64 = 0 := by omega
  have b1 : (k : Int) < 384 := by omega
  obtain ⟨R, hR⟩ : ∃ R, R = n / 2 ^ k := ⟨_, rfl⟩
  rw [← hR]
  rw [hk] at hR
  have o0 : ((wd n 0 : Nat) : Int) = (wd R 0 : Nat) := by rw [hR, down_word0 n 0 0]
  have o1 : ((wd n 1 : Nat) : Int) = (wd R 1 : Nat) := by rw [hR, down_word0 n 0 1]
  have o2 : ((wd n 2 : Nat) : Int) = (wd R 2 : Nat) := by rw [hR, down_word0 n 0 2]
  have o3 : ((wd n 3 : Nat) : Int) = (wd R 3 : Nat) := by rw [hR, down_word0 n 0 3]
  have o4 : ((wd n 4 : Nat) : Int) = (wd R 4 : Nat) := by rw [hR, down_word0 n 0 4]
  have o5 : ((wd n 5 : Nat) : Int) = (wd R 5 : Nat) := by rw [hR, down_word0 n 0 5]
  have O0 := Lib.hid o0; clear o0
  have O1 := Lib.hid o1; clear o1
  have O2 := Lib.hid o2; clear o2
  have O3 := Lib.hid o3; clear o3
  have O4 := Lib.hid o4; clear o4
  have O5 := Lib.hid o5; clear o5
  clear hR hk hn
  go_enter Tryd.func47, Tryd.ntmps47
  go_wp2
  refine wp_loop_rounds 7 ?_
  refine rounds_step 6 ?_
  go_wp2
  refine rounds_step 5 ?_
  go_wp2
  refine rounds_step 4 ?_
  go_wp2
  refine rounds_step 3 ?_
  go_wp2
  refine rounds_step 2 ?_
  go_wp2
  refine rounds_step 1 ?_
  go_wp2
  refine rounds_step 0 ?_
  go_wp2
  refine bodyPost_ret (v := SV R) (by simp [results, Tryd.results47, go_sem, ← O0.out, ← O1.out, ← O2.out, ← O3.out, ← O4.out, ← O5.out]) rfl ⟨rfl, ?_⟩
  repeat (first | with_reducible exact Below.refl _ _ | ((with_reducible refine Below.setCell ?_ ?hp _); case hp => (simp <;> omega)) | ((with_reducible refine Below.alloc ?_ ?hp _); case hp => (simp [World.setCell] <;> omega)) | (with_reducible refine Below.drew ?_))
set_option maxRecDepth 100000 in
set_option maxHeartbeats 4000000 in
theorem down_0r (n k r : Nat) (hn : n < M384) (hk : k = 64 * 0 + r) (hr0 : 0 < r) (hr : r < 64) (w : World) :
    Calls Tryd.prog 47 #[SV n, .int .i64 k] w fun e w' => e = .returned (SV (n / 2 ^ k)) ∧ Below w.heap.size w w' := by
  have g1 : (k : Int) / 64 = 0 := by omega
  have g2 : (k : Int) % 64 = r := by omega
  have b1 : (k : Int) < 384 := by omega
  obtain ⟨R, hR⟩ : ∃ R, R = n / 2 ^ k := ⟨_, rfl⟩
  rw [← hR]
  rw [hk] at hR
  have o0 : bits .or .u64 (((wd n 0 : Nat) : Int) / 2 ^ r) (IntKind.u64.wrap (((wd n 1 : Nat) : Int) * 2 ^ (64 - r))) = (wd R 0 : Nat) := by rw [or_down _ _ r (wd_lt _ _) (by omega), hR, down_word n 0 r 0 (by omega)]
  have o1 : bits .or .u64 (((wd n 1 : Nat) : Int) / 2 ^ r) (IntKind.u64.wrap (((wd n 2 : Nat) : Int) * 2 ^ (64 - r))) = (wd R 1 : Nat) := by rw [or_down _ _ r (wd_lt _ _) (by omega), hR, down_word n 0 r 1 (by omega)]
  have o2 : bits .or .u64 (((wd n 2 : Nat) : Int) / 2 ^ r) (IntKind.u64.wrap (((wd n 3 : Nat) : Int) * 2 ^ (64 - r))) = (wd R 2 : Nat) := by rw [or_down _ _ r (wd_lt _ _) (by omega), hR, down_word n 0 r 2 (by omega)]
  have o3 : bits .or .u64 (((wd n 3 : Nat) : Int) / 2 ^ r) (IntKind.u64.wrap (((wd n 4 : Nat) : Int) * 2 ^ (64 - r))) = (wd R 3 : Nat) := by rw [or_down _ _ r (wd_lt _ _) (by omega), hR, down_word n 0 r 3 (by omega)]
  have o4 : bits .or .u64 (((wd n 4 : Nat) : Int) / 2 ^ r) (IntKind.u64.wrap (((wd n 5 : Nat) : Int) * 2 ^ (64 - r))) = (wd R 4 : Nat) := by rw [or_down _ _ r (wd_lt _ _) (by omega), hR, down_word n 0 r 4 (by omega)]
  have o5 : ((wd n 5 : Nat) : Int) / 2 ^ r = (wd R 5 : Nat) := by rw [hR, down_word n 0 r 5 (by omega), wd_six n _ hn (by decide : 6 ≤ 5 + 0 + 1)]; simp
  clear hR hk hn
  go_enter Tryd.func47, Tryd.ntmps47
  go_wp2
  refine wp_loop_rounds 7 ?_
  refine rounds_step 6 ?_
  go_wp2
  go_region
  go_wp2
  refine rounds_step 5 ?_
  go_wp2
  go_region
  go_wp2
  refine rounds_step 4 ?_
  go_wp2
  go_region
  go_wp2
  refine rounds_step 3 ?_
  go_wp2
  go_region
  go_wp2
  refine rounds_step 2 ?_
  go_wp2
  go_region
  go_wp2
  refine rounds_step 1 ?_
  go_wp2
  refine rounds_step 0 ?_
  go_wp2
  refine bodyPost_ret (v := SV R) (by simp [results, Tryd.results47, go_sem]) rfl ⟨rfl, ?_⟩
  repeat (first | with_reducible exact Below.refl _ _ | ((with_reducible refine Below.setCell ?_ ?hp _); case hp => (simp <;> omega)) | ((with_reducible refine Below.alloc ?_ ?hp _); case hp => (simp [World.setCell] <;> omega)) | (with_reducible refine Below.drew ?_))
set_option maxRecDepth 100000 in
set_option maxHeartbeats 4000000 in
theorem down_1z (n k : Nat) (hn : n < M384) (hk : k = 64 * 1 + 0) (w : World) :
    Calls Tryd.prog 47 #[SV n, .int .i64 k] w fun e w' => e = .returned (SV (n / 2 ^ k)) ∧ Below w.heap.size w w' := by
  have g1 : (k : Int) / 64 = 1 := by omega
  have g2 : (k : Int) % 64 = 0 := by omega
  have b1 : (k : Int) < 384 := by omega
  obtain ⟨R, hR⟩ : ∃ R, R = n / 2 ^ k := ⟨_, rfl⟩
  rw [← hR]
  rw [hk] at hR
  have o0 : ((wd n 1 : Nat) : Int) = (wd R 0 : Nat) := by rw [hR, down_word0 n 1 0]
  have o1 : ((wd n 2 : Nat) : Int) = (wd R 1 : Nat) := by rw [hR, down_word0 n 1 1]
  have o2 : ((wd n 3 : Nat) : Int) = (wd R 2 : Nat) := by rw [hR, down_word0 n 1 2]
  have o3 : ((wd n 4 : Nat) : Int) = (wd R 3 : Nat) := by rw [hR, down_word0 n 1 3]
  have o4 : ((wd n 5 : Nat) : Int) = (wd R 4 : Nat) := by rw [hR, down_word0 n 1 4]
  have z5 : wd R 5 = 0 := by rw [hR, down_word n 1 0 5 (by omega), wd_six n _ hn (by decide), wd_six n _ hn (by decide)]; try simp
  have O0 := Lib.hid o0; clear o0
  have O1 := Lib.hid o1; clear o1
  have O2 := Lib.hid o2; clear o2
  have O3 := Lib.hid o3; clear o3
  have O4 := Lib.hid o4; clear o4
  clear hR hk hn
  go_enter Tryd.func47, Tryd.ntmps47
  go_wp2
  refine wp_loop_rounds 7 ?_
  refine rounds_step 6 ?_
  go_wp2
  refine rounds_step 5 ?_
  go_wp2
  refine rounds_step 4 ?_
  go_wp2
  refine rounds_step 3 ?_
  go_wp2
  refine rounds_step 2 ?_
  go_wp2
  refine rounds_step 1 ?_
  go_wp2
  refine bodyPost_ret (v := SV R) (by simp [results, Tryd.results47, go_sem, z5, ← O0.out, ← O1.out, ← O2.out, ← O3.out, ← O4.out]) rfl ⟨rfl, ?_⟩
  repeat (first | with_reducible exact Below.refl _ _ | ((with_reducible refine Below.setCell ?_ ?hp _); case hp => (simp <;> omega)) | ((with_reducible refine Below.alloc ?_ ?hp _); case hp => (simp [World.setCell] <;> omega)) | (with_reducible refine Below.drew ?_))
set_option maxRecDepth 100000 in
set_option maxHeartbeats 4000000 in
theorem down_1r (n k r : Nat) (hn : n < M384) (hk : k = 64 * 1 + r) (hr0 : 0 < r) (hr : r < 64) (w : World) :
    Calls Tryd.prog 47 #[SV n, .int .i64 k] w fun e w' => e = .returned (SV (n / 2 ^ k)) ∧ Below w.heap.size w w' := by
  have g1 : (k : Int) / 64 = 1 := by omega
  have g2 : (k : Int) % 64 = r := by omega
  have b1 : (k : Int) < 384 := by omega
  obtain ⟨R, hR⟩ : ∃ R, R = n / 2 ^ k := ⟨_, rfl⟩
  rw [← hR]
  rw [hk] at hR
  have o0 : bits .or .u64 (((wd n 1 : Nat) : Int) / 2 ^ r) (IntKind.u64.wrap (((wd n 2 : Nat) : Int) * 2 ^ (64 - r))) = (wd R 0 : Nat) := by rw [or_down _ _ r (wd_lt _ _) (by omega), hR, down_word n 1 r 0 (by omega)]
  have o1 : bits .or .u64 (((wd n 2 : Nat) : Int) / 2 ^ r) (IntKind.u64.wrap (((wd n 3 : Nat) : Int) * 2 ^ (64 - r))) = (wd R 1 : Nat) := by rw [or_down _ _ r (wd_lt _ _) (by omega), hR, down_word n 1 r 1 (by omega)]
  have o2 : bits .or .u64 (((wd n 3 : Nat) : Int) / 2 ^ r) (IntKind.u64.wrap (((wd n 4 : Nat) : Int) * 2 ^ (64 - r))) = (wd R 2 : Nat) := by rw [or_down _ _ r (wd_lt _ _) (by omega), hR, down_word n 1 r 2 (by omega)]
  have o3 : bits .or .u64 (((wd n 4 : Nat) : Int) / 2 ^ r) (IntKind.u64.wrap (((wd n 5 : Nat) : Int) * 2 ^ (64 - r))) = (wd R 3 : Nat) := by rw [or_down _ _ r (wd_lt _ _) (by omega), hR, down_word n 1 r 3 (by omega)]
  have o4 : ((wd n 5 : Nat) : Int) / 2 ^ r = (wd R 4 : Nat) := by rw [hR, down_word n 1 r 4 (by omega), wd_six n _ hn (by decide : 6 ≤ 4 + 1 + 1)]; simp
  have z5 : wd R 5 = 0 := by rw [hR, down_word n 1 r 5 (by omega), wd_six n _ hn (by decide), wd_six n _ hn (by decide)]; try simp
  clear hR hk hn
  go_enter Tryd.func47, Tryd.ntmps47
  go_wp2
  refine wp_loop_rounds 7 ?_
  refine rounds_step 6 ?_
  go_wp2
  go_region
  go_wp2
  refine rounds_step 5 ?_
  go_wp2
  go_region
  go_wp2
  refine rounds_step 4 ?_
  go_wp2
  go_region
  go_wp2
  refine rounds_step 3 ?_
  go_wp2
  go_region
  go_wp2
  refine rounds_step 2 ?_
  go_wp2
  refine rounds_step 1 ?_
  go_wp2
  refine bodyPost_ret (v := SV R) (by simp [results, Tryd.results47, go_sem, z5]) rfl ⟨rfl, ?_⟩
  repeat (first | with_reducible exact Below.refl _ _ | ((with_reducible refine Below.setCell ?_ ?hp _); case hp => (simp <;> omega)) | ((with_reducible refine Below.alloc ?_ ?hp _); case hp => (simp [World.setCell] <;> omega)) | (with_reducible refine Below.drew ?_))
set_option maxRecDepth 100000 in
set_option maxHeartbeats 4000000 in
theorem down_2z (n k : Nat) (hn : n < M384) (hk : k = 64 * 2 + 0) (w : World) :
    Calls Tryd.prog 47 #[SV n, .int .i64 k] w fun e w' => e = .returned (SV (n / 2 ^ k)) ∧ Below w.heap.size w w' := by
  have g1 : (k : Int) / 64 = 2 := by omega
  have g2 : (k : Int) % 64 = 0 := by omega
  have b1 : (k : Int) < 384 := by omega
  obtain ⟨R, hR⟩ : ∃ R, R = n / 2 ^ k := ⟨_, rfl⟩
  rw [← hR]
  rw [hk] at hR
  have o0 : ((wd n 2 : Nat) : Int) = (wd R 0 : Nat) := by rw [hR, down_word0 n 2 0]
  have o1 : ((wd n 3 : Nat) : Int) = (wd R 1 : Nat) := by rw [hR, down_word0 n 2 1]
  have o2 : ((wd n 4 : Nat) : Int) = (wd R 2 : Nat) := by rw [hR, down_word0 n 2 2]
  have o3 : ((wd n 5 : Nat) : Int) = (wd R 3 : Nat) := by rw [hR, down_word0 n 2 3]
  have z4 : wd R 4 = 0 := by rw [hR, down_word n 2 0 4 (by omega), wd_six n _ hn (by decide), wd_six n _ hn (by decide)]; try simp
  have z5 : wd R 5 = 0 := by rw [hR, down_word n 2 0 5 (by omega), wd_six n _ hn (by decide), wd_six n _ hn (by decide)]; try simp
  have O0 := Lib.hid o0; clear o0
  have O1 := Lib.hid o1; clear o1
  have O2 := Lib.hid o2; clear o2
  have O3 := Lib.hid o3; clear o3
  clear hR hk hn
  go_enter Tryd.func47, Tryd.ntmps47
  go_wp2
  refine wp_loop_rounds 7 ?_
  refine rounds_step 6 ?_
  go_wp2
  refine rounds_step 5 ?_
  go_wp2
  refine rounds_step 4 ?_
  go_wp2
  refine rounds_step 3 ?_
  go_wp2
  refine rounds_step 2 ?_
  go_wp2
  refine bodyPost_ret (v := SV R) (by simp [results, Tryd.results47, go_sem, z4, z5, ← O0.out, ← O1.out, ← O2.out, ← O3.out]) rfl ⟨rfl, ?_⟩
  repeat (first | with_reducible exact Below.refl _ _ | ((with_reducible refine Below.setCell ?_ ?hp _); case hp => (simp <;> omega)) | ((with_reducible refine Below.alloc ?_ ?hp _); case hp => (simp [World.setCell] <;> omega)) | (with_reducible refine Below.drew ?_))
set_option maxRecDepth 100000 in
set_option maxHeartbeats 4000000 in
theorem down_2r (n k r : Nat) (hn : n < M384) (hk : k = 64 * 2 + r) (hr0 : 0 < r) (hr : r < 64) (w : World) :
    Calls Tryd.prog 47 #[SV n, .int .i64 k] w fun e w' => e = .returned (SV (n / 2 ^ k)) ∧ Below w.heap.size w w' := by
  have g1 : (k : Int) / 64 = 2 := by omega
  have g2 : (k : Int) % 64 = r := by omega
  have b1 : (k : Int) < 384 := by omega
  obtain ⟨R, hR⟩ : ∃ R, R = n / 2 ^ k := ⟨_, rfl⟩
  rw [← hR]
  rw [hk] at hR
  have o0 : bits .or .u64 (((wd n 2 : Nat) : Int) / 2 ^ r) (IntKind.u64.wrap (((wd n 3 : Nat) : Int) * 2 ^ (64 - r))) = (wd R 0 : Nat) := by rw [or_down _ _ r (wd_lt _ _) (by omega), hR, down_word n 2 r 0 (by omega)]
  have o1 : bits .or .u64 (((wd n 3 : Nat) : Int) / 2 ^ r) (IntKind.u64.wrap (((wd n 4 : Nat) : Int) * 2 ^ (64 - r))) = (wd R 1 : Nat) := by rw [or_down _ _ r (wd_lt _ _) (by omega), hR, down_word n 2 r 1 (by omega)]
  have o2 : bits .or .u64 (((wd n 4 : Nat) : Int) / 2 ^ r) (IntKind.u64.wrap (((wd n 5 : Nat) : Int) * 2 ^ (64 - r))) = (wd R 2 : Nat) := by rw [or_down _ _ r (wd_lt _ _) (by omega), hR, down_word n 2 r 2 (by omega)]
  have o3 : ((wd n 5 : Nat) : Int) / 2 ^ r = (wd R 3 : Nat) := by rw [hR, down_word n 2 r 3 (by omega), wd_six n _ hn (by decide : 6 ≤ 3 + 2 + 1)]; simp
  have z4 : wd R 4 = 0 := by rw [hR, down_word n 2 r 4 (by omega), wd_six n _ hn (by decide), wd_six n _ hn (by decide)]; try simp
  have z5 : wd R 5 = 0 := by rw [hR, down_word n 2 r 5 (by omega), wd_six n _ hn (by decide), wd_six n _ hn (by decide)]; try simp
  clear hR hk hn
  go_enter Tryd.func47, Tryd.ntmps47
  go_wp2
  refine wp_loop_rounds 7 ?_
  refine rounds_step 6 ?_
  go_wp2
  go_region
  go_wp2
  refine rounds_step 5 ?_
  go_wp2
  go_region
  go_wp2
  refine rounds_step 4 ?_
  go_wp2
  go_region
  go_wp2
  refine rounds_step 3 ?_
  go_wp2
  refine rounds_step 2 ?_
  go_wp2
  refine bodyPost_ret (v := SV R) (by simp [results, Tryd.results47, go_sem, z4, z5]) rfl ⟨rfl, ?_⟩
  repeat (first | with_reducible exact Below.refl _ _ | ((with_reducible refine Below.setCell ?_ ?hp _); case hp => (simp <;> omega)) | ((with_reducible refine Below.alloc ?_ ?hp _); case hp => (simp [World.setCell] <;> omega)) | (with_reducible refine Below.drew ?_))
set_option maxRecDepth 100000 in
set_option maxHeartbeats 4000000 in
theorem down_3z (n k : Nat) (hn : n < M384) (hk : k = 64 * 3 + 0) (w : World) :
    Calls Tryd.prog 47 #[SV n, .int .i64 k] w fun e w' => e = .returned (SV (n / 2 ^ k)) ∧ Below w.heap.size w w' := by
  have g1 : (k : Int) / 64 = 3 := by omega
  have g2 : (k : Int) % 64 = 0 := by omega
  have b1 : (k : Int) < 384 := by omega
  obtain ⟨R, hR⟩ : ∃ R, R = n / 2 ^ k := ⟨_, rfl⟩
  rw [← hR]
  rw [hk] at hR
  have o0 : ((wd n 3 : Nat) : Int) = (wd R 0 : Nat) := by rw [hR, down_word0 n 3 0]
  have o1 : ((wd n 4 : Nat) : Int) = (wd R 1 : Nat) := by rw [hR, down_word0 n 3 1]
  have o2 : ((wd n 5 : Nat) : Int) = (wd R 2 : Nat) := by rw [hR, down_word0 n 3 2]
  have z3 : wd R 3 = 0 := by rw [hR, down_word n 3 0 3 (by omega), wd_six n _ hn (by decide), wd_six n _ hn (by decide)]; try simp
  have z4 : wd R 4 = 0 := by rw [hR, down_word n 3 0 4 (by omega), wd_six n _ hn (by decide), wd_six n _ hn (by decide)]; try simp
  have z5 : wd R 5 = 0 := by rw [hR, down_word n 3 0 5 (by omega), wd_six n _ hn (by decide), wd_six n _ hn (by decide)]; try simp
  have O0 := Lib.hid o0; clear o0
  have O1 := Lib.hid o1; clear o1
  have O2 := Lib.hid o2; clear o2
  clear hR hk hn
  go_enter Tryd.func47, Tryd.ntmps47
  go_wp2
  refine wp_loop_rounds 7 ?_
  refine rounds_step 6 ?_
  go_wp2
  refine rounds_step 5 ?_
  go_wp2
  refine rounds_step 4 ?_
  go_wp2
  refine rounds_step 3 ?_
  go_wp2
  refine bodyPost_ret (v := SV R) (by simp [results, Tryd.results47, go_sem, z3, z4, z5, ← O0.out, ← O1.out, ← O2.out]) rfl ⟨rfl, ?_⟩
  repeat (first | with_reducible exact Below.refl _ _ | ((with_reducible refine Below.setCell ?_ ?hp _); case hp => (simp <;> omega)) | ((with_reducible refine Below.alloc ?_ ?hp _); case hp => (simp [World.setCell] <;> omega)) | (with_reducible refine Below.drew ?_))
set_option maxRecDepth 100000 in
set_option maxHeartbeats 4000000 in
theorem down_3r (n k r : Nat) (hn : n < M384) (hk : k = 64 * 3 + r) (hr0 : 0 < r) (hr : r < 64) (w : World) :
    Calls Tryd.prog 47 #[SV n, .int .i64 k] w fun e w' => e = .returned (SV (n / 2 ^ k)) ∧ Below w.heap.size w w' := by
  have g1 : (k : Int) / 64 = 3 := by omega
  have g2 : (k : Int) % 64 = r := by omega
  have b1 : (k : Int) < 384 := by omega
  obtain ⟨R, hR⟩ : ∃ R, R = n / 2 ^ k := ⟨_, rfl⟩
  rw [← hR]
  rw [hk] at hR
  have o0 : bits .or .u64 (((wd n 3 : Nat) : Int) / 2 ^ r) (IntKind.u64.wrap (((wd n 4 : Nat) : Int) * 2 ^ (64 - r))) = (wd R 0 : Nat) := by rw [or_down _ _ r (wd_lt _ _) (by omega), hR, down_word n 3 r 0 (by omega)]
  have o1 : bits .or .u64 (((wd n 4 : Nat) : Int) / 2 ^ r) (IntKind.u64.wrap (((wd n 5 : Nat) : Int) * 2 ^ (64 - r))) = (wd R 1 : Nat) := by rw [or_down _ _ r (wd_lt _ _) (by omega), hR, down_word n 3 r 1 (by omega)]
  have o2 : ((wd n 5 : Nat) : Int) / 2 ^ r = (wd R 2 : Nat) := by rw [hR, down_word n 3 r 2 (by omega), wd_six n _ hn (by decide : 6 ≤ 2 + 3 + 1)]; simp
  have z3 : wd R 3 = 0 := by rw [hR, down_word n 3 r 3 (by omega), wd_six n _ hn (by decide), wd_six n _ hn (by decide)]; try simp
  have z4 : wd R 4 = 0 := by rw [hR, down_word n 3 r 4 (by omega), wd_six n _ hn (by decide), wd_six n _ hn (by decide)]; try simp
  have z5 : wd R 5 = 0 := by rw [hR, down_word n 3 r 5 (by omega), wd_six n _ hn (by decide), wd_six n _ hn (by decide)]; try simp
  clear hR hk hn
  go_enter Tryd.func47, Tryd.ntmps47
  go_wp2
  refine wp_loop_rounds 7 ?_
  refine rounds_step 6 ?_
  go_wp2
  go_region
  go_wp2
  refine rounds_step 5 ?_
  go_wp2
  go_region
  go_wp2
  refine rounds_step 4 ?_
  go_wp2
  refine rounds_step 3 ?_
  go_wp2
  refine bodyPost_ret (v := SV R) (by simp [results, Tryd.results47, go_sem, z3, z4, z5]) rfl ⟨rfl, ?_⟩
  repeat (first | with_reducible exact Below.refl _ _ | ((with_reducible refine Below.setCell ?_ ?hp _); case hp => (simp <;> omega)) | ((with_reducible refine Below.alloc ?_ ?hp _); case hp => (simp [World.setCell] <;> omega)) | (with_reducible refine Below.drew ?_))
set_option maxRecDepth 100000 in
set_option maxHeartbeats 4000000 in
theorem down_4z (n k : Nat) (hn : n < M384) (hk : k = 64 * 4 + 0) (w : World) :
    Calls Tryd.prog 47 #[SV n, .int .i64 k] w fun e w' => e = .returned (SV (n / 2 ^ k)) ∧ Below w.heap.size w w' := by
  have g1 : (k : Int) / 64 = 4 := by omega
  have g2 : (k : Int) % 64 = 0 := by omega
  have b1 : (k : Int) < 384 := by omega
  obtain ⟨R, hR⟩ : ∃ R, R = n / 2 ^ k := ⟨_, rfl⟩
  rw [← hR]
  rw [hk] at hR
  have o0 : ((wd n 4 : Nat) : Int) = (wd R 0 : Nat) := by rw [hR, down_word0 n 4 0]
  have o1 : ((wd n 5 : Nat) : Int) = (wd R 1 : Nat) := by rw [hR, down_word0 n 4 1]
  have z2 : wd R 2 = 0 := by rw [hR, down_word n 4 0 2 (by omega), wd_six n _ hn (by decide), wd_six n _ hn (by decide)]; try simp
  have z3 : wd R 3 = 0 := by rw [hR, down_word n 4 0 3 (by omega), wd_six n _ hn (by decide), wd_six n _ hn (by decide)]; try simp
  have z4 : wd R 4 = 0 := by rw [hR, down_word n 4 0 4 (by omega), wd_six n _ hn (by decide), wd_six n _ hn (by decide)]; try simp
  have z5 : wd R 5 = 0 := by rw [hR, down_word n 4 0 5 (by omega), wd_six n _ hn (by decide), wd_six n _ hn (by decide)]; try simp
  have O0 := Lib.hid o0; clear o0
  have O1 := Lib.hid o1; clear o1
  clear hR hk hn
  go_enter Tryd.func47, Tryd.ntmps47
  go_wp2
  refine wp_loop_rounds 7 ?_
  refine rounds_step 6 ?_
  go_wp2
  refine rounds_step 5 ?_
  go_wp2
  refine rounds_step 4 ?_
  go_wp2
  refine bodyPost_ret (v := SV R) (by simp [results, Tryd.results47, go_sem, z2, z3, z4, z5, ← O0.out, ← O1.out]) rfl ⟨rfl, ?_⟩
  repeat (first | with_reducible exact Below.refl _ _ | ((with_reducible refine Below.setCell ?_ ?hp _); case hp => (simp <;> omega)) | ((with_reducible refine Below.alloc ?_ ?hp _); case hp => (simp [World.setCell] <;> omega)) | (with_reducible refine Below.drew ?_))
set_option maxRecDepth 100000 in
set_option maxHeartbeats 4000000 in
theorem down_4r (n k r : Nat) (hn : n < M384) (hk : k = 64 * 4 + r) (hr0 : 0 < r) (hr : r < 64) (w : World) :
    Calls Tryd.prog 47 #[SV n, .int .i64 k] w fun e w' => e = .returned (SV (n / 2 ^ k)) ∧ Below w.heap.size w w' := by
  have g1 : (k : Int) / 64 = 4 := by omega
  have g2 : (k : Int) % 64 = r := by omega
  have b1 : (k : Int) < 384 := by omega
  obtain ⟨R, hR⟩ : ∃ R, R = n / 2 ^ k := ⟨_, rfl⟩
  rw [← hR]
  rw [hk] at hR
  have o0 : bits .or .u64 (((wd n 4 : Nat) : Int) / 2 ^ r) (IntKind.u64.wrap (((wd n 5 : Nat) : Int) * 2 ^ (64 - r))) = (wd R 0 : Nat) := by rw [or_down _ _ r (wd_lt _ _) (by omega), hR, down_word n 4 r 0 (by omega)]
  have o1 : ((wd n 5 : Nat) : Int) / 2 ^ r = (wd R 1 : Nat) := by rw [hR, down_word n 4 r 1 (by omega), wd_six n _ hn (by decide : 6 ≤ 1 + 4 + 1)]; simp
  have z2 : wd R 2 = 0 := by rw [hR, down_word n 4 r 2 (by omega), wd_six n _ hn (by decide), wd_six n _ hn (by decide)]; try simp
  have z3 : wd R 3 = 0 := by rw [hR, down_word n 4 r 3 (by omega), wd_six n _ hn (by decide), wd_six n _ hn (by decide)]; try simp
  have z4 : wd R 4 = 0 := by rw [hR, down_word n 4 r 4 (by omega), wd_six n _ hn (by decide), wd_six n _ hn (by decide)]; try simp
  have z5 : wd R 5 = 0 := by rw [hR, down_word n 4 r 5 (by omega), wd_six n _ hn (by decide), wd_six n _ hn (by decide)]; try simp
  clear hR hk hn
  go_enter Tryd.func47, Tryd.ntmps47
  go_wp2
  refine wp_loop_rounds 7 ?_
  refine rounds_step 6 ?_
  go_wp2
  go_region
  go_wp2
  refine rounds_step 5 ?_
  go_wp2
  refine rounds_step 4 ?_
  go_wp2
  refine bodyPost_ret (v := SV R) (by simp [results, Tryd.results47, go_sem, z2, z3, z4, z5]) rfl ⟨rfl, ?_⟩
  repeat (first | with_reducible exact Below.refl _ _ | ((with_reducible refine Below.setCell ?_ ?hp _); case hp => (simp <;> omega)) | ((with_reducible refine Below.alloc ?_ ?hp _); case hp => (simp [World.setCell] <;> omega)) | (with_reducible refine Below.drew ?_))
set_option maxRecDepth 100000 in
set_option maxHeartbeats 4000000 in
theorem down_5z (n k : Nat) (hn : n < M384) (hk : k = 64 * 5 + 0) (w : World) :
    Calls Tryd.prog 47 #[SV n, .int .i64 k] w fun e w' => e = .returned (SV (n / 2 ^ k)) ∧ Below w.heap.size w w' := by
  have g1 : (k : Int) / 64 = 5 := by omega
  have g2 : (k : Int) % 64 = 0 := by omega
  have b1 : (k : Int) < 384 := by omega
  obtain ⟨R, hR⟩ : ∃ R, R = n / 2 ^ k := ⟨_, rfl⟩
  rw [← hR]
  rw [hk] at hR
  have o0 : ((wd n 5 : Nat) : Int) = (wd R 0 : Nat) := by rw [hR, down_word0 n 5 0]
  have z1 : wd R 1 = 0 := by rw [hR, down_word n 5 0 1 (by omega), wd_six n _ hn (by decide), wd_six n _ hn (by decide)]; try simp
  have z2 : wd R 2 = 0 := by rw [hR, down_word n 5 0 2 (by omega), wd_six n _ hn (by decide), wd_six n _ hn (by decide)]; try simp
  have z3 : wd R 3 = 0 := by rw [hR, down_word n 5 0 3 (by omega), wd_six n _ hn (by decide), wd_six n _ hn (by decide)]; try simp
  have z4 : wd R 4 = 0 := by rw [hR, down_word n 5 0 4 (by omega), wd_six n _ hn (by decide), wd_six n _ hn (by decide)]; try simp
  have z5 : wd R 5 = 0 := by rw [hR, down_word n 5 0 5 (by omega), wd_six n _ hn (by decide), wd_six n _ hn (by decide)]; try simp
  have O0 := Lib.hid o0; clear o0
  clear hR hk hn
  go_enter Tryd.func47, Tryd.ntmps47
  go_wp2
  refine wp_loop_rounds 7 ?_
  refine rounds_step 6 ?_
  go_wp2
  refine rounds_step 5 ?_
  go_wp2
  refine bodyPost_ret (v := SV R) (by simp [results, Tryd.results47, go_sem, z1, z2, z3, z4, z5, ← O0.out]) rfl ⟨rfl, ?_⟩
  repeat (first | with_reducible exact Below.refl _ _ | ((with_reducible refine Below.setCell ?_ ?hp _); case hp => (simp <;> omega)) | ((with_reducible refine Below.alloc ?_ ?hp _); case hp => (simp [World.setCell] <;> omega)) | (with_reducible refine Below.drew ?_))
set_option maxRecDepth 100000 in
set_option maxHeartbeats 4000000 in
theorem down_5r (n k r : Nat) (hn : n < M384) (hk : k = 64 * 5 + r) (hr0 : 0 < r) (hr : r < 64) (w : World) :
    Calls Tryd.prog 47 #[SV n, .int .i64 k] w fun e w' => e = .returned (SV (n / 2 ^ k)) ∧ Below w.heap.size w w' := by
  have g1 : (k : Int) / 64 = 5 := by omega
  have g2 : (k : Int) % 64 = r := by omega
  have b1 : (k : Int) < 384 := by omega
  obtain ⟨R, hR⟩ : ∃ R, R = n / 2 ^ k := ⟨_, rfl⟩
  rw [← hR]
  rw [hk] at hR
  have o0 : ((wd n 5 : Nat) : Int) / 2 ^ r = (wd R 0 : Nat) := by rw [hR, down_word n 5 r 0 (by omega), wd_six n _ hn (by decide : 6 ≤ 0 + 5 + 1)]; simp
  have z1 : wd R 1 = 0 := by rw [hR, down_word n 5 r 1 (by omega), wd_six n _ hn (by decide), wd_six n _ hn (by decide)]; try simp
  have z2 : wd R 2 = 0 := by rw [hR, down_word n 5 r 2 (by omega), wd_six n _ hn (by decide), wd_six n _ hn (by decide)]; try simp
  have z3 : wd R 3 = 0 := by rw [hR, down_word n 5 r 3 (by omega), wd_six n _ hn (by decide), wd_six n _ hn (by decide)]; try simp
  have z4 : wd R 4 = 0 := by rw [hR, down_word n 5 r 4 (by omega), wd_six n _ hn (by decide), wd_six n _ hn (by decide)]; try simp
  have z5 : wd R 5 = 0 := by rw [hR, down_word n 5 r 5 (by omega), wd_six n _ hn (by decide), wd_six n _ hn (by decide)]; try simp
  clear hR hk hn
  go_enter Tryd.func47, Tryd.ntmps47
  go_wp2
  refine wp_loop_rounds 7 ?_
  refine rounds_step 6 ?_
  go_wp2
  refine rounds_step 5 ?_
  go_wp2
  refine bodyPost_ret (v := SV R) (by simp [results, Tryd.results47, go_sem, z1, z2, z3, z4, z5]) rfl ⟨rfl, ?_⟩
  repeat (first | with_reducible exact Below.refl _ _ | ((with_reducible refine Below.setCell ?_ ?hp _); case hp => (simp <;> omega)) | ((with_reducible refine Below.alloc ?_ ?hp _); case hp => (simp [World.setCell] <;> omega)) | (with_reducible refine Below.drew ?_))
theorem down_any (n k : Nat) (hn : n < M384) (hk : k < 384) (w : World) :
    Calls Tryd.prog 47 #[SV n, .int .i64 k] w fun e w' => e = .returned (SV (n / 2 ^ k)) ∧ Below w.heap.size w w' := by
  obtain ⟨q, hq⟩ : ∃ q, q = k / 64 := ⟨_, rfl⟩
  rcases Nat.eq_zero_or_pos (k % 64) with h0 | h0
  all_goals obtain rfl | rfl | rfl | rfl | rfl | rfl : q = 0 ∨ q = 1 ∨ q = 2 ∨ q = 3 ∨ q = 4 ∨ q = 5 := by omega
  · exact down_0z n k hn (by omega) w
  · exact down_1z n k hn (by omega) w
  · exact down_2z n k hn (by omega) w
  · exact down_3z n k hn (by omega) w
  · exact down_4z n k hn (by omega) w
  · exact down_5z n k hn (by omega) w
  · exact down_0r n k (k % 64) hn (by omega) h0 (Nat.mod_lt _ (by decide)) w
  · exact down_1r n k (k % 64) hn (by omega) h0 (Nat.mod_lt _ (by decide)) w
  · exact down_2r n k (k % 64) hn (by omega) h0 (Nat.mod_lt _ (by decide)) w
  · exact down_3r n k (k % 64) hn (by omega) h0 (Nat.mod_lt _ (by decide)) w
  · exact down_4r n k (k % 64) hn (by omega) h0 (Nat.mod_lt _ (by decide)) w
  · exact down_5r n k (k % 64) hn (by omega) h0 (Nat.mod_lt _ (by decide)) w
end Go.Proofs.YtmnojohcfalodaaDoor
