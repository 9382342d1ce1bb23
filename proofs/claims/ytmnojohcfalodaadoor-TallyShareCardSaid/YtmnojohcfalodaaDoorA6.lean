/-
  Sums moved up, by walks: one for each word.
-/
import Derived.Test.YtmnojohcfalodaaDoorA5
namespace Go.Proofs.YtmnojohcfalodaaDoor
set_option linter.unusedVariables false
set_option linter.unusedSimpArgs false
open Go.RowKit
theorem wrap_wd (n i : Nat) : IntKind.u64.wrap ((wd n i : Nat) : Int) = (wd n i : Nat) := by
  have := wd_lt n i
  rw [IntKind.wrap_u64]; omega
set_option maxRecDepth 100000 in
set_option maxHeartbeats 4000000 in
theorem up_0z (n k : Nat) (hn : n < M384) (hk : k = 64 * 0 + 0) (w : World) :
    Calls Tryd.prog 80 #[SV n, .int .i64 k] w fun e w' => e = .returned (SV (n * 2 ^ k % M384)) ∧ Below w.heap.size w w' := by
  have g1 : (k : Int) / 64 = 0 := by omega
  have g2 : (k : Int) % 64 = 0 := by omega
  have b1 : (k : Int) < 384 := by omega
  obtain ⟨R, hR⟩ : ∃ R, R = n * 2 ^ k % M384 := ⟨_, rfl⟩
  rw [← hR]
  rw [hk] at hR
  have o0 : ((wd n 0 : Nat) : Int) = (wd R 0 : Nat) := by rw [hR, up_word_lo n 0 0 (by decide)]; have := wd_lt n 0; simp; omega
  have o1 : ((wd n 1 : Nat) : Int) = (wd R 1 : Nat) := by rw [hR, show (1 : Nat) = 0 + 1 + 0 from rfl, up_word n 0 0 0 (by decide) (by decide)]; have := wd_lt n 1; have := wd_lt n 0; simp; omega
  have o2 : ((wd n 2 : Nat) : Int) = (wd R 2 : Nat) := by rw [hR, show (2 : Nat) = 1 + 1 + 0 from rfl, up_word n 0 0 1 (by decide) (by decide)]; have := wd_lt n 2; have := wd_lt n 1; simp; omega
  have o3 : ((wd n 3 : Nat) : Int) = (wd R 3 : Nat) := by rw [hR, show (3 : Nat) = 2 + 1 + 0 from rfl, up_word n 0 0 2 (by decide) (by decide)]; have := wd_lt n 3; have := wd_lt n 2; simp; omega
  have o4 : ((wd n 4 : Nat) : Int) = (wd R 4 : Nat) := by rw [hR, show (4 : Nat) = 3 + 1 + 0 from rfl, up_word n 0 0 3 (by decide) (by decide)]; have := wd_lt n 4; have := wd_lt n 3; simp; omega
  have o5 : ((wd n 5 : Nat) : Int) = (wd R 5 : Nat) := by rw [hR, show (5 : Nat) = 4 + 1 + 0 from rfl, up_word n 0 0 4 (by decide) (by decide)]; have := wd_lt n 5; have := wd_lt n 4; simp; omega
  have O0 := Lib.hid o0; clear o0
  have O1 := Lib.hid o1; clear o1
  have O2 := Lib.hid o2; clear o2
  have O3 := Lib.hid o3; clear o3
  have O4 := Lib.hid o4; clear o4
  have O5 := Lib.hid o5; clear o5
  clear hR hk hn
  go_enter Tryd.func80, Tryd.ntmps80
  go_wp2
  refine wp_loop_rounds 7 ?_
  refine rounds_step 6 ?_
  go_wp2
  refine rounds_step 5 ?_
  go_wp2
  refine rounds_step 4 ?_
  go_wp2
  refine rounds_step 3 ?_
  go_wp2
  refine rounds_step 2 ?_
  go_wp2
  refine rounds_step 1 ?_
  go_wp2
  refine rounds_step 0 ?_
  go_wp2
  refine bodyPost_ret (v := SV R) (by simp [results, Tryd.results80, go_sem, ← O0.out, ← O1.out, ← O2.out, ← O3.out, ← O4.out, ← O5.out, wrap_wd]) rfl ⟨rfl, ?_⟩
  repeat (first | with_reducible exact Below.refl _ _ | ((with_reducible refine Below.setCell ?_ ?hp _); case hp => (simp <;> omega)) | ((with_reducible refine Below.alloc ?_ ?hp _); case hp => (simp [World.setCell] <;> omega)) | (with_reducible refine Below.drew ?_))
set_option maxRecDepth 100000 in
set_option maxHeartbeats 4000000 in
theorem up_0r (n k r : Nat) (hn : n < M384) (hk : k = 64 * 0 + r) (hr0 : 0 < r) (hr : r < 64) (w : World) :
    Calls Tryd.prog 80 #[SV n, .int .i64 k] w fun e w' => e = .returned (SV (n * 2 ^ k % M384)) ∧ Below w.heap.size w w' := by
  have g1 : (k : Int) / 64 = 0 := by omega
  have g2 : (k : Int) % 64 = r := by omega
  have b1 : (k : Int) < 384 := by omega
  obtain ⟨R, hR⟩ : ∃ R, R = n * 2 ^ k % M384 := ⟨_, rfl⟩
  rw [← hR]
  rw [hk] at hR
  have o0 : IntKind.u64.wrap (((wd n 0 : Nat) : Int) * 2 ^ r) = (wd R 0 : Nat) := by rw [hR, up_word_lo n 0 r (by decide), IntKind.wrap_u64]; simp
  have o1 : bits .or .u64 (IntKind.u64.wrap (((wd n 1 : Nat) : Int) * 2 ^ r)) (((wd n 0 : Nat) : Int) / 2 ^ (64 - r)) = (wd R 1 : Nat) := by rw [or_up _ _ r (wd_lt _ _) (by omega), hR, show (1 : Nat) = 0 + 1 + 0 from rfl, up_word n 0 r 0 hr (by decide)]
  have o2 : bits .or .u64 (IntKind.u64.wrap (((wd n 2 : Nat) : Int) * 2 ^ r)) (((wd n 1 : Nat) : Int) / 2 ^ (64 - r)) = (wd R 2 : Nat) := by rw [or_up _ _ r (wd_lt _ _) (by omega), hR, show (2 : Nat) = 1 + 1 + 0 from rfl, up_word n 0 r 1 hr (by decide)]
  have o3 : bits .or .u64 (IntKind.u64.wrap (((wd n 3 : Nat) : Int) * 2 ^ r)) (((wd n 2 : Nat) : Int) / 2 ^ (64 - r)) = (wd R 3 : Nat) := by rw [or_up _ _ r (wd_lt _ _) (by omega), hR, show (3 : Nat) = 2 + 1 + 0 from rfl, up_word n 0 r 2 hr (by decide)]
  have o4 : bits .or .u64 (IntKind.u64.wrap (((wd n 4 : Nat) : Int) * 2 ^ r)) (((wd n 3 : Nat) : Int) / 2 ^ (64 - r)) = (wd R 4 : Nat) := by rw [or_up _ _ r (wd_lt _ _) (by omega), hR, show (4 : Nat) = 3 + 1 + 0 from rfl, up_word n 0 r 3 hr (by decide)]
  have o5 : bits .or .u64 (IntKind.u64.wrap (((wd n 5 : Nat) : Int) * 2 ^ r)) (((wd n 4 : Nat) : Int) / 2 ^ (64 - r)) = (wd R 5 : Nat) := by rw [or_up _ _ r (wd_lt _ _) (by omega), hR, show (5 : Nat) = 4 + 1 + 0 from rfl, up_word n 0 r 4 hr (by decide)]
  clear hR hk hn
  go_enter Tryd.func80, Tryd.ntmps80
  go_wp2
  refine wp_loop_rounds 7 ?_
  refine rounds_step 6 ?_
  go_wp2
  refine rounds_step 5 ?_
  go_wp2
  go_region
  go_wp2
  refine rounds_step 4 ?_
  go_wp2
  go_region
  go_wp2
  refine rounds_step 3 ?_
  go_wp2
  go_region
  go_wp2
  refine rounds_step 2 ?_
  go_wp2
  go_region
  go_wp2
  refine rounds_step 1 ?_
  go_wp2
  go_region
  go_wp2
  refine rounds_step 0 ?_
  go_wp2
  refine bodyPost_ret (v := SV R) (by simp [results, Tryd.results80, go_sem]) rfl ⟨rfl, ?_⟩
  repeat (first | with_reducible exact Below.refl _ _ | ((with_reducible refine Below.setCell ?_ ?hp _); case hp => (simp <;> omega)) | ((with_reducible refine Below.alloc ?_ ?hp _); case hp => (simp [World.setCell] <;> omega)) | (with_reducible refine Below.drew ?_))
set_option maxRecDepth 100000 in
set_option maxHeartbeats 4000000 in
theorem up_1z (n k : Nat) (hn : n < M384) (hk : k = 64 * 1 + 0) (w : World) :
    Calls Tryd.prog 80 #[SV n, .int .i64 k] w fun e w' => e = .returned (SV (n * 2 ^ k % M384)) ∧ Below w.heap.size w w' := by
  have g1 : (k : Int) / 64 = 1 := by omega
  have g2 : (k : Int) % 64 = 0 := by omega
  have b1 : (k : Int) < 384 := by omega
  obtain ⟨R, hR⟩ : ∃ R, R = n * 2 ^ k % M384 := ⟨_, rfl⟩
  rw [← hR]
  rw [hk] at hR
  have z0 : wd R 0 = 0 := by rw [hR]; exact up_word_z n 1 0 0 (by decide) (by decide)
  have o1 : ((wd n 0 : Nat) : Int) = (wd R 1 : Nat) := by rw [hR, up_word_lo n 1 0 (by decide)]; have := wd_lt n 0; simp; omega
  have o2 : ((wd n 1 : Nat) : Int) = (wd R 2 : Nat) := by rw [hR, show (2 : Nat) = 0 + 1 + 1 from rfl, up_word n 1 0 0 (by decide) (by decide)]; have := wd_lt n 1; have := wd_lt n 0; simp; omega
  have o3 : ((wd n 2 : Nat) : Int) = (wd R 3 : Nat) := by rw [hR, show (3 : Nat) = 1 + 1 + 1 from rfl, up_word n 1 0 1 (by decide) (by decide)]; have := wd_lt n 2; have := wd_lt n 1; simp; omega
  have o4 : ((wd n 3 : Nat) : Int) = (wd R 4 : Nat) := by rw [hR, show (4 : Nat) = 2 + 1 + 1 from rfl, up_word n 1 0 2 (by decide) (by decide)]; have := wd_lt n 3; have := wd_lt n 2; simp; omega
  have o5 : ((wd n 4 : Nat) : Int) = (wd R 5 : Nat) := by rw [hR, show (5 : Nat) = 3 + 1 + 1 from rfl, up_word n 1 0 3 (by decide) (by decide)]; have := wd_lt n 4; have := wd_lt n 3; simp; omega
  have O1 := Lib.hid o1; clear o1
  have O2 := Lib.hid o2; clear o2
  have O3 := Lib.hid o3; clear o3
  have O4 := Lib.hid o4; clear o4
  have O5 := Lib.hid o5; clear o5
  clear hR hk hn
  go_enter Tryd.func80, Tryd.ntmps80
  go_wp2
  refine wp_loop_rounds 7 ?_
  refine rounds_step 6 ?_
  go_wp2
  refine rounds_step 5 ?_
  go_wp2
  refine rounds_step 4 ?_
  go_wp2
  refine rounds_step 3 ?_
  go_wp2
  refine rounds_step 2 ?_
  go_wp2
  refine rounds_step 1 ?_
  go_wp2
  refine bodyPost_ret (v := SV R) (by simp [results, Tryd.results80, go_sem, z0, ← O1.out, ← O2.out, ← O3.out, ← O4.out, ← O5.out, wrap_wd]) rfl ⟨rfl, ?_⟩
  repeat (first | with_reducible exact Below.refl _ _ | ((with_reducible refine Below.setCell ?_ ?hp _); case hp => (simp <;> omega)) | ((with_reducible refine Below.alloc ?_ ?hp _); case hp => (simp [World.setCell] <;> omega)) | (with_reducible refine Below.drew ?_))
set_option maxRecDepth 100000 in
set_option maxHeartbeats 4000000 in
theorem up_1r (n k r : Nat) (hn : n < M384) (hk : k = 64 * 1 + r) (hr0 : 0 < r) (hr : r < 64) (w : World) :
    Calls Tryd.prog 80 #[SV n, .int .i64 k] w fun e w' => e = .returned (SV (n * 2 ^ k % M384)) ∧ Below w.heap.size w w' := by
  have g1 : (k : Int) / 64 = 1 := by omega
  have g2 : (k : Int) % 64 = r := by omega
  have b1 : (k : Int) < 384 := by omega
  obtain ⟨R, hR⟩ : ∃ R, R = n * 2 ^ k % M384 := ⟨_, rfl⟩
  rw [← hR]
  rw [hk] at hR
  have z0 : wd R 0 = 0 := by rw [hR]; exact up_word_z n 1 r 0 (by decide) (by decide)
  have o1 : IntKind.u64.wrap (((wd n 0 : Nat) : Int) * 2 ^ r) = (wd R 1 : Nat) := by rw [hR, up_word_lo n 1 r (by decide), IntKind.wrap_u64]; simp
  have o2 : bits .or .u64 (IntKind.u64.wrap (((wd n 1 : Nat) : Int) * 2 ^ r)) (((wd n 0 : Nat) : Int) / 2 ^ (64 - r)) = (wd R 2 : Nat) := by rw [or_up _ _ r (wd_lt _ _) (by omega), hR, show (2 : Nat) = 0 + 1 + 1 from rfl, up_word n 1 r 0 hr (by decide)]
  have o3 : bits .or .u64 (IntKind.u64.wrap (((wd n 2 : Nat) : Int) * 2 ^ r)) (((wd n 1 : Nat) : Int) / 2 ^ (64 - r)) = (wd R 3 : Nat) := by rw [or_up _ _ r (wd_lt _ _) (by omega), hR, show (3 : Nat) = 1 + 1 + 1 from rfl, up_word n 1 r 1 hr (by decide)]
  have o4 : bits .or .u64 (IntKind.u64.wrap (((wd n 3 : Nat) : Int) * 2 ^ r)) (((wd n 2 : Nat) : Int) / 2 ^ (64 - r)) = (wd R 4 : Nat) := by rw [or_up _ _ r (wd_lt _ _) (by omega), hR, show (4 : Nat) = 2 + 1 + 1 from rfl, up_word n 1 r 2 hr (by decide)]
  have o5 : bits .or .u64 (IntKind.u64.wrap (((wd n 4 : Nat) : Int) * 2 ^ r)) (((wd n 3 : Nat) : Int) / 2 ^ (64 - r)) = (wd R 5 : Nat) := by rw [or_up _ _ r (wd_lt _ _) (by omega), hR, show (5 : Nat) = 3 + 1 + 1 from rfl, up_word n 1 r 3 hr (by decide)]
  clear hR hk hn
  go_enter Tryd.func80, Tryd.ntmps80
  go_wp2
  refine wp_loop_rounds 7 ?_
  refine rounds_step 6 ?_
  go_wp2
  refine rounds_step 5 ?_
  go_wp2
  go_region
  go_wp2
  refine rounds_step 4 ?_
  go_wp2
  go_region
  go_wp2
  refine rounds_step 3 ?_
  go_wp2
  go_region
  go_wp2
  refine rounds_step 2 ?_
  go_wp2
  go_region
  go_wp2
  refine rounds_step 1 ?_
  go_wp2
  refine bodyPost_ret (v := SV R) (by simp [results, Tryd.results80, go_sem, z0]) rfl ⟨rfl, ?_⟩
  repeat (first | with_reducible exact Below.refl _ _ | ((with_reducible refine Below.setCell ?_ ?hp _); case hp => (simp <;> omega)) | ((with_reducible refine Below.alloc ?_ ?hp _); case hp => (simp [World.setCell] <;> omega)) | (with_reducible refine Below.drew ?_))
set_option maxRecDepth 100000 in
set_option maxHeartbeats 4000000 in
theorem up_2z (n k : Nat) (hn : n < M384) (hk : k = 64 * 2 + 0) (w : World) :
    Calls Tryd.prog 80 #[SV n, .int .i64 k] w fun e w' => e = .returned (SV (n * 2 ^ k % M384)) ∧ Below w.heap.size w w' := by
  have g1 : (k : Int) / 64 = 2 := by omega
  have g2 : (k : Int) % 64 = 0 := by omega
  have b1 : (k : Int) < 384 := by omega
  obtain ⟨R, hR⟩ : ∃ R, R = n * 2 ^ k % M384 := ⟨_, rfl⟩
  rw [← hR]
  rw [hk] at hR
  have z0 : wd R 0 = 0 := by rw [hR]; exact up_word_z n 2 0 0 (by decide) (by decide)
  have z1 : wd R 1 = 0 := by rw [hR]; exact up_word_z n 2 0 1 (by decide) (by decide)
  have o2 : ((wd n 0 : Nat) : Int) = (wd R 2 : Nat) := by rw [hR, up_word_lo n 2 0 (by decide)]; have := wd_lt n 0; simp; omega
  have o3 : ((wd n 1 : Nat) : Int) = (wd R 3 : Nat) := by rw [hR, show (3 : Nat) = 0 + 1 + 2 from rfl, up_word n 2 0 0 (by decide) (by decide)]; have := wd_lt n 1; have := wd_lt n 0; simp; omega
  have o4 : ((wd n 2 : Nat) : Int) = (wd R 4 : Nat) := by rw [hR, show (4 : Nat) = 1 + 1 + 2 from rfl, up_word n 2 0 1 (by decide) (by decide)]; have := wd_lt n 2; have := wd_lt n 1; simp; omega
  have o5 : ((wd n 3 : Nat) : Int) = (wd R 5 : Nat) := by rw [hR, show (5 : Nat) = 2 + 1 + 2 from rfl, up_word n 2 0 2 (by decide) (by decide)]; have := wd_lt n 3; have := wd_lt n 2; simp; omega
  have O2 := Lib.hid o2; clear o2
  have O3 := Lib.hid o3; clear o3
  have O4 := Lib.hid o4; clear o4
  have O5 := Lib.hid o5; clear o5
  clear hR hk hn
  go_enter Tryd.func80, Tryd.ntmps80
  go_wp2
  refine wp_loop_rounds 7 ?_
  refine rounds_step 6 ?_
  go_wp2
  refine rounds_step 5 ?_
  go_wp2
  refine rounds_step 4 ?_
  go_wp2
  refine rounds_step 3 ?_
  go_wp2
  refine rounds_step 2 ?_
  go_wp2
  refine bodyPost_ret (v := SV R) (by simp [results, Tryd.results80, go_sem, z0, z1, ← O2.out, ← O3.out, ← O4.out, ← O5.out, wrap_wd]) rfl ⟨rfl, ?_⟩
  repeat (first | with_reducible exact Below.refl _ _ | ((with_reducible refine Below.setCell ?_ ?hp _); case hp => (simp <;> omega)) | ((with_reducible refine Below.alloc ?_ ?hp _); case hp => (simp [World.setCell] <;> omega)) | (with_reducible refine Below.drew ?_))
set_option maxRecDepth 100000 in
set_option maxHeartbeats 4000000 in
theorem up_2r (n k r : Nat) (hn : n < M384) (hk : k = 64 * 2 + r) (hr0 : 0 < r) (hr : r < 64) (w : World) :
    Calls Tryd.prog 80 #[SV n, .int .i64 k] w fun e w' => e = .returned (SV (n * 2 ^ k % M384)) ∧ Below w.heap.size w w' := by
  have g1 : (k : Int) / 64 = 2 := by omega
  have g2 : (k : Int) % 64 = r := by omega
  have b1 : (k : Int) < 384 := by omega
  obtain ⟨R, hR⟩ : ∃ R, R = n * 2 ^ k % M384 := ⟨_, rfl⟩
  rw [← hR]
  rw [hk] at hR
  have z0 : wd R 0 = 0 := by rw [hR]; exact up_word_z n 2 r 0 (by decide) (by decide)
  have z1 : wd R 1 = 0 := by rw [hR]; exact up_word_z n 2 r 1 (by decide) (by decide)
  have o2 : IntKind.u64.wrap (((wd n 0 : Nat) : Int) * 2 ^ r) = (wd R 2 : Nat) := by rw [hR, up_word_lo n 2 r (by decide), IntKind.wrap_u64]; simp
  have o3 : bits .or .u64 (IntKind.u64.wrap (((wd n 1 : Nat) : Int) * 2 ^ r)) (((wd n 0 : Nat) : Int) / 2 ^ (64 - r)) = (wd R 3 : Nat) := by rw [or_up _ _ r (wd_lt _ _) (by omega), hR, show (3 : Nat) = 0 + 1 + 2 from rfl, up_word n 2 r 0 hr (by decide)]
  have o4 : bits .or .u64 (IntKind.u64.wrap (((wd n 2 : Nat) : Int) * 2 ^ r)) (((wd n 1 : Nat) : Int) / 2 ^ (64 - r)) = (wd R 4 : Nat) := by rw [or_up _ _ r (wd_lt _ _) (by omega), hR, show (4 : Nat) = 1 + 1 + 2 from rfl, up_word n 2 r 1 hr (by decide)]
  have o5 : bits .or .u64 (IntKind.u64.wrap (((wd n 3 : Nat) : Int) * 2 ^ r)) (((wd n 2 : Nat) : Int) / 2 ^ (64 - r)) = (wd R 5 : Nat) := by rw [or_up _ _ r (wd_lt _ _) (by omega), hR, show (5 : Nat) = 2 + 1 + 2 from rfl, up_word n 2 r 2 hr (by decide)]
  clear hR hk hn
  go_enter Tryd.func80, Tryd.ntmps80
  go_wp2
  refine wp_loop_rounds 7 ?_
  refine rounds_step 6 ?_
  go_wp2
  refine rounds_step 5 ?_
  go_wp2
  go_region
  go_wp2
  refine rounds_step 4 ?_
  go_wp2
  go_region
  go_wp2
  refine rounds_step 3 ?_
  go_wp2
  go_region
  go_wp2
  refine rounds_step 2 ?_
  go_wp2
  refine bodyPost_ret (v := SV R) (by simp [results, Tryd.results80, go_sem, z0, z1]) rfl ⟨rfl, ?_⟩
  repeat (first | with_reducible exact Below.refl _ _ | ((with_reducible refine Below.setCell ?_ ?hp _); case hp => (simp <;> omega)) | ((with_reducible refine Below.alloc ?_ ?hp _); case hp => (simp [World.setCell] <;> omega)) | (with_reducible refine Below.drew ?_))
set_option maxRecDepth 100000 in
set_option maxHeartbeats 4000000 in
theorem up_3z (n k : Nat) (hn : n < M384) (hk : k = 64 * 3 + 0) (w : World) :
    Calls Tryd.prog 80 #[SV n, .int .i64 k] w fun e w' => e = .returned (SV (n * 2 ^ k % M384)) ∧ Below w.heap.size w w' := by
  have g1 : (k : Int) / 64 = 3 := by omega
  have g2 : (k : Int) % 64 = 0 := by omega
  have b1 : (k : Int) < 384 := by omega
  obtain ⟨R, hR⟩ : ∃ R, R = n * 2 ^ k % M384 := ⟨_, rfl⟩
  rw [← hR]
  rw [hk] at hR
  have z0 : wd R 0 = 0 := by rw [hR]; exact up_word_z n 3 0 0 (by decide) (by decide)
  have z1 : wd R 1 = 0 := by rw [hR]; exact up_word_z n 3 0 1 (by decide) (by decide)
  have z2 : wd R 2 = 0 := by rw [hR]; exact up_word_z n 3 0 2 (by decide) (by decide)
  have o3 : ((wd n 0 : Nat) : Int) = (wd R 3 : Nat) := by rw [hR, up_word_lo n 3 0 (by decide)]; have := wd_lt n 0; simp; omega
  have o4 : ((wd n 1 : Nat) : Int) = (wd R 4 : Nat) := by rw [hR, show (4 : Nat) = 0 + 1 + 3 from rfl, up_word n 3 0 0 (by decide) (by decide)]; have := wd_lt n 1; have := wd_lt n 0; simp; omega
  have o5 : ((wd n 2 : Nat) : Int) = (wd R 5 : Nat) := by rw [hR, show (5 : Nat) = 1 + 1 + 3 from rfl, up_word n 3 0 1 (by decide) (by decide)]; have := wd_lt n 2; have := wd_lt n 1; simp; omega
  have O3 := Lib.hid o3; clear o3
  have O4 := Lib.hid o4; clear o4
  have O5 := Lib.hid o5; clear o5
  clear hR hk hn
  go_enter Tryd.func80, Tryd.ntmps80
  go_wp2
  refine wp_loop_rounds 7 ?_
  refine rounds_step 6 ?_
  go_wp2
  refine rounds_step 5 ?_
  go_wp2
  refine rounds_step 4 ?_
  go_wp2
  refine rounds_step 3 ?_
  go_wp2
  refine bodyPost_ret (v := SV R) (by simp [results, Tryd.results80, go_sem, z0, z1, z2, ← O3.out, ← O4.out, ← O5.out, wrap_wd]) rfl ⟨rfl, ?_⟩
  repeat (first | with_reducible exact Below.refl _ _ | ((with_reducible refine Below.setCell ?_ ?hp _); case hp => (simp <;> omega)) | ((with_reducible refine Below.alloc ?_ ?hp _); case hp => (simp [World.setCell] <;> omega)) | (with_reducible refine Below.drew ?_))
set_option maxRecDepth 100000 in
set_option maxHeartbeats 4000000 in
theorem up_3r (n k r : Nat) (hn : n < M384) (hk : k = 64 * 3 + r) (hr0 : 0 < r) (hr : r < 64) (w : World) :
    Calls Tryd.prog 80 #[SV n, .int .i64 k] w fun e w' => e = .returned (SV (n * 2 ^ k % M384)) ∧ Below w.heap.size w w' := by
  have g1 : (k : Int) / 64 = 3 := by omega
  have g2 : (k : Int) % 64 = r := by omega
  have b1 : (k : Int) < 384 := by omega
  obtain ⟨R, hR⟩ : ∃ R, R = n * 2 ^ k % M384 := ⟨_, rfl⟩
  rw [← hR]
  rw [hk] at hR
  have z0 : wd R 0 = 0 := by rw [hR]; exact up_word_z n 3 r 0 (by decide) (by decide)
  have z1 : wd R 1 = 0 := by rw [hR]; exact up_word_z n 3 r 1 (by decide) (by decide)
  have z2 : wd R 2 = 0 := by rw [hR]; exact up_word_z n 3 r 2 (by decide) (by decide)
  have o3 : IntKind.u64.wrap (((wd n 0 : Nat) : Int) * 2 ^ r) = (wd R 3 : Nat) := by rw [hR, up_word_lo n 3 r (by decide), IntKind.wrap_u64]; simp
  have o4 : bits .or .u64 (IntKind.u64.wrap (((wd n 1 : Nat) : Int) * 2 ^ r)) (((wd n 0 : Nat) : Int) / 2 ^ (64 - r)) = (wd R 4 : Nat) := by rw [or_up _ _ r (wd_lt _ _) (by omega), hR, show (4 : Nat) = 0 + 1 + 3 from rfl, up_word n 3 r 0 hr (by decide)]
  have o5 : bits .or .u64 (IntKind.u64.wrap (((wd n 2 : Nat) : Int) * 2 ^ r)) (((wd n 1 : Nat) : Int) / 2 ^ (64 - r)) = (wd R 5 : Nat) := by rw [or_up _ _ r (wd_lt _ _) (by omega), hR, show (5 : Nat) = 1 + 1 + 3 from rfl, up_word n 3 r 1 hr (by decide)]
  clear hR hk hn
  go_enter Tryd.func80, Tryd.ntmps80
  go_wp2
  refine wp_loop_rounds 7 ?_
  refine rounds_step 6 ?_
  go_wp2
  refine rounds_step 5 ?_
  go_wp2
  go_region
  go_wp2
  refine rounds_step 4 ?_
  go_wp2
  go_region
  go_wp2
  refine rounds_step 3 ?_
  go_wp2
  refine bodyPost_ret (v := SV R) (by simp [results, Tryd.results80, go_sem, z0, z1, z2]) rfl ⟨rfl, ?_⟩
  repeat (first | with_reducible exact Below.refl _ _ | ((with_reducible refine Below.setCell ?_ ?hp _); case hp => (simp <;> omega)) | ((with_reducible refine Below.alloc ?_ ?hp _); case hp => (simp [World.setCell] <;> omega)) | (with_reducible refine Below.drew ?_))
set_option maxRecDepth 100000 in
set_option maxHeartbeats 4000000 in
theorem up_4z (n k : Nat) (hn : n < M384) (hk : k = 64 * 4 + 0) (w : World) :
    Calls Tryd.prog 80 #[SV n, .int .i64 k] w fun e w' => e = .returned (SV (n * 2 ^ k % M384)) ∧ Below w.heap.size w w' := by
  have g1 : (k : Int) / 64 = 4 := by omega
  have g2 : (k : Int) % 64 = 0 := by omega
  have b1 : (k : Int) < 384 := by omega
  obtain ⟨R, hR⟩ : ∃ R, R = n * 2 ^ k % M384 := ⟨_, rfl⟩
  rw [← hR]
  rw [hk] at hR
  have z0 : wd R 0 = 0 := by rw [hR]; exact up_word_z n 4 0 0 (by decide) (by decide)
  have z1 : wd R 1 = 0 := by rw [hR]; exact up_word_z n 4 0 1 (by decide) (by decide)
  have z2 : wd R 2 = 0 := by rw [hR]; exact up_word_z n 4 0 2 (by decide) (by decide)
  have z3 : wd R 3 = 0 := by rw [hR]; exact up_word_z n 4 0 3 (by decide) (by decide)
  have o4 : ((wd n 0 : Nat) : Int) = (wd R 4 : Nat) := by rw [hR, up_word_lo n 4 0 (by decide)]; have := wd_lt n 0; simp; omega
  have o5 : ((wd n 1 : Nat) : Int) = (wd R 5 : Nat) := by rw [hR, show (5 : Nat) = 0 + 1 + 4 from rfl, up_word n 4 0 0 (by decide) (by decide)]; have := wd_lt n 1; have := wd_lt n 0; simp; omega
  have O4 := Lib.hid o4; clear o4
  have O5 := Lib.hid o5; clear o5
  clear hR hk hn
  go_enter Tryd.func80, Tryd.ntmps80
  go_wp2
  refine wp_loop_rounds 7 ?_
  refine rounds_step 6 ?_
  go_wp2
  refine rounds_step 5 ?_
  go_wp2
  refine rounds_step 4 ?_
  go_wp2
  refine bodyPost_ret (v := SV R) (by simp [results, Tryd.results80, go_sem, z0, z1, z2, z3, ← O4.out, ← O5.out, wrap_wd]) rfl ⟨rfl, ?_⟩
  repeat (first | with_reducible exact Below.refl _ _ | ((with_reducible refine Below.setCell ?_ ?hp _); case hp => (simp <;> omega)) | ((with_reducible refine Below.alloc ?_ ?hp _); case hp => (simp [World.setCell] <;> omega)) | (with_reducible refine Below.drew ?_))
set_option maxRecDepth 100000 in
set_option maxHeartbeats 4000000 in
theorem up_4r (n k r : Nat) (hn : n < M384) (hk : k = 64 * 4 + r) (hr0 : 0 < r) (hr : r < 64) (w : World) :
    Calls Tryd.prog 80 #[SV n, .int .i64 k] w fun e w' => e = .returned (SV (n * 2 ^ k % M384)) ∧ Below w.heap.size w w' := by
  have g1 : (k : Int) / 64 = 4 := by omega
  have g2 : (k : Int) % 64 = r := by omega
  have b1 : (k : Int) < 384 := by omega
  obtain ⟨R, hR⟩ : ∃ R, R = n * 2 ^ k % M384 := ⟨_, rfl⟩
  rw [← hR]
  rw [hk] at hR
  have z0 : wd R 0 = 0 := by rw [hR]; exact up_word_z n 4 r 0 (by decide) (by decide)
  have z1 : wd R 1 = 0 := by rw [hR]; exact up_word_z n 4 r 1 (by decide) (by decide)
  have z2 : wd R 2 = 0 := by rw [hR]; exact up_word_z n 4 r 2 (by decide) (by decide)
  have z3 : wd R 3 = 0 := by rw [hR]; exact up_word_z n 4 r 3 (by decide) (by decide)
  have o4 : IntKind.u64.wrap (((wd n 0 : Nat) : Int) * 2 ^ r) = (wd R 4 : Nat) := by rw [hR, up_word_lo n 4 r (by decide), IntKind.wrap_u64]; simp
  have o5 : bits .or .u64 (IntKind.u64.wrap (((wd n 1 : Nat) : Int) * 2 ^ r)) (((wd n 0 : Nat) : Int) / 2 ^ (64 - r)) = (wd R 5 : Nat) := by rw [or_up _ _ r (wd_lt _ _) (by omega), hR, show (5 : Nat) = 0 + 1 + 4 from rfl, up_word n 4 r 0 hr (by decide)]
  clear hR hk hn
  go_enter Tryd.func80, Tryd.ntmps80
  go_wp2
  refine wp_loop_rounds 7 ?_
  refine rounds_step 6 ?_
  go_wp2
  refine rounds_step 5 ?_
  go_wp2
  go_region
  go_wp2
  refine rounds_step 4 ?_
  go_wp2
  refine bodyPost_ret (v := SV R) (by simp [results, Tryd.results80, go_sem, z0, z1, z2, z3]) rfl ⟨rfl, ?_⟩
  repeat (first | with_reducible exact Below.refl _ _ | ((with_reducible refine Below.setCell ?_ ?hp _); case hp => (simp <;> omega)) | ((with_reducible refine Below.alloc ?_ ?hp _); case hp => (simp [World.setCell] <;> omega)) | (with_reducible refine Below.drew ?_))
set_option maxRecDepth 100000 in
set_option maxHeartbeats 4000000 in
theorem up_5z (n k : Nat) (hn : n < M384) (hk : k = 64 * 5 + 0) (w : World) :
    Calls Tryd.prog 80 #[SV n, .int .i64 k] w fun e w' => e = .returned (SV (n * 2 ^ k % M384)) ∧ Below w.heap.size w w' := by
  have g1 : (k : Int) / 64 = 5 := by omega
  have g2 : (k : Int) % 64 = 0 := by omega
  have b1 : (k : Int) < 384 := by omega
  obtain ⟨R, hR⟩ : ∃ R, R = n * 2 ^ k % M384 := ⟨_, rfl⟩
  rw [← hR]
  rw [hk] at hR
  have z0 : wd R 0 = 0 := by rw [hR]; exact up_word_z n 5 0 0 (by decide) (by decide)
  have z1 : wd R 1 = 0 := by rw [hR]; exact up_word_z n 5 0 1 (by decide) (by decide)
  have z2 : wd R 2 = 0 := by rw [hR]; exact up_word_z n 5 0 2 (by decide) (by decide)
  have z3 : wd R 3 = 0 := by rw [hR]; exact up_word_z n 5 0 3 (by decide) (by decide)
  have z4 : wd R 4 = 0 := by rw [hR]; exact up_word_z n 5 0 4 (by decide) (by decide)
  have o5 : ((wd n 0 : Nat) : Int) = (wd R 5 : Nat) := by rw [hR, up_word_lo n 5 0 (by decide)]; have := wd_lt n 0; simp; omega
  have O5 := Lib.hid o5; clear o5
  clear hR hk hn
  go_enter Tryd.func80, Tryd.ntmps80
  go_wp2
  refine wp_loop_rounds 7 ?_
  refine rounds_step 6 ?_
  go_wp2
  refine rounds_step 5 ?_
  go_wp2
  refine bodyPost_ret (v := SV R) (by simp [results, Tryd.results80, go_sem, z0, z1, z2, z3, z4, ← O5.out, wrap_wd]) rfl ⟨rfl, ?_⟩
  repeat (first | with_reducible exact Below.refl _ _ | ((with_reducible refine Below.setCell ?_ ?hp _); case hp => (simp <;> omega)) | ((with_reducible refine Below.alloc ?_ ?hp _); case hp => (simp [World.setCell] <;> omega)) | (with_reducible refine Below.drew ?_))
set_option maxRecDepth 100000 in
set_option maxHeartbeats 4000000 in
theorem up_5r (n k r : Nat) (hn : n < M384) (hk : k = 64 * 5 + r) (hr0 : 0 < r) (hr : r < 64) (w : World) :
    Calls Tryd.prog 80 #[SV n, .int .i64 k] w fun e w' => e = .returned (SV (n * 2 ^ k % M384)) ∧ Below w.heap.size w w' := by
  have g1 : (k : Int) / 64 = 5 := by omega
  have g2 : (k : Int) % 64 = r := by omega
  have b1 : (k : Int) < 384 := by omega
  obtain ⟨R, hR⟩ : ∃ R, R = n * 2 ^ k % M384 := ⟨_, rfl⟩
  rw [← hR]
  rw [hk] at hR
  have z0 : wd R 0 = 0 := by rw [hR]; exact up_word_z n 5 r 0 (by decide) (by decide)
  have z1 : wd R 1 = 0 := by rw [hR]; exact up_word_z n 5 r 1 (by decide) (by decide)
  have z2 : wd R 2 = 0 := by rw [hR]; exact up_word_z n 5 r 2 (by decide) (by decide)
  have z3 : wd R 3 = 0 := by rw [hR]; exact up_word_z n 5 r 3 (by decide) (by decide)
  have z4 : wd R 4 = 0 := by rw [hR]; exact up_word_z n 5 r 4 (by decide) (by decide)
  have o5 : IntKind.u64.wrap (((wd n 0 : Nat) : Int) * 2 ^ r) = (wd R 5 : Nat) := by rw [hR, up_word_lo n 5 r (by decide), IntKind.wrap_u64]; simp
  clear hR hk hn
  go_enter Tryd.func80, Tryd.ntmps80
  go_wp2
  refine wp_loop_rounds 7 ?_
  refine rounds_step 6 ?_
  go_wp2
  refine rounds_step 5 ?_
  go_wp2
  refine bodyPost_ret (v := SV R) (by simp [results, Tryd.results80, go_sem, z0, z1, z2, z3, z4]) rfl ⟨rfl, ?_⟩
  repeat (first | with_reducible exact Below.refl _ _ | ((with_reducible refine Below.setCell ?_ ?hp _); case hp => (simp <;> omega)) | ((with_reducible refine Below.alloc ?_ ?hp _); case hp => (simp [World.setCell] <;> omega)) | (with_reducible refine Below.drew ?_))
theorem up_any (n k : Nat) (hn : n < M384) (hk : k < 384) (w : World) :
    Calls Tryd.prog 80 #[SV n, .int .i64 k] w fun e w' => e = .returned (SV (n * 2 ^ k % M384)) ∧ Below w.heap.size w w' := by
  obtain ⟨q, hq⟩ : ∃ q, q = k / 64 := ⟨_, rfl⟩
  rcases Nat.eq_zero_or_pos (k % 64) with h0 | h0
  all_goals obtain rfl | rfl | rfl | rfl | rfl | rfl : q = 0 ∨ q = 1 ∨ q = 2 ∨ q = 3 ∨ q = 4 ∨ q = 5 := by omega
  · exact up_0z n k hn (by omega) w
  · exact up_1z n k hn (by omega) w
  · exact up_2z n k hn (by omega) w
  · exact up_3z n k hn (by omega) w
  · exact up_4z n k hn (by omega) w
  · exact up_5z n k hn (by omega) w
  · exact up_0r n k (k % 64) hn (by omega) h0 (Nat.mod_lt _ (by decide)) w
  · exact up_1r n k (k % 64) hn (by omega) h0 (Nat.mod_lt _ (by decide)) w
  · exact up_2r n k (k % 64) hn (by omega) h0 (Nat.mod_lt _ (by decide)) w
  · exact up_3r n k (k % 64) hn (by omega) h0 (Nat.mod_lt _ (by decide)) w
  · exact up_4r n k (k % 64) hn (by omega) h0 (Nat.mod_lt _ (by decide)) w
  · exact up_5r n k (k % 64) hn (by omega) h0 (Nat.mod_lt _ (by decide)) w
end Go.Proofs.YtmnojohcfalodaaDoor
