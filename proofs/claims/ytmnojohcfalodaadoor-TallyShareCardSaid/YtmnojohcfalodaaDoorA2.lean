/-
  tally.Put: what it gives, by walks: one for each word in which the number begins.
-/
import Derived.Test.YtmnojohcfalodaaDoorA1
import Derived.Test.YtmnojohcfalodaaDoorNa
namespace Go.Proofs.YtmnojohcfalodaaDoor
set_option linter.unusedVariables false
set_option linter.unusedSimpArgs false
open Go.RowKit

theorem and255 (u : Nat) (hu : u < 4294967296) : bits .and .u32 ((u : Int) / 8388608) 255 = ((u / 8388608 % 256 : Nat) : Int) := by
  have h := u32_and_nat (u / 8388608) 255 (by omega) (by decide)
  rw [nat_mask8] at h
  rw [← h]; rfl
theorem andfrac (u : Nat) (hu : u < 4294967296) : bits .and .u32 (u : Int) 8388607 = ((u % 8388608 : Nat) : Int) := by
  have h := u32_and_nat u 8388607 (by omega) (by decide)
  rw [nat_mask23] at h
  rw [← h]; rfl
theorem orlead (m : Nat) (hm : m < 8388608) : bits .or .u64 (m : Int) 8388608 = (m : Int) + 8388608 := by
  have h := u64_or_nat 8388608 m (by decide) (by omega)
  rw [nat_join 23 8388608 m (by decide) (by omega)] at h
  have h2 := u64_or_nat m 8388608 (by omega) (by decide)
  rw [Nat.or_comm, nat_join 23 8388608 m (by decide) (by omega)] at h2
  rw [show ((8388608 + m : Nat) : Int) = (m : Int) + 8388608 by omega] at h2
  exact h2

theorem neg_w (a0 a1 a2 a3 a4 a5 : Int) (n : Nat) (h0 : a0 = (wd n 0 : Nat)) (h1 : a1 = (wd n 1 : Nat)) (h2 : a2 = (wd n 2 : Nat)) (h3 : a3 = (wd n 3 : Nat)) (h4 : a4 = (wd n 4 : Nat)) (h5 : a5 = (wd n 5 : Nat)) (hn : n < M384) (w : World) :
    Calls Tryd.prog 30 #[.agg #[.int .u64 a0, .int .u64 a1, .int .u64 a2, .int .u64 a3, .int .u64 a4, .int .u64 a5]] w fun e w' => e = .returned (SV ((M384 - n) % M384)) ∧ Below w.heap.size w w' := by
  subst h0 h1 h2 h3 h4 h5; exact neg_any n hn w
theorem merge_w (m : Nat) (a0 a1 a2 a3 a4 a5 : Int) (n : Nat) (h0 : a0 = (wd n 0 : Nat)) (h1 : a1 = (wd n 1 : Nat)) (h2 : a2 = (wd n 2 : Nat)) (h3 : a3 = (wd n 3 : Nat)) (h4 : a4 = (wd n 4 : Nat)) (h5 : a5 = (wd n 5 : Nat)) (hm : m < M384) (hn : n < M384) (w : World) :
    Calls Tryd.prog 14 #[SV m, .agg #[.int .u64 a0, .int .u64 a1, .int .u64 a2, .int .u64 a3, .int .u64 a4, .int .u64 a5]] w fun e w' => e = .returned (SV ((m + n) % M384)) ∧ Below w.heap.size w w' := by
  subst h0 h1 h2 h3 h4 h5; exact merge_any m n hm hn w

set_option maxHeartbeats 400000 in
theorem finite29 (u : Nat) (hu : u < 4294967296) (w : World) :
    Calls Tryd.prog 29 #[.int .u32 u] w fun e w' => e = .returned (.bool (!(u / 8388608 % 256 == 255))) ∧ w = w' := by
  have h1 := and255 u hu
  have h2 : (((u / 8388608 % 256 : Nat) : Int) != 255) = (!(u / 8388608 % 256 == 255)) := by
    rw [Bool.eq_iff_iff]; simp; omega
  rw [← h1] at h2
  clear h1
  go_enter Tryd.func29, Tryd.ntmps29
  go_wp2
  go_ret
  simp
set_option maxHeartbeats 400000 in
theorem put_inf (s : Nat) (u : Nat) (hu : u < 4294967296) (hf : u / 8388608 % 256 = 255) (w : World) :
    Calls Tryd.prog 13 #[SV s, .int .u32 u] w fun e w' => e = .returned (SV s) ∧ Below w.heap.size w w' := by
  go_enter Tryd.func13, Tryd.ntmps13
  go_wp2_with fail
  refine (finite29 u hu _).mono ?_
  rw [hf]
  rintro e w' ⟨rfl, rfl⟩
  go_wp2_with fail
  refine bodyPost_ret (v := SV s) (by simp [results, Tryd.results13, go_sem]) rfl ⟨rfl, ?_⟩
  repeat (first | with_reducible exact Below.refl _ _ | ((with_reducible refine Below.setCell ?_ ?hp _); case hp => (simp <;> omega)) | ((with_reducible refine Below.alloc ?_ ?hp _); case hp => (simp <;> omega)) | (with_reducible refine Below.drew ?_))
set_option maxRecDepth 100000 in
set_option maxHeartbeats 2000000 in
theorem put_pz (s : Nat) (hs : s < M384) (u m X : Nat) (hu : u < 4294967296) (hE : u / 8388608 % 256 = 0) (hm : u % 8388608 = m) (hX : X = m * 2 ^ (64 * 0 + 0)) (hneg : u / 2147483648 = 0) (w : World) :
    Calls Tryd.prog 13 #[SV s, .int .u32 u] w fun e w' => e = .returned (SV ((s + X) % M384)) ∧ Below w.heap.size w w' := by
  have hf := finite29 u hu
  have h1 := and255 u hu
  have h2 := andfrac u hu
  have hml : m < 8388608 := by omega
  rw [hm] at h2
  rw [hE] at h1 hf
  rw [show (!(0 == 255)) = true by rfl] at hf
  have hXl : X < M384 := by rw [hX]; exact lay_lt _ 0 _ (by omega) (by omega) (by decide)
  have w0 : wd X 0 = m * 2 ^ 0 % 18446744073709551616 := by rw [hX]; exact lay_at _ 0 _
  have w1 : wd X 1 = 0 := by rw [hX]; exact lay_next0 _ 0 _ (by omega) (by omega)
  have w2 : wd X 2 = 0 := by rw [hX]; exact lay_hi _ 0 _ 2 (by omega) (by omega) (by decide)
  have w3 : wd X 3 = 0 := by rw [hX]; exact lay_hi _ 0 _ 3 (by omega) (by omega) (by decide)
  have w4 : wd X 4 = 0 := by rw [hX]; exact lay_hi _ 0 _ 4 (by omega) (by omega) (by decide)
  have w5 : wd X 5 = 0 := by rw [hX]; exact lay_hi _ 0 _ 5 (by omega) (by omega) (by decide)
  have z0 : (m : Int) = (wd X 0 : Nat) := by rw [w0]; simp; omega
  have gn : ((u : Int) / 2147483648 == 1) = false := by rw [show (u : Int) / 2147483648 = 0 by omega]; rfl
  have z1 : (0 : Int) = (wd X 1 : Nat) := by rw [w1]; rfl
  have z2 : (0 : Int) = (wd X 2 : Nat) := by rw [w2]; rfl
  have z3 : (0 : Int) = (wd X 3 : Nat) := by rw [w3]; rfl
  have z4 : (0 : Int) = (wd X 4 : Nat) := by rw [w4]; rfl
  have z5 : (0 : Int) = (wd X 5 : Nat) := by rw [w5]; rfl
  obtain ⟨R, hR⟩ : ∃ R, R = ((s + X) % M384) := ⟨_, rfl⟩
  rw [← hR]
  have HM := fun W => merge_w s _ _ _ _ _ _ X z0 z1 z2 z3 z4 z5 hs hXl W
  rw [← hR] at HM
  have HM := Lib.hid HM
  clear hR
  have HF := Lib.hid hf
  clear hf hm hE hX hXl w0 w1 w2 w3 w4 w5 z1 z2 z3 z4 z5 z0
  go_enter Tryd.func13, Tryd.ntmps13
  go_wp2_with (go_at_call 29; refine (HF.out _).mono ?_; rintro e w' ⟨rfl, rfl⟩)
  refine (HM.out _).mono ?_
  rintro e w2 ⟨rfl, hb2⟩
  obtain ⟨hc2, hf2, hz2⟩ := kept_to hb2 (w.heap.size + 3) (by simp)
  have HB2 := Lib.hid hb2; clear hb2
  go_wp2_with fail
  refine bodyPost_ret (v := SV R) (by simp [results, Tryd.results13, go_sem, hc2]) rfl ⟨rfl, ?_⟩
  repeat (first | with_reducible exact Below.refl _ _ | ((with_reducible refine Below.setCell ?_ ?hp _); case hp => (simp <;> omega)) | ((with_reducible refine Below.alloc ?_ ?hp _); case hp => (simp <;> omega)) | (with_reducible refine Below.drew ?_) | ((with_reducible refine Below.trans ?_ (HB2.out.mono ?hm)); case hm => (simp <;> omega)))
set_option maxRecDepth 100000 in
set_option maxHeartbeats 2000000 in
theorem put_p0s (s : Nat) (hs : s < M384) (u m X : Nat) (hu : u < 4294967296) (E b : Nat) (hE : u / 8388608 % 256 = E) (hEb : E = 64 * 0 + b + 1) (hE5 : E ≠ 255) (hb : b ≤ 40) (hm : u % 8388608 = m) (hX : X = (m + 8388608) * 2 ^ (64 * 0 + b)) (hneg : u / 2147483648 = 0) (w : World) :
    Calls Tryd.prog 13 #[SV s, .int .u32 u] w fun e w' => e = .returned (SV ((s + X) % M384)) ∧ Below w.heap.size w w' := by
  have hf := finite29 u hu
  have h1 := and255 u hu
  have h2 := andfrac u hu
  have hml : m < 8388608 := by omega
  have h3 := orlead m hml
  rw [hm] at h2
  rw [hE] at h1 hf
  rw [show (!(E == 255)) = true by simp; omega] at hf
  have hXl : X < M384 := by rw [hX]; exact lay_lt _ 0 _ (by omega) (by omega) (by decide)
  have w0 : wd X 0 = (m + 8388608) * 2 ^ b % 18446744073709551616 := by rw [hX]; exact lay_at _ 0 _
  have w1 : wd X 1 = 0 := by rw [hX]; exact lay_next0 _ 0 _ (by omega) (by omega)
  have w2 : wd X 2 = 0 := by rw [hX]; exact lay_hi _ 0 _ 2 (by omega) (by omega) (by decide)
  have w3 : wd X 3 = 0 := by rw [hX]; exact lay_hi _ 0 _ 3 (by omega) (by omega) (by decide)
  have w4 : wd X 4 = 0 := by rw [hX]; exact lay_hi _ 0 _ 4 (by omega) (by omega) (by decide)
  have w5 : wd X 5 = 0 := by rw [hX]; exact lay_hi _ 0 _ 5 (by omega) (by omega) (by decide)
  have g0 : ((E : Int) - 1) / 64 = 0 := by omega
  have g0' : (E - 1) / 64 = 0 := by omega
  have g0'' : (E - 1) % 64 = b := by omega
  have g0''' : ((E : Int) - 1) % 64 = b := by omega
  have g1 : IntKind.u64.wrap (((m : Int) + 8388608) * 2 ^ b) = ((wd X 0 : Nat) : Int) := by rw [w0, IntKind.wrap_u64]; simp
  have gn : ((u : Int) / 2147483648 == 1) = false := by rw [show (u : Int) / 2147483648 = 0 by omega]; rfl
  have z1 : (0 : Int) = (wd X 1 : Nat) := by rw [w1]; rfl
  have z2 : (0 : Int) = (wd X 2 : Nat) := by rw [w2]; rfl
  have z3 : (0 : Int) = (wd X 3 : Nat) := by rw [w3]; rfl
  have z4 : (0 : Int) = (wd X 4 : Nat) := by rw [w4]; rfl
  have z5 : (0 : Int) = (wd X 5 : Nat) := by rw [w5]; rfl
  obtain ⟨R, hR⟩ : ∃ R, R = ((s + X) % M384) := ⟨_, rfl⟩
  rw [← hR]
  have HM := fun W => merge_w s _ _ _ _ _ _ X rfl z1 z2 z3 z4 z5 hs hXl W
  rw [← hR] at HM
  have HM := Lib.hid HM
  clear hR
  have HF := Lib.hid hf
  clear hf hm hE hX hXl w0 w1 w2 w3 w4 w5 z1 z2 z3 z4 z5 hEb hE5
  go_enter Tryd.func13, Tryd.ntmps13
  go_wp2_with (go_at_call 29; refine (HF.out _).mono ?_; rintro e w' ⟨rfl, rfl⟩)
  refine (HM.out _).mono ?_
  rintro e w2 ⟨rfl, hb2⟩
  obtain ⟨hc2, hf2, hz2⟩ := kept_to hb2 (w.heap.size + 3) (by simp)
  have HB2 := Lib.hid hb2; clear hb2
  go_wp2_with fail
  refine bodyPost_ret (v := SV R) (by simp [results, Tryd.results13, go_sem, hc2]) rfl ⟨rfl, ?_⟩
  repeat (first | with_reducible exact Below.refl _ _ | ((with_reducible refine Below.setCell ?_ ?hp _); case hp => (simp <;> omega)) | ((with_reducible refine Below.alloc ?_ ?hp _); case hp => (simp <;> omega)) | (with_reducible refine Below.drew ?_) | ((with_reducible refine Below.trans ?_ (HB2.out.mono ?hm)); case hm => (simp <;> omega)))
set_option maxRecDepth 100000 in
set_option maxHeartbeats 2000000 in
theorem put_p0b (s : Nat) (hs : s < M384) (u m X : Nat) (hu : u < 4294967296) (E b : Nat) (hE : u / 8388608 % 256 = E) (hEb : E = 64 * 0 + b + 1) (hE5 : E ≠ 255) (hb : 40 < b) (hb2 : b ≤ 63) (hm : u % 8388608 = m) (hX : X = (m + 8388608) * 2 ^ (64 * 0 + b)) (hneg : u / 2147483648 = 0) (w : World) :
    Calls Tryd.prog 13 #[SV s, .int .u32 u] w fun e w' => e = .returned (SV ((s + X) % M384)) ∧ Below w.heap.size w w' := by
  have hf := finite29 u hu
  have h1 := and255 u hu
  have h2 := andfrac u hu
  have hml : m < 8388608 := by omega
  have h3 := orlead m hml
  rw [hm] at h2
  rw [hE] at h1 hf
  rw [show (!(E == 255)) = true by simp; omega] at hf
  have hXl : X < M384 := by rw [hX]; exact lay_lt _ 0 _ (by omega) (by omega) (by decide)
  have w0 : wd X 0 = (m + 8388608) * 2 ^ b % 18446744073709551616 := by rw [hX]; exact lay_at _ 0 _
  have w1 : wd X 1 = (m + 8388608) / 2 ^ (64 - b) := by rw [hX]; exact lay_next _ 0 _ (by omega) (by omega)
  have w2 : wd X 2 = 0 := by rw [hX]; exact lay_hi _ 0 _ 2 (by omega) (by omega) (by decide)
  have w3 : wd X 3 = 0 := by rw [hX]; exact lay_hi _ 0 _ 3 (by omega) (by omega) (by decide)
  have w4 : wd X 4 = 0 := by rw [hX]; exact lay_hi _ 0 _ 4 (by omega) (by omega) (by decide)
  have w5 : wd X 5 = 0 := by rw [hX]; exact lay_hi _ 0 _ 5 (by omega) (by omega) (by decide)
  have g0 : ((E : Int) - 1) / 64 = 0 := by omega
  have g0' : (E - 1) / 64 = 0 := by omega
  have g0'' : (E - 1) % 64 = b := by omega
  have g0''' : ((E : Int) - 1) % 64 = b := by omega
  have g1 : IntKind.u64.wrap (((m : Int) + 8388608) * 2 ^ b) = ((wd X 0 : Nat) : Int) := by rw [w0, IntKind.wrap_u64]; simp
  have g2 : ((m : Int) + 8388608) / 2 ^ (64 - b) = ((wd X 1 : Nat) : Int) := by rw [w1]; simp
  have gn : ((u : Int) / 2147483648 == 1) = false := by rw [show (u : Int) / 2147483648 = 0 by omega]; rfl
  have z2 : (0 : Int) = (wd X 2 : Nat) := by rw [w2]; rfl
  have z3 : (0 : Int) = (wd X 3 : Nat) := by rw [w3]; rfl
  have z4 : (0 : Int) = (wd X 4 : Nat) := by rw [w4]; rfl
  have z5 : (0 : Int) = (wd X 5 : Nat) := by rw [w5]; rfl
  obtain ⟨R, hR⟩ : ∃ R, R = ((s + X) % M384) := ⟨_, rfl⟩
  rw [← hR]
  have HM := fun W => merge_w s _ _ _ _ _ _ X rfl rfl z2 z3 z4 z5 hs hXl W
  rw [← hR] at HM
  have HM := Lib.hid HM
  clear hR
  have HF := Lib.hid hf
  clear hf hm hE hX hXl w0 w1 w2 w3 w4 w5 z2 z3 z4 z5 hEb hE5
  go_enter Tryd.func13, Tryd.ntmps13
  go_wp2_with (go_at_call 29; refine (HF.out _).mono ?_; rintro e w' ⟨rfl, rfl⟩)
  refine (HM.out _).mono ?_
  rintro e w2 ⟨rfl, hb2⟩
  obtain ⟨hc2, hf2, hz2⟩ := kept_to hb2 (w.heap.size + 3) (by simp)
  have HB2 := Lib.hid hb2; clear hb2
  go_wp2_with fail
  refine bodyPost_ret (v := SV R) (by simp [results, Tryd.results13, go_sem, hc2]) rfl ⟨rfl, ?_⟩
  repeat (first | with_reducible exact Below.refl _ _ | ((with_reducible refine Below.setCell ?_ ?hp _); case hp => (simp <;> omega)) | ((with_reducible refine Below.alloc ?_ ?hp _); case hp => (simp <;> omega)) | (with_reducible refine Below.drew ?_) | ((with_reducible refine Below.trans ?_ (HB2.out.mono ?hm)); case hm => (simp <;> omega)))
set_option maxRecDepth 100000 in
set_option maxHeartbeats 2000000 in
theorem put_p1s (s : Nat) (hs : s < M384) (u m X : Nat) (hu : u < 4294967296) (E b : Nat) (hE : u / 8388608 % 256 = E) (hEb : E = 64 * 1 + b + 1) (hE5 : E ≠ 255) (hb : b ≤ 40) (hm : u % 8388608 = m) (hX : X = (m + 8388608) * 2 ^ (64 * 1 + b)) (hneg : u / 2147483648 = 0) (w : World) :
    Calls Tryd.prog 13 #[SV s, .int .u32 u] w fun e w' => e = .returned (SV ((s + X) % M384)) ∧ Below w.heap.size w w' := by
  have hf := finite29 u hu
  have h1 := and255 u hu
  have h2 := andfrac u hu
  have hml : m < 8388608 := by omega
  have h3 := orlead m hml
  rw [hm] at h2
  rw [hE] at h1 hf
  rw [show (!(E == 255)) = true by simp; omega] at hf
  have hXl : X < M384 := by rw [hX]; exact lay_lt _ 1 _ (by omega) (by omega) (by decide)
  have w0 : wd X 0 = 0 := by rw [hX]; exact lay_lo _ 1 _ 0 (by decide)
  have w1 : wd X 1 = (m + 8388608) * 2 ^ b % 18446744073709551616 := by rw [hX]; exact lay_at _ 1 _
  have w2 : wd X 2 = 0 := by rw [hX]; exact lay_next0 _ 1 _ (by omega) (by omega)
  have w3 : wd X 3 = 0 := by rw [hX]; exact lay_hi _ 1 _ 3 (by omega) (by omega) (by decide)
  have w4 : wd X 4 = 0 := by rw [hX]; exact lay_hi _ 1 _ 4 (by omega) (by omega) (by decide)
  have w5 : wd X 5 = 0 := by rw [hX]; exact lay_hi _ 1 _ 5 (by omega) (by omega) (by decide)
  have g0 : ((E : Int) - 1) / 64 = 1 := by omega
  have g0' : (E - 1) / 64 = 1 := by omega
  have g0'' : (E - 1) % 64 = b := by omega
  have g0''' : ((E : Int) - 1) % 64 = b := by omega
  have g1 : IntKind.u64.wrap (((m : Int) + 8388608) * 2 ^ b) = ((wd X 1 : Nat) : Int) := by rw [w1, IntKind.wrap_u64]; simp
  have gn : ((u : Int) / 2147483648 == 1) = false := by rw [show (u : Int) / 2147483648 = 0 by omega]; rfl
  have z0 : (0 : Int) = (wd X 0 : Nat) := by rw [w0]; rfl
  have z2 : (0 : Int) = (wd X 2 : Nat) := by rw [w2]; rfl
  have z3 : (0 : Int) = (wd X 3 : Nat) := by rw [w3]; rfl
  have z4 : (0 : Int) = (wd X 4 : Nat) := by rw [w4]; rfl
  have z5 : (0 : Int) = (wd X 5 : Nat) := by rw [w5]; rfl
  obtain ⟨R, hR⟩ : ∃ R, R = ((s + X) % M384) := ⟨_, rfl⟩
  rw [← hR]
  have HM := fun W => merge_w s _ _ _ _ _ _ X z0 rfl z2 z3 z4 z5 hs hXl W
  rw [← hR] at HM
  have HM := Lib.hid HM
  clear hR
  have HF := Lib.hid hf
  clear hf hm hE hX hXl w0 w1 w2 w3 w4 w5 z0 z2 z3 z4 z5 hEb hE5
  go_enter Tryd.func13, Tryd.ntmps13
  go_wp2_with (go_at_call 29; refine (HF.out _).mono ?_; rintro e w' ⟨rfl, rfl⟩)
  refine (HM.out _).mono ?_
  rintro e w2 ⟨rfl, hb2⟩
  obtain ⟨hc2, hf2, hz2⟩ := kept_to hb2 (w.heap.size + 3) (by simp)
  have HB2 := Lib.hid hb2; clear hb2
  go_wp2_with fail
  refine bodyPost_ret (v := SV R) (by simp [results, Tryd.results13, go_sem, hc2]) rfl ⟨rfl, ?_⟩
  repeat (first | with_reducible exact Below.refl _ _ | ((with_reducible refine Below.setCell ?_ ?hp _); case hp => (simp <;> omega)) | ((with_reducible refine Below.alloc ?_ ?hp _); case hp => (simp <;> omega)) | (with_reducible refine Below.drew ?_) | ((with_reducible refine Below.trans ?_ (HB2.out.mono ?hm)); case hm => (simp <;> omega)))
set_option maxRecDepth 100000 in
set_option maxHeartbeats 2000000 in
theorem put_p1b (s : Nat) (hs : s < M384) (u m X : Nat) (hu : u < 4294967296) (E b : Nat) (hE : u / 8388608 % 256 = E) (hEb : E = 64 * 1 + b + 1) (hE5 : E ≠ 255) (hb : 40 < b) (hb2 : b ≤ 63) (hm : u % 8388608 = m) (hX : X = (m + 8388608) * 2 ^ (64 * 1 + b)) (hneg : u / 2147483648 = 0) (w : World) :
    Calls Tryd.prog 13 #[SV s, .int .u32 u] w fun e w' => e = .returned (SV ((s + X) % M384)) ∧ Below w.heap.size w w' := by
  have hf := finite29 u hu
  have h1 := and255 u hu
  have h2 := andfrac u hu
  have hml : m < 8388608 := by omega
  have h3 := orlead m hml
  rw [hm] at h2
  rw [hE] at h1 hf
  rw [show (!(E == 255)) = true by simp; omega] at hf
  have hXl : X < M384 := by rw [hX]; exact lay_lt _ 1 _ (by omega) (by omega) (by decide)
  have w0 : wd X 0 = 0 := by rw [hX]; exact lay_lo _ 1 _ 0 (by decide)
  have w1 : wd X 1 = (m + 8388608) * 2 ^ b % 18446744073709551616 := by rw [hX]; exact lay_at _ 1 _
  have w2 : wd X 2 = (m + 8388608) / 2 ^ (64 - b) := by rw [hX]; exact lay_next _ 1 _ (by omega) (by omega)
  have w3 : wd X 3 = 0 := by rw [hX]; exact lay_hi _ 1 _ 3 (by omega) (by omega) (by decide)
  have w4 : wd X 4 = 0 := by rw [hX]; exact lay_hi _ 1 _ 4 (by omega) (by omega) (by decide)
  have w5 : wd X 5 = 0 := by rw [hX]; exact lay_hi _ 1 _ 5 (by omega) (by omega) (by decide)
  have g0 : ((E : Int) - 1) / 64 = 1 := by omega
  have g0' : (E - 1) / 64 = 1 := by omega
  have g0'' : (E - 1) % 64 = b := by omega
  have g0''' : ((E : Int) - 1) % 64 = b := by omega
  have g1 : IntKind.u64.wrap (((m : Int) + 8388608) * 2 ^ b) = ((wd X 1 : Nat) : Int) := by rw [w1, IntKind.wrap_u64]; simp
  have g2 : ((m : Int) + 8388608) / 2 ^ (64 - b) = ((wd X 2 : Nat) : Int) := by rw [w2]; simp
  have gn : ((u : Int) / 2147483648 == 1) = false := by rw [show (u : Int) / 2147483648 = 0 by omega]; rfl
  have z0 : (0 : Int) = (wd X 0 : Nat) := by rw [w0]; rfl
  have z3 : (0 : Int) = (wd X 3 : Nat) := by rw [w3]; rfl
  have z4 : (0 : Int) = (wd X 4 : Nat) := by rw [w4]; rfl
  have z5 : (0 : Int) = (wd X 5 : Nat) := by rw [w5]; rfl
  obtain ⟨R, hR⟩ : ∃ R, R = ((s + X) % M384) := ⟨_, rfl⟩
  rw [← hR]
  have HM := fun W => merge_w s _ _ _ _ _ _ X z0 rfl rfl z3 z4 z5 hs hXl W
  rw [← hR] at HM
  have HM := Lib.hid HM
  clear hR
  have HF := Lib.hid hf
  clear hf hm hE hX hXl w0 w1 w2 w3 w4 w5 z0 z3 z4 z5 hEb hE5
  go_enter Tryd.func13, Tryd.ntmps13
  go_wp2_with (go_at_call 29; refine (HF.out _).mono ?_; rintro e w' ⟨rfl, rfl⟩)
  refine (HM.out _).mono ?_
  rintro e w2 ⟨rfl, hb2⟩
  obtain ⟨hc2, hf2, hz2⟩ := kept_to hb2 (w.heap.size + 3) (by simp)
  have HB2 := Lib.hid hb2; clear hb2
  go_wp2_with fail
  refine bodyPost_ret (v := SV R) (by simp [results, Tryd.results13, go_sem, hc2]) rfl ⟨rfl, ?_⟩
  repeat (first | with_reducible exact Below.refl _ _ | ((with_reducible refine Below.setCell ?_ ?hp _); case hp => (simp <;> omega)) | ((with_reducible refine Below.alloc ?_ ?hp _); case hp => (simp <;> omega)) | (with_reducible refine Below.drew ?_) | ((with_reducible refine Below.trans ?_ (HB2.out.mono ?hm)); case hm => (simp <;> omega)))
set_option maxRecDepth 100000 in
set_option maxHeartbeats 2000000 in
theorem put_p2s (s : Nat) (hs : s < M384) (u m X : Nat) (hu : u < 4294967296) (E b : Nat) (hE : u / 8388608 % 256 = E) (hEb : E = 64 * 2 + b + 1) (hE5 : E ≠ 255) (hb : b ≤ 40) (hm : u % 8388608 = m) (hX : X = (m + 8388608) * 2 ^ (64 * 2 + b)) (hneg : u / 2147483648 = 0) (w : World) :
    Calls Tryd.prog 13 #[SV s, .int .u32 u] w fun e w' => e = .returned (SV ((s + X) % M384)) ∧ Below w.heap.size w w' := by
  have hf := finite29 u hu
  have h1 := and255 u hu
  have h2 := andfrac u hu
  have hml : m < 8388608 := by omega
  have h3 := orlead m hml
  rw [hm] at h2
  rw [hE] at h1 hf
  rw [show (!(E == 255)) = true by simp; omega] at hf
  have hXl : X < M384 := by rw [hX]; exact lay_lt _ 2 _ (by omega) (by omega) (by decide)
  have w0 : wd X 0 = 0 := by rw [hX]; exact lay_lo _ 2 _ 0 (by decide)
  have w1 : wd X 1 = 0 := by rw [hX]; exact lay_lo _ 2 _ 1 (by decide)
  have w2 : wd X 2 = (m + 8388608) * 2 ^ b % 18446744073709551616 := by rw [hX]; exact lay_at _ 2 _
  have w3 : wd X 3 = 0 := by rw [hX]; exact lay_next0 _ 2 _ (by omega) (by omega)
  have w4 : wd X 4 = 0 := by rw [hX]; exact lay_hi _ 2 _ 4 (by omega) (by omega) (by decide)
  have w5 : wd X 5 = 0 := by rw [hX]; exact lay_hi _ 2 _ 5 (by omega) (by omega) (by decide)
  have g0 : ((E : Int) - 1) / 64 = 2 := by omega
  have g0' : (E - 1) / 64 = 2 := by omega
  have g0'' : (E - 1) % 64 = b := by omega
  have g0''' : ((E : Int) - 1) % 64 = b := by omega
  have g1 : IntKind.u64.wrap (((m : Int) + 8388608) * 2 ^ b) = ((wd X 2 : Nat) : Int) := by rw [w2, IntKind.wrap_u64]; simp
  have gn : ((u : Int) / 2147483648 == 1) = false := by rw [show (u : Int) / 2147483648 = 0 by omega]; rfl
  have z0 : (0 : Int) = (wd X 0 : Nat) := by rw [w0]; rfl
  have z1 : (0 : Int) = (wd X 1 : Nat) := by rw [w1]; rfl
  have z3 : (0 : Int) = (wd X 3 : Nat) := by rw [w3]; rfl
  have z4 : (0 : Int) = (wd X 4 : Nat) := by rw [w4]; rfl
  have z5 : (0 : Int) = (wd X 5 : Nat) := by rw [w5]; rfl
  obtain ⟨R, hR⟩ : ∃ R, R = ((s + X) % M384) := ⟨_, rfl⟩
  rw [← hR]
  have HM := fun W => merge_w s _ _ _ _ _ _ X z0 z1 rfl z3 z4 z5 hs hXl W
  rw [← hR] at HM
  have HM := Lib.hid HM
  clear hR
  have HF := Lib.hid hf
  clear hf hm hE hX hXl w0 w1 w2 w3 w4 w5 z0 z1 z3 z4 z5 hEb hE5
  go_enter Tryd.func13, Tryd.ntmps13
  go_wp2_with (go_at_call 29; refine (HF.out _).mono ?_; rintro e w' ⟨rfl, rfl⟩)
  refine (HM.out _).mono ?_
  rintro e w2 ⟨rfl, hb2⟩
  obtain ⟨hc2, hf2, hz2⟩ := kept_to hb2 (w.heap.size + 3) (by simp)
  have HB2 := Lib.hid hb2; clear hb2
  go_wp2_with fail
  refine bodyPost_ret (v := SV R) (by simp [results, Tryd.results13, go_sem, hc2]) rfl ⟨rfl, ?_⟩
  repeat (first | with_reducible exact Below.refl _ _ | ((with_reducible refine Below.setCell ?_ ?hp _); case hp => (simp <;> omega)) | ((with_reducible refine Below.alloc ?_ ?hp _); case hp => (simp <;> omega)) | (with_reducible refine Below.drew ?_) | ((with_reducible refine Below.trans ?_ (HB2.out.mono ?hm)); case hm => (simp <;> omega)))
set_option maxRecDepth 100000 in
set_option maxHeartbeats 2000000 in
theorem put_p2b (s : Nat) (hs : s < M384) (u m X : Nat) (hu : u < 4294967296) (E b : Nat) (hE : u / 8388608 % 256 = E) (hEb : E = 64 * 2 + b + 1) (hE5 : E ≠ 255) (hb : 40 < b) (hb2 : b ≤ 63) (hm : u % 8388608 = m) (hX : X = (m + 8388608) * 2 ^ (64 * 2 + b)) (hneg : u / 2147483648 = 0) (w : World) :
    Calls Tryd.prog 13 #[SV s, .int .u32 u] w fun e w' => e = .returned (SV ((s + X) % M384)) ∧ Below w.heap.size w w' := by
  have hf := finite29 u hu
  have h1 := and255 u hu
  have h2 := andfrac u hu
  have hml : m < 8388608 := by omega
  have h3 := orlead m hml
  rw [hm] at h2
  rw [hE] at h1 hf
  rw [show (!(E == 255)) = true by simp; omega] at hf
  have hXl : X < M384 := by rw [hX]; exact lay_lt _ 2 _ (by omega) (by omega) (by decide)
  have w0 : wd X 0 = 0 := by rw [hX]; exact lay_lo _ 2 _ 0 (by decide)
  have w1 : wd X 1 = 0 := by rw [hX]; exact lay_lo _ 2 _ 1 (by decide)
  have w2 : wd X 2 = (m + 8388608) * 2 ^ b % 18446744073709551616 := by rw [hX]; exact lay_at _ 2 _
  have w3 : wd X 3 = (m + 8388608) / 2 ^ (64 - b) := by rw [hX]; exact lay_next _ 2 _ (by omega) (by omega)
  have w4 : wd X 4 = 0 := by rw [hX]; exact lay_hi _ 2 _ 4 (by omega) (by omega) (by decide)
  have w5 : wd X 5 = 0 := by rw [hX]; exact lay_hi _ 2 _ 5 (by omega) (by omega) (by decide)
  have g0 : ((E : Int) - 1) / 64 = 2 := by omega
  have g0' : (E - 1) / 64 = 2 := by omega
  have g0'' : (E - 1) % 64 = b := by omega
  have g0''' : ((E : Int) - 1) % 64 = b := by omega
  have g1 : IntKind.u64.wrap (((m : Int) + 8388608) * 2 ^ b) = ((wd X 2 : Nat) : Int) := by rw [w2, IntKind.wrap_u64]; simp
  have g2 : ((m : Int) + 8388608) / 2 ^ (64 - b) = ((wd X 3 : Nat) : Int) := by rw [w3]; simp
  have gn : ((u : Int) / 2147483648 == 1) = false := by rw [show (u : Int) / 2147483648 = 0 by omega]; rfl
  have z0 : (0 : Int) = (wd X 0 : Nat) := by rw [w0]; rfl
  have z1 : (0 : Int) = (wd X 1 : Nat) := by rw [w1]; rfl
  have z4 : (0 : Int) = (wd X 4 : Nat) := by rw [w4]; rfl
  have z5 : (0 : Int) = (wd X 5 : Nat) := by rw [w5]; rfl
  obtain ⟨R, hR⟩ : ∃ R, R = ((s + X) % M384) := ⟨_, rfl⟩
  rw [← hR]
  have HM := fun W => merge_w s _ _ _ _ _ _ X z0 z1 rfl rfl z4 z5 hs hXl W
  rw [← hR] at HM
  have HM := Lib.hid HM
  clear hR
  have HF := Lib.hid hf
  clear hf hm hE hX hXl w0 w1 w2 w3 w4 w5 z0 z1 z4 z5 hEb hE5
  go_enter Tryd.func13, Tryd.ntmps13
  go_wp2_with (go_at_call 29; refine (HF.out _).mono ?_; rintro e w' ⟨rfl, rfl⟩)
  refine (HM.out _).mono ?_
  rintro e w2 ⟨rfl, hb2⟩
  obtain ⟨hc2, hf2, hz2⟩ := kept_to hb2 (w.heap.size + 3) (by simp)
  have HB2 := Lib.hid hb2; clear hb2
  go_wp2_with fail
  refine bodyPost_ret (v := SV R) (by simp [results, Tryd.results13, go_sem, hc2]) rfl ⟨rfl, ?_⟩
  repeat (first | with_reducible exact Below.refl _ _ | ((with_reducible refine Below.setCell ?_ ?hp _); case hp => (simp <;> omega)) | ((with_reducible refine Below.alloc ?_ ?hp _); case hp => (simp <;> omega)) | (with_reducible refine Below.drew ?_) | ((with_reducible refine Below.trans ?_ (HB2.out.mono ?hm)); case hm => (simp <;> omega)))
set_option maxRecDepth 100000 in
set_option maxHeartbeats 2000000 in
theorem put_p3s (s : Nat) (hs : s < M384) (u m X : Nat) (hu : u < 4294967296) (E b : Nat) (hE : u / 8388608 % 256 = E) (hEb : E = 64 * 3 + b + 1) (hE5 : E ≠ 255) (hb : b ≤ 40) (hm : u % 8388608 = m) (hX : X = (m + 8388608) * 2 ^ (64 * 3 + b)) (hneg : u / 2147483648 = 0) (w : World) :
    Calls Tryd.prog 13 #[SV s, .int .u32 u] w fun e w' => e = .returned (SV ((s + X) % M384)) ∧ Below w.heap.size w w' := by
  have hf := finite29 u hu
  have h1 := and255 u hu
  have h2 := andfrac u hu
  have hml : m < 8388608 := by omega
  have h3 := orlead m hml
  rw [hm] at h2
  rw [hE] at h1 hf
  rw [show (!(E == 255)) = true by simp; omega] at hf
  have hXl : X < M384 := by rw [hX]; exact lay_lt _ 3 _ (by omega) (by omega) (by decide)
  have w0 : wd X 0 = 0 := by rw [hX]; exact lay_lo _ 3 _ 0 (by decide)
  have w1 : wd X 1 = 0 := by rw [hX]; exact lay_lo _ 3 _ 1 (by decide)
  have w2 : wd X 2 = 0 := by rw [hX]; exact lay_lo _ 3 _ 2 (by decide)
  have w3 : wd X 3 = (m + 8388608) * 2 ^ b % 18446744073709551616 := by rw [hX]; exact lay_at _ 3 _
  have w4 : wd X 4 = 0 := by rw [hX]; exact lay_next0 _ 3 _ (by omega) (by omega)
  have w5 : wd X 5 = 0 := by rw [hX]; exact lay_hi _ 3 _ 5 (by omega) (by omega) (by decide)
  have g0 : ((E : Int) - 1) / 64 = 3 := by omega
  have g0' : (E - 1) / 64 = 3 := by omega
  have g0'' : (E - 1) % 64 = b := by omega
  have g0''' : ((E : Int) - 1) % 64 = b := by omega
  have g1 : IntKind.u64.wrap (((m : Int) + 8388608) * 2 ^ b) = ((wd X 3 : Nat) : Int) := by rw [w3, IntKind.wrap_u64]; simp
  have gn : ((u : Int) / 2147483648 == 1) = false := by rw [show (u : Int) / 2147483648 = 0 by omega]; rfl
  have z0 : (0 : Int) = (wd X 0 : Nat) := by rw [w0]; rfl
  have z1 : (0 : Int) = (wd X 1 : Nat) := by rw [w1]; rfl
  have z2 : (0 : Int) = (wd X 2 : Nat) := by rw [w2]; rfl
  have z4 : (0 : Int) = (wd X 4 : Nat) := by rw [w4]; rfl
  have z5 : (0 : Int) = (wd X 5 : Nat) := by rw [w5]; rfl
  obtain ⟨R, hR⟩ : ∃ R, R = ((s + X) % M384) := ⟨_, rfl⟩
  rw [← hR]
  have HM := fun W => merge_w s _ _ _ _ _ _ X z0 z1 z2 rfl z4 z5 hs hXl W
  rw [← hR] at HM
  have HM := Lib.hid HM
  clear hR
  have HF := Lib.hid hf
  clear hf hm hE hX hXl w0 w1 w2 w3 w4 w5 z0 z1 z2 z4 z5 hEb hE5
  go_enter Tryd.func13, Tryd.ntmps13
  go_wp2_with (go_at_call 29; refine (HF.out _).mono ?_; rintro e w' ⟨rfl, rfl⟩)
  refine (HM.out _).mono ?_
  rintro e w2 ⟨rfl, hb2⟩
  obtain ⟨hc2, hf2, hz2⟩ := kept_to hb2 (w.heap.size + 3) (by simp)
  have HB2 := Lib.hid hb2; clear hb2
  go_wp2_with fail
  refine bodyPost_ret (v := SV R) (by simp [results, Tryd.results13, go_sem, hc2]) rfl ⟨rfl, ?_⟩
  repeat (first | with_reducible exact Below.refl _ _ | ((with_reducible refine Below.setCell ?_ ?hp _); case hp => (simp <;> omega)) | ((with_reducible refine Below.alloc ?_ ?hp _); case hp => (simp <;> omega)) | (with_reducible refine Below.drew ?_) | ((with_reducible refine Below.trans ?_ (HB2.out.mono ?hm)); case hm => (simp <;> omega)))
set_option maxRecDepth 100000 in
set_option maxHeartbeats 2000000 in
theorem put_p3b (s : Nat) (hs : s < M384) (u m X : Nat) (hu : u < 4294967296) (E b : Nat) (hE : u / 8388608 % 256 = E) (hEb : E = 64 * 3 + b + 1) (hE5 : E ≠ 255) (hb : 40 < b) (hb2 : b ≤ 63) (hm : u % 8388608 = m) (hX : X = (m + 8388608) * 2 ^ (64 * 3 + b)) (hneg : u / 2147483648 = 0) (w : World) :
    Calls Tryd.prog 13 #[SV s, .int .u32 u] w fun e w' => e = .returned (SV ((s + X) % M384)) ∧ Below w.heap.size w w' := by
  have hf := finite29 u hu
  have h1 := and255 u hu
  have h2 := andfrac u hu
  have hml : m < 8388608 := by omega
  have h3 := orlead m hml
  rw [hm] at h2
  rw [hE] at h1 hf
  rw [show (!(E == 255)) = true by simp; omega] at hf
  have hXl : X < M384 := by rw [hX]; exact lay_lt _ 3 _ (by omega) (by omega) (by decide)
  have w0 : wd X 0 = 0 := by rw [hX]; exact lay_lo _ 3 _ 0 (by decide)
  have w1 : wd X 1 = 0 := by rw [hX]; exact lay_lo _ 3 _ 1 (by decide)
  have w2 : wd X 2 = 0 := by rw [hX]; exact lay_lo _ 3 _ 2 (by decide)
  have w3 : wd X 3 = (m + 8388608) * 2 ^ b % 18446744073709551616 := by rw [hX]; exact lay_at _ 3 _
  have w4 : wd X 4 = (m + 8388608) / 2 ^ (64 - b) := by rw [hX]; exact lay_next _ 3 _ (by omega) (by omega)
  have w5 : wd X 5 = 0 := by rw [hX]; exact lay_hi _ 3 _ 5 (by omega) (by omega) (by decide)
  have g0 : ((E : Int) - 1) / 64 = 3 := by omega
  have g0' : (E - 1) / 64 = 3 := by omega
  have g0'' : (E - 1) % 64 = b := by omega
  have g0''' : ((E : Int) - 1) % 64 = b := by omega
  have g1 : IntKind.u64.wrap (((m : Int) + 8388608) * 2 ^ b) = ((wd X 3 : Nat) : Int) := by rw [w3, IntKind.wrap_u64]; simp
  have g2 : ((m : Int) + 8388608) / 2 ^ (64 - b) = ((wd X 4 : Nat) : Int) := by rw [w4]; simp
  have gn : ((u : Int) / 2147483648 == 1) = false := by rw [show (u : Int) / 2147483648 = 0 by omega]; rfl
  have z0 : (0 : Int) = (wd X 0 : Nat) := by rw [w0]; rfl
  have z1 : (0 : Int) = (wd X 1 : Nat) := by rw [w1]; rfl
  have z2 : (0 : Int) = (wd X 2 : Nat) := by rw [w2]; rfl
  have z5 : (0 : Int) = (wd X 5 : Nat) := by rw [w5]; rfl
  obtain ⟨R, hR⟩ : ∃ R, R = ((s + X) % M384) := ⟨_, rfl⟩
  rw [← hR]
  have HM := fun W => merge_w s _ _ _ _ _ _ X z0 z1 z2 rfl rfl z5 hs hXl W
  rw [← hR] at HM
  have HM := Lib.hid HM
  clear hR
  have HF := Lib.hid hf
  clear hf hm hE hX hXl w0 w1 w2 w3 w4 w5 z0 z1 z2 z5 hEb hE5
  go_enter Tryd.func13, Tryd.ntmps13
  go_wp2_with (go_at_call 29; refine (HF.out _).mono ?_; rintro e w' ⟨rfl, rfl⟩)
  refine (HM.out _).mono ?_
  rintro e w2 ⟨rfl, hb2⟩
  obtain ⟨hc2, hf2, hz2⟩ := kept_to hb2 (w.heap.size + 3) (by simp)
  have HB2 := Lib.hid hb2; clear hb2
  go_wp2_with fail
  refine bodyPost_ret (v := SV R) (by simp [results, Tryd.results13, go_sem, hc2]) rfl ⟨rfl, ?_⟩
  repeat (first | with_reducible exact Below.refl _ _ | ((with_reducible refine Below.setCell ?_ ?hp _); case hp => (simp <;> omega)) | ((with_reducible refine Below.alloc ?_ ?hp _); case hp => (simp <;> omega)) | (with_reducible refine Below.drew ?_) | ((with_reducible refine Below.trans ?_ (HB2.out.mono ?hm)); case hm => (simp <;> omega)))
set_option maxRecDepth 100000 in
set_option maxHeartbeats 2000000 in
theorem put_nz (s : Nat) (hs : s < M384) (u m X : Nat) (hu : u < 4294967296) (hE : u / 8388608 % 256 = 0) (hm : u % 8388608 = m) (hX : X = m * 2 ^ (64 * 0 + 0)) (hneg : u / 2147483648 = 1) (w : World) :
    Calls Tryd.prog 13 #[SV s, .int .u32 u] w fun e w' => e = .returned (SV ((s + (M384 - X) % M384) % M384)) ∧ Below w.heap.size w w' := by
  have hf := finite29 u hu
  have h1 := and255 u hu
  have h2 := andfrac u hu
  have hml : m < 8388608 := by omega
  rw [hm] at h2
  rw [hE] at h1 hf
  rw [show (!(0 == 255)) = true by rfl] at hf
  have hXl : X < M384 := by rw [hX]; exact lay_lt _ 0 _ (by omega) (by omega) (by decide)
  have w0 : wd X 0 = m * 2 ^ 0 % 18446744073709551616 := by rw [hX]; exact lay_at _ 0 _
  have w1 : wd X 1 = 0 := by rw [hX]; exact lay_next0 _ 0 _ (by omega) (by omega)
  have w2 : wd X 2 = 0 := by rw [hX]; exact lay_hi _ 0 _ 2 (by omega) (by omega) (by decide)
  have w3 : wd X 3 = 0 := by rw [hX]; exact lay_hi _ 0 _ 3 (by omega) (by omega) (by decide)
  have w4 : wd X 4 = 0 := by rw [hX]; exact lay_hi _ 0 _ 4 (by omega) (by omega) (by decide)
  have w5 : wd X 5 = 0 := by rw [hX]; exact lay_hi _ 0 _ 5 (by omega) (by omega) (by decide)
  have z0 : (m : Int) = (wd X 0 : Nat) := by rw [w0]; simp; omega
  have gn : ((u : Int) / 2147483648 == 1) = true := by rw [show (u : Int) / 2147483648 = 1 by omega]; rfl
  have z1 : (0 : Int) = (wd X 1 : Nat) := by rw [w1]; rfl
  have z2 : (0 : Int) = (wd X 2 : Nat) := by rw [w2]; rfl
  have z3 : (0 : Int) = (wd X 3 : Nat) := by rw [w3]; rfl
  have z4 : (0 : Int) = (wd X 4 : Nat) := by rw [w4]; rfl
  have z5 : (0 : Int) = (wd X 5 : Nat) := by rw [w5]; rfl
  obtain ⟨R, hR⟩ : ∃ R, R = ((s + (M384 - X) % M384) % M384) := ⟨_, rfl⟩
  rw [← hR]
  have HN := Lib.hid (fun W => neg_w _ _ _ _ _ _ X z0 z1 z2 z3 z4 z5 hXl W)
  have HM := fun W => merge_any s ((M384 - X) % M384) hs (Nat.mod_lt _ (by decide)) W
  rw [← hR] at HM
  have HM := Lib.hid HM
  clear hR
  have HF := Lib.hid hf
  clear hf hm hE hX hXl w0 w1 w2 w3 w4 w5 z1 z2 z3 z4 z5 z0
  go_enter Tryd.func13, Tryd.ntmps13
  go_wp2_with (go_at_call 29; refine (HF.out _).mono ?_; rintro e w' ⟨rfl, rfl⟩)
  refine (HN.out _).mono ?_
  rintro e w1 ⟨rfl, hb1⟩
  obtain ⟨hc1, hf1, hz1⟩ := kept_to hb1 (w.heap.size + 3) (by simp)
  have HB1 := Lib.hid hb1; clear hb1
  go_wp2_with fail
  refine (HM.out _).mono ?_
  rintro e w2 ⟨rfl, hb2⟩
  obtain ⟨hc2, hf2, hz2⟩ := kept_to hb2 (w.heap.size + 3) (by simp <;> omega)
  have HB2 := Lib.hid hb2; clear hb2
  go_wp2_with fail
  refine bodyPost_ret (v := SV R) (by simp [results, Tryd.results13, go_sem, hc2, hc1]) rfl ⟨rfl, ?_⟩
  repeat (first | with_reducible exact Below.refl _ _ | ((with_reducible refine Below.setCell ?_ ?hp _); case hp => (simp <;> omega)) | ((with_reducible refine Below.alloc ?_ ?hp _); case hp => (simp <;> omega)) | (with_reducible refine Below.drew ?_) | ((with_reducible refine Below.trans ?_ (HB2.out.mono ?hm)); case hm => (simp <;> omega)) | ((with_reducible refine Below.trans ?_ (HB1.out.mono ?hm)); case hm => (simp <;> omega)))
set_option maxRecDepth 100000 in
set_option maxHeartbeats 2000000 in
theorem put_n0s (s : Nat) (hs : s < M384) (u m X : Nat) (hu : u < 4294967296) (E b : Nat) (hE : u / 8388608 % 256 = E) (hEb : E = 64 * 0 + b + 1) (hE5 : E ≠ 255) (hb : b ≤ 40) (hm : u % 8388608 = m) (hX : X = (m + 8388608) * 2 ^ (64 * 0 + b)) (hneg : u / 2147483648 = 1) (w : World) :
    Calls Tryd.prog 13 #[SV s, .int .u32 u] w fun e w' => e = .returned (SV ((s + (M384 - X) % M384) % M384)) ∧ Below w.heap.size w w' := by
  have hf := finite29 u hu
  have h1 := and255 u hu
  have h2 := andfrac u hu
  have hml : m < 8388608 := by omega
  have h3 := orlead m hml
  rw [hm] at h2
  rw [hE] at h1 hf
  rw [show (!(E == 255)) = true by simp; omega] at hf
  have hXl : X < M384 := by rw [hX]; exact lay_lt _ 0 _ (by omega) (by omega) (by decide)
  have w0 : wd X 0 = (m + 8388608) * 2 ^ b % 18446744073709551616 := by rw [hX]; exact lay_at _ 0 _
  have w1 : wd X 1 = 0 := by rw [hX]; exact lay_next0 _ 0 _ (by omega) (by omega)
  have w2 : wd X 2 = 0 := by rw [hX]; exact lay_hi _ 0 _ 2 (by omega) (by omega) (by decide)
  have w3 : wd X 3 = 0 := by rw [hX]; exact lay_hi _ 0 _ 3 (by omega) (by omega) (by decide)
  have w4 : wd X 4 = 0 := by rw [hX]; exact lay_hi _ 0 _ 4 (by omega) (by omega) (by decide)
  have w5 : wd X 5 = 0 := by rw [hX]; exact lay_hi _ 0 _ 5 (by omega) (by omega) (by decide)
  have g0 : ((E : Int) - 1) / 64 = 0 := by omega
  have g0' : (E - 1) / 64 = 0 := by omega
  have g0'' : (E - 1) % 64 = b := by omega
  have g0''' : ((E : Int) - 1) % 64 = b := by omega
  have g1 : IntKind.u64.wrap (((m : Int) + 8388608) * 2 ^ b) = ((wd X 0 : Nat) : Int) := by rw [w0, IntKind.wrap_u64]; simp
  have gn : ((u : Int) / 2147483648 == 1) = true := by rw [show (u : Int) / 2147483648 = 1 by omega]; rfl
  have z1 : (0 : Int) = (wd X 1 : Nat) := by rw [w1]; rfl
  have z2 : (0 : Int) = (wd X 2 : Nat) := by rw [w2]; rfl
  have z3 : (0 : Int) = (wd X 3 : Nat) := by rw [w3]; rfl
  have z4 : (0 : Int) = (wd X 4 : Nat) := by rw [w4]; rfl
  have z5 : (0 : Int) = (wd X 5 : Nat) := by rw [w5]; rfl
  obtain ⟨R, hR⟩ : ∃ R, R = ((s + (M384 - X) % M384) % M384) := ⟨_, rfl⟩
  rw [← hR]
  have HN := Lib.hid (fun W => neg_w _ _ _ _ _ _ X rfl z1 z2 z3 z4 z5 hXl W)
  have HM := fun W => merge_any s ((M384 - X) % M384) hs (Nat.mod_lt _ (by decide)) W
  rw [← hR] at HM
  have HM := Lib.hid HM
  clear hR
  have HF := Lib.hid hf
  clear hf hm hE hX hXl w0 w1 w2 w3 w4 w5 z1 z2 z3 z4 z5 hEb hE5
  go_enter Tryd.func13, Tryd.ntmps13
  go_wp2_with (go_at_call 29; refine (HF.out _).mono ?_; rintro e w' ⟨rfl, rfl⟩)
  refine (HN.out _).mono ?_
  rintro e w1 ⟨rfl, hb1⟩
  obtain ⟨hc1, hf1, hz1⟩ := kept_to hb1 (w.heap.size + 3) (by simp)
  have HB1 := Lib.hid hb1; clear hb1
  go_wp2_with fail
  refine (HM.out _).mono ?_
  rintro e w2 ⟨rfl, hb2⟩
  obtain ⟨hc2, hf2, hz2⟩ := kept_to hb2 (w.heap.size + 3) (by simp <;> omega)
  have HB2 := Lib.hid hb2; clear hb2
  go_wp2_with fail
  refine bodyPost_ret (v := SV R) (by simp [results, Tryd.results13, go_sem, hc2, hc1]) rfl ⟨rfl, ?_⟩
  repeat (first | with_reducible exact Below.refl _ _ | ((with_reducible refine Below.setCell ?_ ?hp _); case hp => (simp <;> omega)) | ((with_reducible refine Below.alloc ?_ ?hp _); case hp => (simp <;> omega)) | (with_reducible refine Below.drew ?_) | ((with_reducible refine Below.trans ?_ (HB2.out.mono ?hm)); case hm => (simp <;> omega)) | ((with_reducible refine Below.trans ?_ (HB1.out.mono ?hm)); case hm => (simp <;> omega)))
set_option maxRecDepth 100000 in
set_option maxHeartbeats 2000000 in
theorem put_n0b (s : Nat) (hs : s < M384) (u m X : Nat) (hu : u < 4294967296) (E b : Nat) (hE : u / 8388608 % 256 = E) (hEb : E = 64 * 0 + b + 1) (hE5 : E ≠ 255) (hb : 40 < b) (hb2 : b ≤ 63) (hm : u % 8388608 = m) (hX : X = (m + 8388608) * 2 ^ (64 * 0 + b)) (hneg : u / 2147483648 = 1) (w : World) :
    Calls Tryd.prog 13 #[SV s, .int .u32 u] w fun e w' => e = .returned (SV ((s + (M384 - X) % M384) % M384)) ∧ Below w.heap.size w w' := by
  have hf := finite29 u hu
  have h1 := and255 u hu
  have h2 := andfrac u hu
  have hml : m < 8388608 := by omega
  have h3 := orlead m hml
  rw [hm] at h2
  rw [hE] at h1 hf
  rw [show (!(E == 255)) = true by simp; omega] at hf
  have hXl : X < M384 := by rw [hX]; exact lay_lt _ 0 _ (by omega) (by omega) (by decide)
  have w0 : wd X 0 = (m + 8388608) * 2 ^ b % 18446744073709551616 := by rw [hX]; exact lay_at _ 0 _
  have w1 : wd X 1 = (m + 8388608) / 2 ^ (64 - b) := by rw [hX]; exact lay_next _ 0 _ (by omega) (by omega)
  have w2 : wd X 2 = 0 := by rw [hX]; exact lay_hi _ 0 _ 2 (by omega) (by omega) (by decide)
  have w3 : wd X 3 = 0 := by rw [hX]; exact lay_hi _ 0 _ 3 (by omega) (by omega) (by decide)
  have w4 : wd X 4 = 0 := by rw [hX]; exact lay_hi _ 0 _ 4 (by omega) (by omega) (by decide)
  have w5 : wd X 5 = 0 := by rw [hX]; exact lay_hi _ 0 _ 5 (by omega) (by omega) (by decide)
  have g0 : ((E : Int) - 1) / 64 = 0 := by omega
  have g0' : (E - 1) / 64 = 0 := by omega
  have g0'' : (E - 1) % 64 = b := by omega
  have g0''' : ((E : Int) - 1) % 64 = b := by omega
  have g1 : IntKind.u64.wrap (((m : Int) + 8388608) * 2 ^ b) = ((wd X 0 : Nat) : Int) := by rw [w0, IntKind.wrap_u64]; simp
  have g2 : ((m : Int) + 8388608) / 2 ^ (64 - b) = ((wd X 1 : Nat) : Int) := by rw [w1]; simp
  have gn : ((u : Int) / 2147483648 == 1) = true := by rw [show (u : Int) / 2147483648 = 1 by omega]; rfl
  have z2 : (0 : Int) = (wd X 2 : Nat) := by rw [w2]; rfl
  have z3 : (0 : Int) = (wd X 3 : Nat) := by rw [w3]; rfl
  have z4 : (0 : Int) = (wd X 4 : Nat) := by rw [w4]; rfl
  have z5 : (0 : Int) = (wd X 5 : Nat) := by rw [w5]; rfl
  obtain ⟨R, hR⟩ : ∃ R, R = ((s + (M384 - X) % M384) % M384) := ⟨_, rfl⟩
  rw [← hR]
  have HN := Lib.hid (fun W => neg_w _ _ _ _ _ _ X rfl rfl z2 z3 z4 z5 hXl W)
  have HM := fun W => merge_any s ((M384 - X) % M384) hs (Nat.mod_lt _ (by decide)) W
  rw [← hR] at HM
  have HM := Lib.hid HM
  clear hR
  have HF := Lib.hid hf
  clear hf hm hE hX hXl w0 w1 w2 w3 w4 w5 z2 z3 z4 z5 hEb hE5
  go_enter Tryd.func13, Tryd.ntmps13
  go_wp2_with (go_at_call 29; refine (HF.out _).mono ?_; rintro e w' ⟨rfl, rfl⟩)
  refine (HN.out _).mono ?_
  rintro e w1 ⟨rfl, hb1⟩
  obtain ⟨hc1, hf1, hz1⟩ := kept_to hb1 (w.heap.size + 3) (by simp)
  have HB1 := Lib.hid hb1; clear hb1
  go_wp2_with fail
  refine (HM.out _).mono ?_
  rintro e w2 ⟨rfl, hb2⟩
  obtain ⟨hc2, hf2, hz2⟩ := kept_to hb2 (w.heap.size + 3) (by simp <;> omega)
  have HB2 := Lib.hid hb2; clear hb2
  go_wp2_with fail
  refine bodyPost_ret (v := SV R) (by simp [results, Tryd.results13, go_sem, hc2, hc1]) rfl ⟨rfl, ?_⟩
  repeat (first | with_reducible exact Below.refl _ _ | ((with_reducible refine Below.setCell ?_ ?hp _); case hp => (simp <;> omega)) | ((with_reducible refine Below.alloc ?_ ?hp _); case hp => (simp <;> omega)) | (with_reducible refine Below.drew ?_) | ((with_reducible refine Below.trans ?_ (HB2.out.mono ?hm)); case hm => (simp <;> omega)) | ((with_reducible refine Below.trans ?_ (HB1.out.mono ?hm)); case hm => (simp <;> omega)))
set_option maxRecDepth 100000 in
set_option maxHeartbeats 2000000 in
theorem put_n1s (s : Nat) (hs : s < M384) (u m X : Nat) (hu : u < 4294967296) (E b : Nat) (hE : u / 8388608 % 256 = E) (hEb : E = 64 * 1 + b + 1) (hE5 : E ≠ 255) (hb : b ≤ 40) (hm : u % 8388608 = m) (hX : X = (m + 8388608) * 2 ^ (64 * 1 + b)) (hneg : u / 2147483648 = 1) (w : World) :
    Calls Tryd.prog 13 #[SV s, .int .u32 u] w fun e w' => e = .returned (SV ((s + (M384 - X) % M384) % M384)) ∧ Below w.heap.size w w' := by
  have hf := finite29 u hu
  have h1 := and255 u hu
  have h2 := andfrac u hu
  have hml : m < 8388608 := by omega
  have h3 := orlead m hml
  rw [hm] at h2
  rw [hE] at h1 hf
  rw [show (!(E == 255)) = true by simp; omega] at hf
  have hXl : X < M384 := by rw [hX]; exact lay_lt _ 1 _ (by omega) (by omega) (by decide)
  have w0 : wd X 0 = 0 := by rw [hX]; exact lay_lo _ 1 _ 0 (by decide)
  have w1 : wd X 1 = (m + 8388608) * 2 ^ b % 18446744073709551616 := by rw [hX]; exact lay_at _ 1 _
  have w2 : wd X 2 = 0 := by rw [hX]; exact lay_next0 _ 1 _ (by omega) (by omega)
  have w3 : wd X 3 = 0 := by rw [hX]; exact lay_hi _ 1 _ 3 (by omega) (by omega) (by decide)
  have w4 : wd X 4 = 0 := by rw [hX]; exact lay_hi _ 1 _ 4 (by omega) (by omega) (by decide)
  have w5 : wd X 5 = 0 := by rw [hX]; exact lay_hi _ 1 _ 5 (by omega) (by omega) (by decide)
  have g0 : ((E : Int) - 1) / 64 = 1 := by omega
  have g0' : (E - 1) / 64 = 1 := by omega
  have g0'' : (E - 1) % 64 = b := by omega
  have g0''' : ((E : Int) - 1) % 64 = b := by omega
  have g1 : IntKind.u64.wrap (((m : Int) + 8388608) * 2 ^ b) = ((wd X 1 : Nat) : Int) := by rw [w1, IntKind.wrap_u64]; simp
  have gn : ((u : Int) / 2147483648 == 1) = true := by rw [show (u : Int) / 2147483648 = 1 by omega]; rfl
  have z0 : (0 : Int) = (wd X 0 : Nat) := by rw [w0]; rfl
  have z2 : (0 : Int) = (wd X 2 : Nat) := by rw [w2]; rfl
  have z3 : (0 : Int) = (wd X 3 : Nat) := by rw [w3]; rfl
  have z4 : (0 : Int) = (wd X 4 : Nat) := by rw [w4]; rfl
  have z5 : (0 : Int) = (wd X 5 : Nat) := by rw [w5]; rfl
  obtain ⟨R, hR⟩ : ∃ R, R = ((s + (M384 - X) % M384) % M384) := ⟨_, rfl⟩
  rw [← hR]
  have HN := Lib.hid (fun W => neg_w _ _ _ _ _ _ X z0 rfl z2 z3 z4 z5 hXl W)
  have HM := fun W => merge_any s ((M384 - X) % M384) hs (Nat.mod_lt _ (by decide)) W
  rw [← hR] at HM
  have HM := Lib.hid HM
  clear hR
  have HF := Lib.hid hf
  clear hf hm hE hX hXl w0 w1 w2 w3 w4 w5 z0 z2 z3 z4 z5 hEb hE5
  go_enter Tryd.func13, Tryd.ntmps13
  go_wp2_with (go_at_call 29; refine (HF.out _).mono ?_; rintro e w' ⟨rfl, rfl⟩)
  refine (HN.out _).mono ?_
  rintro e w1 ⟨rfl, hb1⟩
  obtain ⟨hc1, hf1, hz1⟩ := kept_to hb1 (w.heap.size + 3) (by simp)
  have HB1 := Lib.hid hb1; clear hb1
  go_wp2_with fail
  refine (HM.out _).mono ?_
  rintro e w2 ⟨rfl, hb2⟩
  obtain ⟨hc2, hf2, hz2⟩ := kept_to hb2 (w.heap.size + 3) (by simp <;> omega)
  have HB2 := Lib.hid hb2; clear hb2
  go_wp2_with fail
  refine bodyPost_ret (v := SV R) (by simp [results, Tryd.results13, go_sem, hc2, hc1]) rfl ⟨rfl, ?_⟩
  repeat (first | with_reducible exact Below.refl _ _ | ((with_reducible refine Below.setCell ?_ ?hp _); case hp => (simp <;> omega)) | ((with_reducible refine Below.alloc ?_ ?hp _); case hp => (simp <;> omega)) | (with_reducible refine Below.drew ?_) | ((with_reducible refine Below.trans ?_ (HB2.out.mono ?hm)); case hm => (simp <;> omega)) | ((with_reducible refine Below.trans ?_ (HB1.out.mono ?hm)); case hm => (simp <;> omega)))
set_option maxRecDepth 100000 in
set_option maxHeartbeats 2000000 in
theorem put_n1b (s : Nat) (hs : s < M384) (u m X : Nat) (hu : u < 4294967296) (E b : Nat) (hE : u / 8388608 % 256 = E) (hEb : E = 64 * 1 + b + 1) (hE5 : E ≠ 255) (hb : 40 < b) (hb2 : b ≤ 63) (hm : u % 8388608 = m) (hX : X = (m + 8388608) * 2 ^ (64 * 1 + b)) (hneg : u / 2147483648 = 1) (w : World) :
    Calls Tryd.prog 13 #[SV s, .int .u32 u] w fun e w' => e = .returned (SV ((s + (M384 - X) % M384) % M384)) ∧ Below w.heap.size w w' := by
  have hf := finite29 u hu
  have h1 := and255 u hu
  have h2 := andfrac u hu
  have hml : m < 8388608 := by omega
  have h3 := orlead m hml
  rw [hm] at h2
  rw [hE] at h1 hf
  rw [show (!(E == 255)) = true by simp; omega] at hf
  have hXl : X < M384 := by rw [hX]; exact lay_lt _ 1 _ (by omega) (by omega) (by decide)
  have w0 : wd X 0 = 0 := by rw [hX]; exact lay_lo _ 1 _ 0 (by decide)
  have w1 : wd X 1 = (m + 8388608) * 2 ^ b % 18446744073709551616 := by rw [hX]; exact lay_at _ 1 _
  have w2 : wd X 2 = (m + 8388608) / 2 ^ (64 - b) := by rw [hX]; exact lay_next _ 1 _ (by omega) (by omega)
  have w3 : wd X 3 = 0 := by rw [hX]; exact lay_hi _ 1 _ 3 (by omega) (by omega) (by decide)
  have w4 : wd X 4 = 0 := by rw [hX]; exact lay_hi _ 1 _ 4 (by omega) (by omega) (by decide)
  have w5 : wd X 5 = 0 := by rw [hX]; exact lay_hi _ 1 _ 5 (by omega) (by omega) (by decide)
  have g0 : ((E : Int) - 1) / 64 = 1 := by omega
  have g0' : (E - 1) / 64 = 1 := by omega
  have g0'' : (E - 1) % 64 = b := by omega
  have g0''' : ((E : Int) - 1) % 64 = b := by omega
  have g1 : IntKind.u64.wrap (((m : Int) + 8388608) * 2 ^ b) = ((wd X 1 : Nat) : Int) := by rw [w1, IntKind.wrap_u64]; simp
  have g2 : ((m : Int) + 8388608) / 2 ^ (64 - b) = ((wd X 2 : Nat) : Int) := by rw [w2]; simp
  have gn : ((u : Int) / 2147483648 == 1) = true := by rw [show (u : Int) / 2147483648 = 1 by omega]; rfl
  have z0 : (0 : Int) = (wd X 0 : Nat) := by rw [w0]; rfl
  have z3 : (0 : Int) = (wd X 3 : Nat) := by rw [w3]; rfl
  have z4 : (0 : Int) = (wd X 4 : Nat) := by rw [w4]; rfl
  have z5 : (0 : Int) = (wd X 5 : Nat) := by rw [w5]; rfl
  obtain ⟨R, hR⟩ : ∃ R, R = ((s + (M384 - X) % M384) % M384) := ⟨_, rfl⟩
  rw [← hR]
  have HN := Lib.hid (fun W => neg_w _ _ _ _ _ _ X z0 rfl rfl z3 z4 z5 hXl W)
  have HM := fun W => merge_any s ((M384 - X) % M384) hs (Nat.mod_lt _ (by decide)) W
  rw [← hR] at HM
  have HM := Lib.hid HM
  clear hR
  have HF := Lib.hid hf
  clear hf hm hE hX hXl w0 w1 w2 w3 w4 w5 z0 z3 z4 z5 hEb hE5
  go_enter Tryd.func13, Tryd.ntmps13
  go_wp2_with (go_at_call 29; refine (HF.out _).mono ?_; rintro e w' ⟨rfl, rfl⟩)
  refine (HN.out _).mono ?_
  rintro e w1 ⟨rfl, hb1⟩
  obtain ⟨hc1, hf1, hz1⟩ := kept_to hb1 (w.heap.size + 3) (by simp)
  have HB1 := Lib.hid hb1; clear hb1
  go_wp2_with fail
  refine (HM.out _).mono ?_
  rintro e w2 ⟨rfl, hb2⟩
  obtain ⟨hc2, hf2, hz2⟩ := kept_to hb2 (w.heap.size + 3) (by simp <;> omega)
  have HB2 := Lib.hid hb2; clear hb2
  go_wp2_with fail
  refine bodyPost_ret (v := SV R) (by simp [results, Tryd.results13, go_sem, hc2, hc1]) rfl ⟨rfl, ?_⟩
  repeat (first | with_reducible exact Below.refl _ _ | ((with_reducible refine Below.setCell ?_ ?hp _); case hp => (simp <;> omega)) | ((with_reducible refine Below.alloc ?_ ?hp _); case hp => (simp <;> omega)) | (with_reducible refine Below.drew ?_) | ((with_reducible refine Below.trans ?_ (HB2.out.mono ?hm)); case hm => (simp <;> omega)) | ((with_reducible refine Below.trans ?_ (HB1.out.mono ?hm)); case hm => (simp <;> omega)))
set_option maxRecDepth 100000 in
set_option maxHeartbeats 2000000 in
theorem put_n2s (s : Nat) (hs : s < M384) (u m X : Nat) (hu : u < 4294967296) (E b : Nat) (hE : u / 8388608 % 256 = E) (hEb : E = 64 * 2 + b + 1) (hE5 : E ≠ 255) (hb : b ≤ 40) (hm : u % 8388608 = m) (hX : X = (m + 8388608) * 2 ^ (64 * 2 + b)) (hneg : u / 2147483648 = 1) (w : World) :
    Calls Tryd.prog 13 #[SV s, .int .u32 u] w fun e w' => e = .returned (SV ((s + (M384 - X) % M384) % M384)) ∧ Below w.heap.size w w' := by
  have hf := finite29 u hu
  have h1 := and255 u hu
  have h2 := andfrac u hu
  have hml : m < 8388608 := by omega
  have h3 := orlead m hml
  rw [hm] at h2
  rw [hE] at h1 hf
  rw [show (!(E == 255)) = true by simp; omega] at hf
  have hXl : X < M384 := by rw [hX]; exact lay_lt _ 2 _ (by omega) (by omega) (by decide)
  have w0 : wd X 0 = 0 := by rw [hX]; exact lay_lo _ 2 _ 0 (by decide)
  have w1 : wd X 1 = 0 := by rw [hX]; exact lay_lo _ 2 _ 1 (by decide)
  have w2 : wd X 2 = (m + 8388608) * 2 ^ b % 18446744073709551616 := by rw [hX]; exact lay_at _ 2 _
  have w3 : wd X 3 = 0 := by rw [hX]; exact lay_next0 _ 2 _ (by omega) (by omega)
  have w4 : wd X 4 = 0 := by rw [hX]; exact lay_hi _ 2 _ 4 (by omega) (by omega) (by decide)
  have w5 : wd X 5 = 0 := by rw [hX]; exact lay_hi _ 2 _ 5 (by omega) (by omega) (by decide)
  have g0 : ((E : Int) - 1) / 64 = 2 := by omega
  have g0' : (E - 1) / 64 = 2 := by omega
  have g0'' : (E - 1) % 64 = b := by omega
  have g0''' : ((E : Int) - 1) % 64 = b := by omega
  have g1 : IntKind.u64.wrap (((m : Int) + 8388608) * 2 ^ b) = ((wd X 2 : Nat) : Int) := by rw [w2, IntKind.wrap_u64]; simp
  have gn : ((u : Int) / 2147483648 == 1) = true := by rw [show (u : Int) / 2147483648 = 1 by omega]; rfl
  have z0 : (0 : Int) = (wd X 0 : Nat) := by rw [w0]; rfl
  have z1 : (0 : Int) = (wd X 1 : Nat) := by rw [w1]; rfl
  have z3 : (0 : Int) = (wd X 3 : Nat) := by rw [w3]; rfl
  have z4 : (0 : Int) = (wd X 4 : Nat) := by rw [w4]; rfl
  have z5 : (0 : Int) = (wd X 5 : Nat) := by rw [w5]; rfl
  obtain ⟨R, hR⟩ : ∃ R, R = ((s + (M384 - X) % M384) % M384) := ⟨_, rfl⟩
  rw [← hR]
  have HN := Lib.hid (fun W => neg_w _ _ _ _ _ _ X z0 z1 rfl z3 z4 z5 hXl W)
  have HM := fun W => merge_any s ((M384 - X) % M384) hs (Nat.mod_lt _ (by decide)) W
  rw [← hR] at HM
  have HM := Lib.hid HM
  clear hR
  have HF := Lib.hid hf
  clear hf hm hE hX hXl w0 w1 w2 w3 w4 w5 z0 z1 z3 z4 z5 hEb hE5
  go_enter Tryd.func13, Tryd.ntmps13
  go_wp2_with (go_at_call 29; refine (HF.out _).mono ?_; rintro e w' ⟨rfl, rfl⟩)
  refine (HN.out _).mono ?_
  rintro e w1 ⟨rfl, hb1⟩
  obtain ⟨hc1, hf1, hz1⟩ := kept_to hb1 (w.heap.size + 3) (by simp)
  have HB1 := Lib.hid hb1; clear hb1
  go_wp2_with fail
  refine (HM.out _).mono ?_
  rintro e w2 ⟨rfl, hb2⟩
  obtain ⟨hc2, hf2, hz2⟩ := kept_to hb2 (w.heap.size + 3) (by simp <;> omega)
  have HB2 := Lib.hid hb2; clear hb2
  go_wp2_with fail
  refine bodyPost_ret (v := SV R) (by simp [results, Tryd.results13, go_sem, hc2, hc1]) rfl ⟨rfl, ?_⟩
  repeat (first | with_reducible exact Below.refl _ _ | ((with_reducible refine Below.setCell ?_ ?hp _); case hp => (simp <;> omega)) | ((with_reducible refine Below.alloc ?_ ?hp _); case hp => (simp <;> omega)) | (with_reducible refine Below.drew ?_) | ((with_reducible refine Below.trans ?_ (HB2.out.mono ?hm)); case hm => (simp <;> omega)) | ((with_reducible refine Below.trans ?_ (HB1.out.mono ?hm)); case hm => (simp <;> omega)))
set_option maxRecDepth 100000 in
set_option maxHeartbeats 2000000 in
theorem put_n2b (s : Nat) (hs : s < M384) (u m X : Nat) (hu : u < 4294967296) (E b : Nat) (hE : u / 8388608 % 256 = E) (hEb : E = 64 * 2 + b + 1) (hE5 : E ≠ 255) (hb : 40 < b) (hb2 : b ≤ 63) (hm : u % 8388608 = m) (hX : X = (m + 8388608) * 2 ^ (64 * 2 + b)) (hneg : u / 2147483648 = 1) (w : World) :
    Calls Tryd.prog 13 #[SV s, .int .u32 u] w fun e w' => e = .returned (SV ((s + (M384 - X) % M384) % M384)) ∧ Below w.heap.size w w' := by
  have hf := finite29 u hu
  have h1 := and255 u hu
  have h2 := andfrac u hu
  have hml : m < 8388608 := by omega
  have h3 := orlead m hml
  rw [hm] at h2
  rw [hE] at h1 hf
  rw [show (!(E == 255)) = true by simp; omega] at hf
  have hXl : X < M384 := by rw [hX]; exact lay_lt _ 2 _ (by omega) (by omega) (by decide)
  have w0 : wd X 0 = 0 := by rw [hX]; exact lay_lo _ 2 _ 0 (by decide)
  have w1 : wd X 1 = 0 := by rw [hX]; exact lay_lo _ 2 _ 1 (by decide)
  have w2 : wd X 2 = (m + 8388608) * 2 ^ b % 18446744073709551616 := by rw [hX]; exact lay_at _ 2 _
  have w3 : wd X 3 = (m + 8388608) / 2 ^ (64 - b) := by rw [hX]; exact lay_next _ 2 _ (by omega) (by omega)
  have w4 : wd X 4 = 0 := by rw [hX]; exact lay_hi _ 2 _ 4 (by omega) (by omega) (by decide)
  have w5 : wd X 5 = 0 := by rw [hX]; exact lay_hi _ 2 _ 5 (by omega) (by omega) (by decide)
  have g0 : ((E : Int) - 1) / 64 = 2 := by omega
  have g0' : (E - 1) / 64 = 2 := by omega
  have g0'' : (E - 1) % 64 = b := by omega
  have g0''' : ((E : Int) - 1) % 64 = b := by omega
  have g1 : IntKind.u64.wrap (((m : Int) + 8388608) * 2 ^ b) = ((wd X 2 : Nat) : Int) := by rw [w2, IntKind.wrap_u64]; simp
  have g2 : ((m : Int) + 8388608) / 2 ^ (64 - b) = ((wd X 3 : Nat) : Int) := by rw [w3]; simp
  have gn : ((u : Int) / 2147483648 == 1) = true := by rw [show (u : Int) / 2147483648 = 1 by omega]; rfl
  have z0 : (0 : Int) = (wd X 0 : Nat) := by rw [w0]; rfl
  have z1 : (0 : Int) = (wd X 1 : Nat) := by rw [w1]; rfl
  have z4 : (0 : Int) = (wd X 4 : Nat) := by rw [w4]; rfl
  have z5 : (0 : Int) = (wd X 5 : Nat) := by rw [w5]; rfl
  obtain ⟨R, hR⟩ : ∃ R, R = ((s + (M384 - X) % M384) % M384) := ⟨_, rfl⟩
  rw [← hR]
  have HN := Lib.hid (fun W => neg_w _ _ _ _ _ _ X z0 z1 rfl rfl z4 z5 hXl W)
  have HM := fun W => merge_any s ((M384 - X) % M384) hs (Nat.mod_lt _ (by decide)) W
  rw [← hR] at HM
  have HM := Lib.hid HM
  clear hR
  have HF := Lib.hid hf
  clear hf hm hE hX hXl w0 w1 w2 w3 w4 w5 z0 z1 z4 z5 hEb hE5
  go_enter Tryd.func13, Tryd.ntmps13
  go_wp2_with (go_at_call 29; refine (HF.out _).mono ?_; rintro e w' ⟨rfl, rfl⟩)
  refine (HN.out _).mono ?_
  rintro e w1 ⟨rfl, hb1⟩
  obtain ⟨hc1, hf1, hz1⟩ := kept_to hb1 (w.heap.size + 3) (by simp)
  have HB1 := Lib.hid hb1; clear hb1
  go_wp2_with fail
  refine (HM.out _).mono ?_
  rintro e w2 ⟨rfl, hb2⟩
  obtain ⟨hc2, hf2, hz2⟩ := kept_to hb2 (w.heap.size + 3) (by simp <;> omega)
  have HB2 := Lib.hid hb2; clear hb2
  go_wp2_with fail
  refine bodyPost_ret (v := SV R) (by simp [results, Tryd.results13, go_sem, hc2, hc1]) rfl ⟨rfl, ?_⟩
  repeat (first | with_reducible exact Below.refl _ _ | ((with_reducible refine Below.setCell ?_ ?hp _); case hp => (simp <;> omega)) | ((with_reducible refine Below.alloc ?_ ?hp _); case hp => (simp <;> omega)) | (with_reducible refine Below.drew ?_) | ((with_reducible refine Below.trans ?_ (HB2.out.mono ?hm)); case hm => (simp <;> omega)) | ((with_reducible refine Below.trans ?_ (HB1.out.mono ?hm)); case hm => (simp <;> omega)))
set_option maxRecDepth 100000 in
set_option maxHeartbeats 2000000 in
theorem put_n3s (s : Nat) (hs : s < M384) (u m X : Nat) (hu : u < 4294967296) (E b : Nat) (hE : u / 8388608 % 256 = E) (hEb : E = 64 * 3 + b + 1) (hE5 : E ≠ 255) (hb : b ≤ 40) (hm : u % 8388608 = m) (hX : X = (m + 8388608) * 2 ^ (64 * 3 + b)) (hneg : u / 2147483648 = 1) (w : World) :
    Calls Tryd.prog 13 #[SV s, .int .u32 u] w fun e w' => e = .returned (SV ((s + (M384 - X) % M384) % M384)) ∧ Below w.heap.size w w' := by
  have hf := finite29 u hu
  have h1 := and255 u hu
  have h2 := andfrac u hu
  have hml : m < 8388608 := by omega
  have h3 := orlead m hml
  rw [hm] at h2
  rw [hE] at h1 hf
  rw [show (!(E == 255)) = true by simp; omega] at hf
  have hXl : X < M384 := by rw [hX]; exact lay_lt _ 3 _ (by omega) (by omega) (by decide)
  have w0 : wd X 0 = 0 := by rw [hX]; exact lay_lo _ 3 _ 0 (by decide)
  have w1 : wd X 1 = 0 := by rw [hX]; exact lay_lo _ 3 _ 1 (by decide)
  have w2 : wd X 2 = 0 := by rw [hX]; exact lay_lo _ 3 _ 2 (by decide)
  have w3 : wd X 3 = (m + 8388608) * 2 ^ b % 18446744073709551616 := by rw [hX]; exact lay_at _ 3 _
  have w4 : wd X 4 = 0 := by rw [hX]; exact lay_next0 _ 3 _ (by omega) (by omega)
  have w5 : wd X 5 = 0 := by rw [hX]; exact lay_hi _ 3 _ 5 (by omega) (by omega) (by decide)
  have g0 : ((E : Int) - 1) / 64 = 3 := by omega
  have g0' : (E - 1) / 64 = 3 := by omega
  have g0'' : (E - 1) % 64 = b := by omega
  have g0''' : ((E : Int) - 1) % 64 = b := by omega
  have g1 : IntKind.u64.wrap (((m : Int) + 8388608) * 2 ^ b) = ((wd X 3 : Nat) : Int) := by rw [w3, IntKind.wrap_u64]; simp
  have gn : ((u : Int) / 2147483648 == 1) = true := by rw [show (u : Int) / 2147483648 = 1 by omega]; rfl
  have z0 : (0 : Int) = (wd X 0 : Nat) := by rw [w0]; rfl
  have z1 : (0 : Int) = (wd X 1 : Nat) := by rw [w1]; rfl
  have z2 : (0 : Int) = (wd X 2 : Nat) := by rw [w2]; rfl
  have z4 : (0 : Int) = (wd X 4 : Nat) := by rw [w4]; rfl
  have z5 : (0 : Int) = (wd X 5 : Nat) := by rw [w5]; rfl
  obtain ⟨R, hR⟩ : ∃ R, R = ((s + (M384 - X) % M384) % M384) := ⟨_, rfl⟩
  rw [← hR]
  have HN := Lib.hid (fun W => neg_w _ _ _ _ _ _ X z0 z1 z2 rfl z4 z5 hXl W)
  have HM := fun W => merge_any s ((M384 - X) % M384) hs (Nat.mod_lt _ (by decide)) W
  rw [← hR] at HM
  have HM := Lib.hid HM
  clear hR
  have HF := Lib.hid hf
  clear hf hm hE hX hXl w0 w1 w2 w3 w4 w5 z0 z1 z2 z4 z5 hEb hE5
  go_enter Tryd.func13, Tryd.ntmps13
  go_wp2_with (go_at_call 29; refine (HF.out _).mono ?_; rintro e w' ⟨rfl, rfl⟩)
  refine (HN.out _).mono ?_
  rintro e w1 ⟨rfl, hb1⟩
  obtain ⟨hc1, hf1, hz1⟩ := kept_to hb1 (w.heap.size + 3) (by simp)
  have HB1 := Lib.hid hb1; clear hb1
  go_wp2_with fail
  refine (HM.out _).mono ?_
  rintro e w2 ⟨rfl, hb2⟩
  obtain ⟨hc2, hf2, hz2⟩ := kept_to hb2 (w.heap.size + 3) (by simp <;> omega)
  have HB2 := Lib.hid hb2; clear hb2
  go_wp2_with fail
  refine bodyPost_ret (v := SV R) (by simp [results, Tryd.results13, go_sem, hc2, hc1]) rfl ⟨rfl, ?_⟩
  repeat (first | with_reducible exact Below.refl _ _ | ((with_reducible refine Below.setCell ?_ ?hp _); case hp => (simp <;> omega)) | ((with_reducible refine Below.alloc ?_ ?hp _); case hp => (simp <;> omega)) | (with_reducible refine Below.drew ?_) | ((with_reducible refine Below.trans ?_ (HB2.out.mono ?hm)); case hm => (simp <;> omega)) | ((with_reducible refine Below.trans ?_ (HB1.out.mono ?hm)); case hm => (simp <;> omega)))
set_option maxRecDepth 100000 in
set_option maxHeartbeats 2000000 in
theorem put_n3b (s : Nat) (hs : s < M384) (u m X : Nat) (hu : u < 4294967296) (E b : Nat) (hE : u / 8388608 % 256 = E) (hEb : E = 64 * 3 + b + 1) (hE5 : E ≠ 255) (hb : 40 < b) (hb2 : b ≤ 63) (hm : u % 8388608 = m) (hX : X = (m + 8388608) * 2 ^ (64 * 3 + b)) (hneg : u / 2147483648 = 1) (w : World) :
    Calls Tryd.prog 13 #[SV s, .int .u32 u] w fun e w' => e = .returned (SV ((s + (M384 - X) % M384) % M384)) ∧ Below w.heap.size w w' := by
  have hf := finite29 u hu
  have h1 := and255 u hu
  have h2 := andfrac u hu
  have hml : m < 8388608 := by omega
  have h3 := orlead m hml
  rw [hm] at h2
  rw [hE] at h1 hf
  rw [show (!(E == 255)) = true by simp; omega] at hf
  have hXl : X < M384 := by rw [hX]; exact lay_lt _ 3 _ (by omega) (by omega) (by decide)
  have w0 : wd X 0 = 0 := by rw [hX]; exact lay_lo _ 3 _ 0 (by decide)
  have w1 : wd X 1 = 0 := by rw [hX]; exact lay_lo _ 3 _ 1 (by decide)
  have w2 : wd X 2 = 0 := by rw [hX]; exact lay_lo _ 3 _ 2 (by decide)
  have w3 : wd X 3 = (m + 8388608) * 2 ^ b % 18446744073709551616 := by rw [hX]; exact lay_at _ 3 _
  have w4 : wd X 4 = (m + 8388608) / 2 ^ (64 - b) := by rw [hX]; exact lay_next _ 3 _ (by omega) (by omega)
  have w5 : wd X 5 = 0 := by rw [hX]; exact lay_hi _ 3 _ 5 (by omega) (by omega) (by decide)
  have g0 : ((E : Int) - 1) / 64 = 3 := by omega
  have g0' : (E - 1) / 64 = 3 := by omega
  have g0'' : (E - 1) % 64 = b := by omega
  have g0''' : ((E : Int) - 1) % 64 = b := by omega
  have g1 : IntKind.u64.wrap (((m : Int) + 8388608) * 2 ^ b) = ((wd X 3 : Nat) : Int) := by rw [w3, IntKind.wrap_u64]; simp
  have g2 : ((m : Int) + 8388608) / 2 ^ (64 - b) = ((wd X 4 : Nat) : Int) := by rw [w4]; simp
  have gn : ((u : Int) / 2147483648 == 1) = true := by rw [show (u : Int) / 2147483648 = 1 by omega]; rfl
  have z0 : (0 : Int) = (wd X 0 : Nat) := by rw [w0]; rfl
  have z1 : (0 : Int) = (wd X 1 : Nat) := by rw [w1]; rfl
  have z2 : (0 : Int) = (wd X 2 : Nat) := by rw [w2]; rfl
  have z5 : (0 : Int) = (wd X 5 : Nat) := by rw [w5]; rfl
  obtain ⟨R, hR⟩ : ∃ R, R = ((s + (M384 - X) % M384) % M384) := ⟨_, rfl⟩
  rw [← hR]
  have HN := Lib.hid (fun W => neg_w _ _ _ _ _ _ X z0 z1 z2 rfl rfl z5 hXl W)
  have HM := fun W => merge_any s ((M384 - X) % M384) hs (Nat.mod_lt _ (by decide)) W
  rw [← hR] at HM
  have HM := Lib.hid HM
  clear hR
  have HF := Lib.hid hf
  clear hf hm hE hX hXl w0 w1 w2 w3 w4 w5 z0 z1 z2 z5 hEb hE5
  go_enter Tryd.func13, Tryd.ntmps13
  go_wp2_with (go_at_call 29; refine (HF.out _).mono ?_; rintro e w' ⟨rfl, rfl⟩)
  refine (HN.out _).mono ?_
  rintro e w1 ⟨rfl, hb1⟩
  obtain ⟨hc1, hf1, hz1⟩ := kept_to hb1 (w.heap.size + 3) (by simp)
  have HB1 := Lib.hid hb1; clear hb1
  go_wp2_with fail
  refine (HM.out _).mono ?_
  rintro e w2 ⟨rfl, hb2⟩
  obtain ⟨hc2, hf2, hz2⟩ := kept_to hb2 (w.heap.size + 3) (by simp <;> omega)
  have HB2 := Lib.hid hb2; clear hb2
  go_wp2_with fail
  refine bodyPost_ret (v := SV R) (by simp [results, Tryd.results13, go_sem, hc2, hc1]) rfl ⟨rfl, ?_⟩
  repeat (first | with_reducible exact Below.refl _ _ | ((with_reducible refine Below.setCell ?_ ?hp _); case hp => (simp <;> omega)) | ((with_reducible refine Below.alloc ?_ ?hp _); case hp => (simp <;> omega)) | (with_reducible refine Below.drew ?_) | ((with_reducible refine Below.trans ?_ (HB2.out.mono ?hm)); case hm => (simp <;> omega)) | ((with_reducible refine Below.trans ?_ (HB1.out.mono ?hm)); case hm => (simp <;> omega)))

theorem put_any (s : Nat) (hs : s < M384) (u : Nat) (hu : u < 4294967296) (w : World) :
    Calls Tryd.prog 13 #[SV s, .int .u32 u] w fun e w' => e = .returned (SV (putN s u)) ∧ Below w.heap.size w w' := by
  by_cases hf : u / 8388608 % 256 = 255
  · have e : putN s u = s := by unfold putN fin32; rw [hf]; rfl
    rw [e]; exact put_inf s u hu hf w
  · have hfin : fin32 u = true := by unfold fin32; simpa using hf
    have hsg : u / 2147483648 = 0 ∨ u / 2147483648 = 1 := by omega
    have fin : ∀ X, X = fmag u → (u / 2147483648 = 0 → Calls Tryd.prog 13 #[SV s, .int .u32 u] w fun e w' => e = .returned (SV ((s + X) % M384)) ∧ Below w.heap.size w w') →
        (u / 2147483648 = 1 → Calls Tryd.prog 13 #[SV s, .int .u32 u] w fun e w' => e = .returned (SV ((s + (M384 - X) % M384) % M384)) ∧ Below w.heap.size w w') →
        Calls Tryd.prog 13 #[SV s, .int .u32 u] w fun e w' => e = .returned (SV (putN s u)) ∧ Below w.heap.size w w' := by
      intro X hX h0 h1
      have e : putN s u = (s + fval u) % M384 := by unfold putN; rw [hfin]; rfl
      rw [e]; unfold fval; rw [← hX]
      rcases hsg with h | h
      · rw [if_neg (by omega)]; exact h0 h
      · rw [if_pos h]; exact h1 h
    by_cases h0 : u / 8388608 % 256 = 0
    · exact fin (u % 8388608 * 2 ^ (64 * 0 + 0)) (by unfold fmag; rw [if_pos h0]; simp) (fun h => put_pz s hs u _ _ hu h0 rfl rfl h w) (fun h => put_nz s hs u _ _ hu h0 rfl rfl h w)
    · have hE : ∃ a b, a ≤ 3 ∧ b ≤ 63 ∧ u / 8388608 % 256 = 64 * a + b + 1 := ⟨(u / 8388608 % 256 - 1) / 64, (u / 8388608 % 256 - 1) % 64, by omega, by omega, by omega⟩
      obtain ⟨a, b, ha, hb, hE⟩ := hE
      have hX : (u % 8388608 + 8388608) * 2 ^ (64 * a + b) = fmag u := by unfold fmag; rw [if_neg h0, hE]; rfl
      refine fin _ hX ?_ ?_ <;> intro h <;> clear fin
      all_goals
        by_cases hb4 : 40 < b
        all_goals obtain rfl | rfl | rfl | rfl : a = 0 ∨ a = 1 ∨ a = 2 ∨ a = 3 := by omega
      · exact put_p0b s hs u _ _ hu _ b rfl hE hf hb4 hb rfl rfl h w
      · exact put_p1b s hs u _ _ hu _ b rfl hE hf hb4 hb rfl rfl h w
      · exact put_p2b s hs u _ _ hu _ b rfl hE hf hb4 hb rfl rfl h w
      · exact put_p3b s hs u _ _ hu _ b rfl hE hf hb4 hb rfl rfl h w
      · exact put_p0s s hs u _ _ hu _ b rfl hE hf (by omega) rfl rfl h w
      · exact put_p1s s hs u _ _ hu _ b rfl hE hf (by omega) rfl rfl h w
      · exact put_p2s s hs u _ _ hu _ b rfl hE hf (by omega) rfl rfl h w
      · exact put_p3s s hs u _ _ hu _ b rfl hE hf (by omega) rfl rfl h w
      · exact put_n0b s hs u _ _ hu _ b rfl hE hf hb4 hb rfl rfl h w
      · exact put_n1b s hs u _ _ hu _ b rfl hE hf hb4 hb rfl rfl h w
      · exact put_n2b s hs u _ _ hu _ b rfl hE hf hb4 hb rfl rfl h w
      · exact put_n3b s hs u _ _ hu _ b rfl hE hf hb4 hb rfl rfl h w
      · exact put_n0s s hs u _ _ hu _ b rfl hE hf (by omega) rfl rfl h w
      · exact put_n1s s hs u _ _ hu _ b rfl hE hf (by omega) rfl rfl h w
      · exact put_n2s s hs u _ _ hu _ b rfl hE hf (by omega) rfl rfl h w
      · exact put_n3s s hs u _ _ hu _ b rfl hE hf (by omega) rfl rfl h w
end Go.Proofs.YtmnojohcfalodaaDoor
