/-
  math/bits.Div64: the quotient and the rest of two words by one, by a walk.
-/
import Derived.Test.YtmnojohcfalodaaDoorA1
import Derived.Test.YtmnojohcfalodaaDoorNa
import Derived.Test.YtmnojohcfalodaaDoorShelf
import Derived.Deep.DeepCutAuto
import Derived.Deep.CutBlock
namespace Go.Proofs.YtmnojohcfalodaaDoor
set_option linter.unusedVariables false
set_option linter.unusedSimpArgs false
open Go.RowKit

theorem libBitLenAux (f x : Nat) (h : x < 2 ^ f) : Lib.bitLenAux f x = bitLen x := by
  induction f generalizing x with
  | zero =>
    have : x = 0 := by simpa using h
    subst this; rfl
  | succ f ih =>
    unfold Lib.bitLenAux
    by_cases h0 : x = 0
    · rw [if_pos h0]; subst h0; rfl
    · rw [if_neg h0, ih (x / 2) (by rw [Nat.pow_succ] at h; omega)]
      by_cases h1 : x / 2 = 0
      · obtain rfl : x = 1 := by omega
        rfl
      · have := bitLen_shift x 1 (by simpa using h1)
        simpa using this.symm
theorem libBitLen (x : Nat) (h : x < 18446744073709551616) : Lib.bitLen x = bitLen x := libBitLenAux 64 x h
theorem lz_of (y : Nat) (hy : 0 < y) (hy2 : y < 18446744073709551616) : ∃ s : Nat, s ≤ 63 ∧ (64 - (Lib.bitLen y : Int)) = s ∧ 9223372036854775808 ≤ y * 2 ^ s ∧ y * 2 ^ s < 18446744073709551616 := by
  obtain ⟨h1, h2⟩ := bitLen_spec y
  have h2 := h2 (by omega)
  have hb : 0 < bitLen y := by
    rcases Nat.eq_zero_or_pos (bitLen y) with h | h
    · rw [h] at h1; omega
    · exact h
  have hb2 : bitLen y ≤ 64 := by
    rcases Nat.lt_or_ge 64 (bitLen y) with h | h
    · have : 2 ^ 64 ≤ 2 ^ (bitLen y - 1) := Nat.pow_le_pow_right (by decide) (by omega)
      omega
    · exact h
  have e1 : 2 ^ (bitLen y - 1) * 2 ^ (64 - bitLen y) = 9223372036854775808 := by rw [← Nat.pow_add, show bitLen y - 1 + (64 - bitLen y) = 63 by omega]
  have e2 : 2 ^ bitLen y * 2 ^ (64 - bitLen y) = 18446744073709551616 := by rw [← Nat.pow_add, show bitLen y + (64 - bitLen y) = 64 by omega]
  refine ⟨64 - bitLen y, by omega, ?_, ?_, ?_⟩
  · rw [libBitLen y hy2]; omega
  · rw [← e1]; exact Nat.mul_le_mul_right _ h2
  · rw [← e2]; exact Nat.mul_lt_mul_of_pos_right h1 (Nat.pow_pos (by decide))

set_option maxHeartbeats 400000 in
theorem div64_small (lo y : Nat) (hy : 0 < y) (hlo : lo < 18446744073709551616) (hy2 : y < 18446744073709551616) (w : World) :
    Calls Tryd.prog 35 #[.int .u64 0, .int .u64 lo, .int .u64 y] w fun e w' => e = .returned (.tuple #[.int .u64 (lo / y : Nat), .int .u64 (lo % y : Nat)]) ∧ Below w.heap.size w w' := by
  have h1 : ((y : Int) == 0) = false := by simp; omega
  have h2 : ¬ (y : Int) ≤ 0 := by omega
  have h4 : IntKind.u64.wrap ((lo : Int) / y) = ((lo / y : Nat) : Int) := by
    rw [IntKind.wrap_u64]
    have : lo / y ≤ lo := Nat.div_le_self _ _
    have e : (lo : Int) / y = ((lo / y : Nat) : Int) := rfl
    rw [e]; generalize lo / y = q at *; omega
  go_enter Tryd.func35, Tryd.ntmps35
  go_wp2_with fail
  go_region
  go_wp2_with fail
  go_ret2
  exact ⟨by simp, (Below.refl _ _).drew⟩

def GuessAt (u v a b : Nat) (vq vr : Value) : Prop := ∃ q r : Nat, Guess u v a b q r ∧ vq = .int .u64 q ∧ vr = .int .u64 r

set_option maxRecDepth 100000 in
set_option maxHeartbeats 1000000 in
theorem div64_big (hi lo y : Nat) (hhi0 : 0 < hi) (hhi : hi < y) (hlo : lo < 18446744073709551616) (hy2 : y < 18446744073709551616) (w : World) :
    Calls Tryd.prog 35 #[.int .u64 hi, .int .u64 lo, .int .u64 y] w fun e w' => e = .returned (.tuple #[.int .u64 ((hi * 18446744073709551616 + lo) / y : Nat), .int .u64 ((hi * 18446744073709551616 + lo) % y : Nat)]) ∧ Below w.heap.size w w' := by
  have h1 : ((y : Int) == 0) = false := by simp; omega
  have h2 : ¬ (y : Int) ≤ hi := by omega
  have h3 : ((hi : Int) == 0) = false := by simp; omega
  obtain ⟨s, hs, es, hlo1, hhi1⟩ := lz_of y (by omega) hy2
  have HL := Lib.hid es; clear es
  obtain ⟨Y, hY⟩ : ∃ Y, Y = y * 2 ^ s := ⟨_, rfl⟩
  obtain ⟨a, ea⟩ : ∃ a, a = Y / 4294967296 := ⟨_, rfl⟩
  obtain ⟨b, eb⟩ : ∃ b, b = Y % 4294967296 := ⟨_, rfl⟩
  rw [← hY] at hlo1 hhi1
  have g1 : IntKind.u64.wrap ((y : Int) * 2 ^ s) = (Y : Int) := by
    rw [IntKind.wrap_u64, show (y : Int) * 2 ^ s = (Y : Int) by rw [hY]; simp]; omega
  have g2 : (Y : Int) / 4294967296 = (a : Int) := by omega
  have g3 : bits .and .u64 (Y : Int) 4294967295 = (b : Int) := by
    have h := u64_and_nat Y 4294967295 (by omega) (by decide)
    rw [nat_mask32, ← eb] at h
    exact h
  have ba1 : 2147483648 ≤ a := by omega
  have ba2 : a < 4294967296 := by omega
  have bb : b < 4294967296 := by omega
  have HY := Lib.hid hY
  have he2 := Lib.hid (show a * 4294967296 + b = Y by omega)
  clear ea eb hlo1 hY
  obtain ⟨U, hU⟩ : ∃ U, U = hi * 2 ^ s + lo / 2 ^ (64 - s) := ⟨_, rfl⟩
  obtain ⟨L, hL⟩ : ∃ L, L = lo * 2 ^ s % 18446744073709551616 := ⟨_, rfl⟩
  have g4 : IntKind.u64.wrap ((lo : Int) * 2 ^ s) = (L : Int) := by rw [IntKind.wrap_u64, hL]; simp
  have hj : lo / 2 ^ (64 - s) < 2 ^ s := by
    rw [Nat.div_lt_iff_lt_mul (Nat.pow_pos (by decide)), ← Nat.pow_add, show s + (64 - s) = 64 by omega]; exact hlo
  obtain ⟨hUY, hdq, hdr⟩ := up_div hi lo y s hs hlo hhi
  rw [← hU, ← hL, ← HY.out] at hdq hdr
  rw [← hU, ← HY.out] at hUY
  have g5 : bits .or .u64 (IntKind.u64.wrap ((hi : Int) * 2 ^ s)) ((lo : Int) / 2 ^ (64 - s)) = (U : Int) := by
    have e1 : (lo : Int) / 2 ^ (64 - s) = ((lo / 2 ^ (64 - s) : Nat) : Int) := by simp
    rw [e1]
    have hle : hi * 2 ^ s ≤ U := by rw [hU]; exact Nat.le_add_right _ _
    have hls : 2 ^ s ≤ 2 ^ 63 := Nat.pow_le_pow_right (by decide) hs
    rw [hU]
    generalize lo / 2 ^ (64 - s) = t at *
    have h := u64_or_nat (hi * 2 ^ s) t (by omega) (by omega)
    rw [nat_join s _ _ (Nat.mul_mod_left _ _) hj] at h
    rw [← h, IntKind.wrap_u64]
    congr 1
    rw [show (hi : Int) * 2 ^ s = ((hi * 2 ^ s : Nat) : Int) by simp]; omega
  obtain ⟨v1, hv1⟩ : ∃ v1, v1 = L / 4294967296 := ⟨_, rfl⟩
  obtain ⟨v0, hv0⟩ : ∃ v0, v0 = L % 4294967296 := ⟨_, rfl⟩
  have g6 : (L : Int) / 4294967296 = (v1 : Int) := by omega
  have g7 : bits .and .u64 (L : Int) 4294967295 = (v0 : Int) := by
    have h := u64_and_nat L 4294967295 (by omega) (by decide)
    rw [nat_mask32, ← hv0] at h
    exact h
  have bv1 : v1 < 4294967296 := by omega
  have bv0 : v0 < 4294967296 := by omega
  have G1 := Guess.start ba1 ba2 bb bv1 (show U < a * 4294967296 + b by have := he2.out; omega)
  obtain ⟨p1, hp1⟩ : ∃ p1, p1 = U / a := ⟨_, rfl⟩
  obtain ⟨r1, hr1⟩ : ∃ r1, r1 = U % a := ⟨_, rfl⟩
  rw [← hp1, ← hr1] at G1
  have g8 : (U : Int) / (a : Int) = (p1 : Int) := by rw [hp1]; rfl
  obtain ⟨m1, hm1⟩ : ∃ m1, m1 = p1 * a := ⟨_, rfl⟩
  have g9 : (p1 : Int) * (a : Int) = (m1 : Int) := by rw [hm1]; simp
  have g10 : (U : Int) - (m1 : Int) = (r1 : Int) := by have := G1.eq; omega
  have bp1 := G1.q_le
  have bm1 : m1 ≤ U := by have := G1.eq; omega
  have bU : U < 18446744073709551616 := by omega
  have HG1 := Lib.hid G1
  have HU := Lib.hid hU
  have HL2 := Lib.hid hL
  have HQ := Lib.hid hdq
  have HR := Lib.hid hdr
  have HV1 := Lib.hid hv1
  have HV0 := Lib.hid hv0
  obtain ⟨D1, hD1⟩ : ∃ D1, D1 = (U * 4294967296 + v1) / (a * 4294967296 + b) := ⟨_, rfl⟩
  have bD1 : D1 < 4294967296 := by rw [hD1]; exact G1.d_lt
  have HD1 := Lib.hid hD1
  have hYp : 0 < Y := by omega
  obtain ⟨u2, hu2⟩ : ∃ u2, u2 = (U * 4294967296 + v1) % Y := ⟨_, rfl⟩
  have bu2 : u2 < Y := by rw [hu2]; exact Nat.mod_lt _ hYp
  have eD1 : D1 = (U * 4294967296 + v1) / Y := by rw [hD1, he2.out]
  have ee1 : Y * D1 + u2 = U * 4294967296 + v1 := by rw [eD1, hu2]; exact Nat.div_add_mod _ _
  have g11 : IntKind.u64.wrap (IntKind.u64.wrap (IntKind.u64.wrap ((U : Int) * 4294967296) + v1) - IntKind.u64.wrap ((D1 : Int) * Y)) = (u2 : Int) := by
    simp only [IntKind.wrap_u64]
    rw [show (D1 : Int) * Y = ((Y * D1 : Nat) : Int) by rw [Nat.mul_comm]; simp]
    omega
  have G2 := Guess.start ba1 ba2 bb bv0 (show u2 < a * 4294967296 + b by have := he2.out; omega)
  obtain ⟨p2, hp2⟩ : ∃ p2, p2 = u2 / a := ⟨_, rfl⟩
  obtain ⟨r2, hr2⟩ : ∃ r2, r2 = u2 % a := ⟨_, rfl⟩
  rw [← hp2, ← hr2] at G2
  have g12 : (u2 : Int) / (a : Int) = (p2 : Int) := by rw [hp2]; rfl
  obtain ⟨m2, hm2⟩ : ∃ m2, m2 = p2 * a := ⟨_, rfl⟩
  have g13 : (p2 : Int) * (a : Int) = (m2 : Int) := by rw [hm2]; simp
  have g14 : (u2 : Int) - (m2 : Int) = (r2 : Int) := by have := G2.eq; omega
  have bp2 := G2.q_le
  have bm2 : m2 ≤ u2 := by have := G2.eq; omega
  have bu3 : u2 < 18446744073709551616 := by omega
  have HG2 := Lib.hid G2
  obtain ⟨D0, hD0⟩ : ∃ D0, D0 = (u2 * 4294967296 + v0) / (a * 4294967296 + b) := ⟨_, rfl⟩
  have bD0 : D0 < 4294967296 := by rw [hD0]; exact G2.d_lt
  have HD0 := Lib.hid hD0
  obtain ⟨R0, hR0⟩ : ∃ R0, R0 = (u2 * 4294967296 + v0) % Y := ⟨_, rfl⟩
  have bR0 : R0 < Y := by rw [hR0]; exact Nat.mod_lt _ hYp
  have eD0 : D0 = (u2 * 4294967296 + v0) / Y := by rw [hD0, he2.out]
  have ee0 : Y * D0 + R0 = u2 * 4294967296 + v0 := by rw [eD0, hR0]; exact Nat.div_add_mod _ _
  have g15 : IntKind.u64.wrap (IntKind.u64.wrap (IntKind.u64.wrap ((u2 : Int) * 4294967296) + v0) - IntKind.u64.wrap ((D0 : Int) * Y)) = (R0 : Int) := by
    simp only [IntKind.wrap_u64]
    rw [show (D0 : Int) * Y = ((Y * D0 : Nat) : Int) by rw [Nat.mul_comm]; simp]
    omega
  obtain ⟨f1, f2⟩ := two_digits U L Y D1 u2 D0 R0 hYp (by rw [← hv1]; exact ee1) (by rw [← hv0]; exact ee0) bR0
  rw [hdq] at f1
  rw [← f2] at hdr
  have HF1 := Lib.hid f1.symm
  have HF2 := Lib.hid hdr.symm
  clear hU hL hdq hdr hv1 hv0 hp1 hr1 hm1 G1 hD1 hj hUY hhi1 hu2 eD1 ee1 hp2 hr2 hm2 G2 hD0 hR0 eD0 ee0 f1 f2 bR0 bu2
  replace hlo : (lo : Int) < 18446744073709551616 := by omega
  replace hhi : (hi : Int) < y := by omega
  replace hy2 : (y : Int) < 18446744073709551616 := by omega
  replace hs : (s : Int) ≤ 63 := by omega
  replace ba1 : (2147483648 : Int) ≤ a := by omega
  replace ba2 : (a : Int) < 4294967296 := by omega
  replace bb : (b : Int) < 4294967296 := by omega
  replace bv1 : (v1 : Int) < 4294967296 := by omega
  replace bv0 : (v0 : Int) < 4294967296 := by omega
  replace bp1 : (p1 : Int) ≤ 4294967297 := by omega
  replace bm1 : (m1 : Int) ≤ U := by omega
  replace bU : (U : Int) < 18446744073709551616 := by omega
  replace bD1 : (D1 : Int) < 4294967296 := by omega
  replace bp2 : (p2 : Int) ≤ 4294967297 := by omega
  replace bm2 : (m2 : Int) ≤ u2 := by omega
  replace bu3 : (u2 : Int) < 18446744073709551616 := by omega
  replace bD0 : (D0 : Int) < 4294967296 := by omega
  clear hhi0 hYp
  go_enter Tryd.func35, Tryd.ntmps35
  go_wp2_with fail
  refine (Tryd.bits_LeadingZeros64 y _ (by omega) (by omega)).mono ?_
  rw [Int.toNat_natCast, HL.out]
  rintro e w' ⟨rfl, hw'⟩
  obtain rfl : w = w' := hw'.symm
  clear hw'
  go_upto_block 0 with (fail)
  go_cut [15] (fun q wx => w = wx ∧ q = .int .u64 D1)
  case first =>
    go_wp2_with fail
    go_loop [15, 16] (fun q r => GuessAt U v1 a b q r) (fun q _ => (intOf q).toNat)
    case atStart => exact ⟨p1, r1, HG1.out, rfl, rfl⟩
    case round =>
      obtain ⟨q, r, G, rfl, rfl⟩ := hrel
      have bq : (q : Int) ≤ 4294967297 := by have := G.q_le; omega
      have br : (r : Int) < 4294967296 := by have := G.hr; omega
      have hov := G.over
      rw [← HD1.out] at hov
      have hlw := G.lo
      rw [← HD1.out] at hlw
      have ep : (q : Int) * b = ((q * b : Nat) : Int) := by simp
      have c0 : 0 ≤ (q : Int) * b := by rw [ep]; omega
      rcases Nat.lt_or_ge D1 q with hq | hq
      · have hn := G.next (by rw [← HD1.out]; exact hq)
        have hbk := G.broke (by rw [← HD1.out]; exact hq)
        have HN := Lib.hid hn
        have HB := Lib.hid hbk
        have hmul := hov.1 hq
        have HG := Lib.hid G
        have c1 : 4294967296 * (r : Int) + v1 < (q : Int) * b := by rw [ep]; omega
        replace hq : (D1 : Int) < q := by omega
        rcases Int.lt_or_le (q : Int) 4294967296 with hbig | hbig
        · have c2 : (q : Int) * b < 18446744073709551616 := by
            have := HG.out.prod (by omega)
            rw [ep]; omega
          have d1 : decide ((4294967296 : Int) ≤ (q : Int)) = false := by simp; omega
          have d2 : decide (4294967296 * (r : Int) + v1 < (q : Int) * b) = true := by simpa using c1
          clear hn hbk hov hlw G hmul ep
          rcases Int.lt_or_le ((r : Int) + a) 4294967296 with hbr | hbr
          · have d3 : decide ((4294967296 : Int) ≤ (r : Int) + a) = false := by simp; omega
            go_wp2
            go_round
            case rel => exact ⟨q - 1, r + a, HN.out (by omega), by go_num, by go_num⟩
            case measure => simp [intOf]; omega
          · have d3 : decide ((4294967296 : Int) ≤ (r : Int) + a) = true := by simpa using hbr
            go_wp2
            go_meet
            exact ⟨rfl, by rw [HD1.out, ← HB.out (by omega)]; go_num⟩
        · clear hn hbk hov hlw G hmul ep
          have d1 : decide ((4294967296 : Int) ≤ (q : Int)) = true := by simpa using hbig
          rcases Int.lt_or_le ((r : Int) + a) 4294967296 with hbr | hbr
          · have d3 : decide ((4294967296 : Int) ≤ (r : Int) + a) = false := by simp; omega
            go_wp2
            go_round
            case rel => exact ⟨q - 1, r + a, HN.out (by omega), by go_num, by go_num⟩
            case measure => simp [intOf]; omega
          · have d3 : decide ((4294967296 : Int) ≤ (r : Int) + a) = true := by simpa using hbr
            go_wp2
            go_meet
            exact ⟨rfl, by rw [HD1.out, ← HB.out (by omega)]; go_num⟩
      · have hqe : q = D1 := by omega
        have hb3 : (q : Int) < 4294967296 := by omega
        have c2 : (q : Int) * b < 18446744073709551616 := by
          have := G.prod (by omega)
          rw [ep]; omega
        have c1 : (q : Int) * b ≤ 4294967296 * (r : Int) + v1 := by
          have := fun h => Nat.not_lt.2 hq (hov.2 h)
          rw [ep]; omega
        have HE := Lib.hid hqe
        have d1 : decide ((4294967296 : Int) ≤ (q : Int)) = false := by simp; omega
        have d2 : decide (4294967296 * (r : Int) + v1 < (q : Int) * b) = false := by simpa using c1
        clear hov hlw G hqe hq ep c1
        go_wp2
        go_meet
        exact ⟨rfl, by rw [HE.out]⟩
  case rest =>
    obtain ⟨rfl, rfl⟩ := hcut
    go_upto_block 2 with (fail)
    go_cut [18] (fun q wx => w = wx ∧ q = .int .u64 D0)
    case first =>
      go_wp2_with fail
      go_loop [18, 16] (fun q r => GuessAt u2 v0 a b q r) (fun q _ => (intOf q).toNat)
      case atStart => exact ⟨p2, r2, HG2.out, rfl, rfl⟩
      case round =>
        obtain ⟨q, r, G, rfl, rfl⟩ := hrel
        have bq : (q : Int) ≤ 4294967297 := by have := G.q_le; omega
        have br : (r : Int) < 4294967296 := by have := G.hr; omega
        have hov := G.over
        rw [← HD0.out] at hov
        have hlw := G.lo
        rw [← HD0.out] at hlw
        have ep : (q : Int) * b = ((q * b : Nat) : Int) := by simp
        have c0 : 0 ≤ (q : Int) * b := by rw [ep]; omega
        rcases Nat.lt_or_ge D0 q with hq | hq
        · have hn := G.next (by rw [← HD0.out]; exact hq)
          have hbk := G.broke (by rw [← HD0.out]; exact hq)
          have HN := Lib.hid hn
          have HB := Lib.hid hbk
          have hmul := hov.1 hq
          have HG := Lib.hid G
          have c1 : 4294967296 * (r : Int) + v0 < (q : Int) * b := by rw [ep]; omega
          replace hq : (D0 : Int) < q := by omega
          rcases Int.lt_or_le (q : Int) 4294967296 with hbig | hbig
          · have c2 : (q : Int) * b < 18446744073709551616 := by
              have := HG.out.prod (by omega)
              rw [ep]; omega
            have d1 : decide ((4294967296 : Int) ≤ (q : Int)) = false := by simp; omega
            have d2 : decide (4294967296 * (r : Int) + v0 < (q : Int) * b) = true := by simpa using c1
            clear hn hbk hov hlw G hmul ep
            rcases Int.lt_or_le ((r : Int) + a) 4294967296 with hbr | hbr
            · have d3 : decide ((4294967296 : Int) ≤ (r : Int) + a) = false := by simp; omega
              go_wp2
              go_round
              case rel => exact ⟨q - 1, r + a, HN.out (by omega), by go_num, by go_num⟩
              case measure => simp [intOf]; omega
            · have d3 : decide ((4294967296 : Int) ≤ (r : Int) + a) = true := by simpa using hbr
              go_wp2
              go_meet
              exact ⟨rfl, by rw [HD0.out, ← HB.out (by omega)]; go_num⟩
          · clear hn hbk hov hlw G hmul ep
            have d1 : decide ((4294967296 : Int) ≤ (q : Int)) = true := by simpa using hbig
            rcases Int.lt_or_le ((r : Int) + a) 4294967296 with hbr | hbr
            · have d3 : decide ((4294967296 : Int) ≤ (r : Int) + a) = false := by simp; omega
              go_wp2
              go_round
              case rel => exact ⟨q - 1, r + a, HN.out (by omega), by go_num, by go_num⟩
              case measure => simp [intOf]; omega
            · have d3 : decide ((4294967296 : Int) ≤ (r : Int) + a) = true := by simpa using hbr
              go_wp2
              go_meet
              exact ⟨rfl, by rw [HD0.out, ← HB.out (by omega)]; go_num⟩
        · have hqe : q = D0 := by omega
          have hb3 : (q : Int) < 4294967296 := by omega
          have c2 : (q : Int) * b < 18446744073709551616 := by
            have := G.prod (by omega)
            rw [ep]; omega
          have c1 : (q : Int) * b ≤ 4294967296 * (r : Int) + v0 := by
            have := fun h => Nat.not_lt.2 hq (hov.2 h)
            rw [ep]; omega
          have HE := Lib.hid hqe
          have d1 : decide ((4294967296 : Int) ≤ (q : Int)) = false := by simp; omega
          have d2 : decide (4294967296 * (r : Int) + v0 < (q : Int) * b) = false := by simpa using c1
          clear hov hlw G hqe hq ep c1
          go_wp2
          go_meet
          exact ⟨rfl, by rw [HE.out]⟩
    case rest =>
      obtain ⟨rfl, rfl⟩ := hcut
      go_wp2_with fail
      go_ret2
      exact ⟨by rw [HF1.out, HF2.out]; simp, Below.refl _ _⟩

/-- Div64, whatever the upper word below the divisor. -/
theorem div64_any (hi lo y : Nat) (hhi : hi < y) (hlo : lo < 18446744073709551616) (hy2 : y < 18446744073709551616) (w : World) :
    Calls Tryd.prog 35 #[.int .u64 hi, .int .u64 lo, .int .u64 y] w fun e w' => e = .returned (.tuple #[.int .u64 ((hi * 18446744073709551616 + lo) / y : Nat), .int .u64 ((hi * 18446744073709551616 + lo) % y : Nat)]) ∧ Below w.heap.size w w' := by
  rcases Nat.eq_zero_or_pos hi with h | h
  · subst h
    rw [Nat.zero_mul, Nat.zero_add]
    exact div64_small lo y hhi hlo hy2 w
  · exact div64_big hi lo y h hhi hlo hy2 w
end Go.Proofs.YtmnojohcfalodaaDoor
