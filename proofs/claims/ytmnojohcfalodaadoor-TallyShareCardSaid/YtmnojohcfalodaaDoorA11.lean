/-
  packed: rounding to a float32, by walks.
-/
import Derived.Test.YtmnojohcfalodaaDoorA9
import Derived.Test.YtmnojohcfalodaaDoorA5
import Derived.Deep.DeepCutAuto
import Derived.Deep.CutBlock
namespace Go.Proofs.YtmnojohcfalodaaDoor
set_option linter.unusedVariables false
set_option linter.unusedSimpArgs false
open Go.RowKit
theorem float32frombits (u : Nat) (w : World) : (callFunc 33 #[.int .u32 u]).run Tryd.prog w = .ok (.value (.float .f32 u)) w := by
  rw [run_callFunc_extern Tryd.func33 (by kernel_rfl) (by kernel_rfl) (by kernel_rfl) (e := Extern.MathFloatBits.float32frombits) (by kernel_rfl)]
  rfl
theorem float32bits (u : Nat) (w : World) : (callFunc 32 #[.float .f32 u]).run Tryd.prog w = .ok (.value (.int .u32 u)) w := by
  rw [run_callFunc_extern Tryd.func32 (by kernel_rfl) (by kernel_rfl) (by kernel_rfl) (e := Extern.MathFloatBits.float32bits) (by kernel_rfl)]
  rfl
theorem kept_b {B : Nat} {W w1 : World} (hb : Below B W w1) : (∀ b o, b < B → w1.cell? ⟨b, o, none⟩ = W.cell? ⟨b, o, none⟩) ∧ (∀ b o, b < B → w1.frozen? ⟨b, o, none⟩ = W.frozen? ⟨b, o, none⟩) ∧ W.heap.size ≤ w1.heap.size :=
  ⟨fun b o h => hb.cell (p := ⟨b, o, none⟩) h, fun b o h => hb.frozen (p := ⟨b, o, none⟩) h, hb.size⟩
theorem index0 (x0 x1 x2 x3 x4 x5 : Value) (w : World) : (Instr.index 27 (.agg #[x0, x1, x2, x3, x4, x5]) (.int .i64 0)).run Tryd.prog w = .ok x0 w := by kernel_rfl
theorem bits_u (d s : Nat) (hd : d + 1 ≤ 254) (hs : s < 4294967296) : bits .or .u32 (((d : Int) + 1) * 8388608) (bits .and .u32 (s : Int) 8388607) = (((d + 1) * 8388608 + s % 8388608 : Nat) : Int) := by
  have h1 := u32_and_nat s 8388607 hs (by decide)
  rw [nat_mask23] at h1
  have h2 := u32_or_nat ((d + 1) * 8388608) (s % 8388608) (by omega) (by omega)
  rw [nat_join 23 _ _ (Nat.mul_mod_left _ _) (Nat.mod_lt _ (by decide))] at h2
  rw [← h2, ← h1]
  congr 1
theorem bits_neg (u : Nat) (hu : u < 2147483648) : bits .or .u32 (u : Int) 2147483648 = ((u + 2147483648 : Nat) : Int) := by
  have h := u32_or_nat u 2147483648 (by omega) (by decide)
  rw [Nat.or_comm, nat_join 31 2147483648 u (by decide) hu, Nat.add_comm] at h
  exact h
theorem lastB (sg : Nat) (h : sg < 16777216) : (bits .and .u32 (sg : Int) 1 == 1) = decide (sg % 2 = 1) := by
  have e := u32_and_nat sg 1 (by omega) (by decide)
  rw [nat_mask1] at e
  rw [show (1 : Int) = ((1 : Nat) : Int) from rfl, e, Bool.eq_iff_iff]
  simp only [beq_iff_eq, decide_eq_true_eq]
  omega
set_option maxRecDepth 100000 in
set_option maxHeartbeats 1000000 in
theorem packed_any (neg : Bool) (m : Nat) (hm : m < M384) (half rest : Bool) (mode : Nat) (hmo : mode ≤ 3) (w : World) (hM : Modes w) :
    Calls Tryd.prog 36 #[.bool neg, SV m, .bool half, .bool rest, .int .i64 mode] w fun e w' => e = .returned (.tuple #[.float .f32 (packN neg m half rest mode).1, .int .i64 ((packN neg m half rest mode).2 : Nat)]) ∧ Below w.heap.size w w' := by
  have HL := Lib.hid (fun W => length_any m hm W)
  have bl : ((bitLen m : Nat) : Int) ≤ 384 := by have := bitLen_384 m hm; omega
  have em : max (0 : Int) (((bitLen m : Nat) : Int) - 24) = ((dropN m : Nat) : Int) := by unfold dropN; omega
  obtain ⟨D, hD⟩ : ∃ D, D = dropN m := ⟨_, rfl⟩
  have bD : (D : Int) ≤ 360 := by rw [hD]; unfold dropN; omega
  obtain ⟨H, hH⟩ : ∃ H, H = halfN m half := ⟨_, rfl⟩
  obtain ⟨R, hR⟩ : ∃ R, R = restN m half rest := ⟨_, rfl⟩
  have e1 := sig_lt m
  obtain ⟨sg, hsg⟩ : ∃ sg, sg = m / 2 ^ D := ⟨_, rfl⟩
  obtain ⟨up, hup⟩ : ∃ up, up = raisedB mode neg (decide (sg % 2 = 1)) H R := ⟨_, rfl⟩
  have HRz := Lib.hid (fun W hW => hup ▸ raised_any mode hmo neg (decide (sg % 2 = 1)) H R W hW)
  have hpk : packN neg m half rest mode = putBits neg (if sg + up.toNat = 16777216 then (8388608, D + 1) else (sg + up.toNat, D)).fst (if sg + up.toNat = 16777216 then (8388608, D + 1) else (sg + up.toNat, D)).snd := by
    unfold packN sigN
    simp only [← hH, ← hR, ← hD, ← hsg, ← hup]
  obtain ⟨P1, hP1⟩ : ∃ P1, P1 = (packN neg m half rest mode).1 := ⟨_, rfl⟩
  obtain ⟨P2, hP2⟩ : ∃ P2, P2 = (packN neg m half rest mode).2 := ⟨_, rfl⟩
  rw [← hP1, ← hP2]
  rw [hpk] at hP1 hP2
  have HP1 := Lib.hid hP1
  have HP2 := Lib.hid hP2
  clear hpk hP1 hP2 hup
  rw [← hD, ← hsg] at e1
  unfold halfN at hH
  unfold restN at hR
  rw [← hD] at hH hR em
  have HHd := Lib.hid hH
  have HRd := Lib.hid hR
  have HLt := Lib.hid hm
  have HMo := Lib.hid hM
  have HSg := Lib.hid hsg
  clear hD hH hR hm hM hsg
  go_enter Tryd.func36, Tryd.ntmps36
  go_wp2_with fail
  refine (HL.out _).mono ?_
  rintro e w1 ⟨rfl, hb1⟩
  obtain ⟨hc1, hf1, hz1⟩ := kept_to hb1 (w.heap.size + 1) (by simp)
  have HB1 := Lib.hid hb1; clear hb1
  go_upto_if 20 with (fail)
  go_cut [2, 3] (fun h r wx => h = .bool H ∧ r = .bool R ∧ Below (w.heap.size + 1) w1 wx)
  case first =>
    rcases Nat.eq_zero_or_pos D with h0 | h0
    · have hH := HHd.out
      have hR := HRd.out
      rw [if_neg (by omega)] at hH hR
      have HH := Lib.hid hH
      have HR := Lib.hid hR
      replace h0 : (D : Int) ≤ 0 := by omega
      clear hH hR
      go_wp2_with fail
      go_meet
      exact ⟨by rw [HH.out], by rw [HR.out], Below.refl _ _⟩
    · have hH := HHd.out
      have hR := HRd.out
      rw [if_pos h0] at hH hR
      have HH := Lib.hid hH
      have HR := Lib.hid hR
      have HB := Lib.hid (fun W => below_any m (D - 1) (by omega) W)
      have HT := Lib.hid (fun W => bit_any m (D - 1) (by omega) W)
      have hDe : (D : Int) - 1 = ((D - 1 : Nat) : Int) := by omega
      replace h0 : 0 < (D : Int) := by omega
      clear hH hR
      cases rest
      · cases half
        · go_wp2_with fail
          refine (HB.out _).mono ?_
          rintro e w2 ⟨rfl, hb2⟩
          obtain ⟨hc2, hf2, hz2⟩ := kept_to hb2 (w.heap.size + 1) hz1
          have HB2 := Lib.hid hb2; clear hb2
          go_wp2_with fail
          refine (HT.out _).mono ?_
          rintro e w3 ⟨rfl, hb3⟩
          have HB3 := Lib.hid hb3; clear hb3
          go_wp2_with fail
          go_meet
          exact ⟨by rw [HH.out], by rw [HR.out]; simp, (HB2.out.mono hz1).trans (HB3.out.mono (by first | omega | (simp <;> omega)))⟩
        · go_wp2_with fail
          refine (HT.out _).mono ?_
          rintro e w3 ⟨rfl, hb3⟩
          have HB3 := Lib.hid hb3; clear hb3
          go_wp2_with fail
          go_meet
          exact ⟨by rw [HH.out], by rw [HR.out]; simp, HB3.out.mono hz1⟩
      · go_wp2_with fail
        refine (HT.out _).mono ?_
        rintro e w3 ⟨rfl, hb3⟩
        have HB3 := Lib.hid hb3; clear hb3
        go_wp2_with fail
        go_meet
        exact ⟨by rw [HH.out], by rw [HR.out]; simp, HB3.out.mono hz1⟩
  case rest =>
    obtain ⟨rfl, rfl, hb4⟩ := hcut
    obtain ⟨hc4, hf4, hz4⟩ := kept_b hb4
    have HB4 := Lib.hid hb4; clear hb4
    have HD := Lib.hid (fun W => down_any m D HLt.out (by omega) W)
    have hw0 : ((wd (m / 2 ^ D) 0 : Nat) : Int) = (sg : Int) := by rw [wd0, ← HSg.out]; omega
    have hlast := lastB sg e1
    replace e1 : (sg : Int) < 16777216 := by omega
    replace hmo : (mode : Int) ≤ 3 := by omega
    have hix := index0
    go_wp2_with fail
    refine (HD.out _).mono ?_
    rintro e w5 ⟨rfl, hb5⟩
    have HB5 := Lib.hid hb5; clear hb5
    go_wp2_with fail
    refine (HRz.out _ (((HMo.out.keep ((Below.refl _ _).alloc (Nat.le_refl _) _) HMo.out.lt).keep HB1.out (by simp; have := HMo.out.lt; omega)).keep HB4.out (by have := HMo.out.lt; omega) |>.keep HB5.out (by have := HMo.out.lt; omega))).mono ?_
    rintro e w6 ⟨rfl, hb6⟩
    have HB6 := Lib.hid hb6; clear hb6
    have hs5 : w.heap.size ≤ w1.heap.size ∧ w1.heap.size ≤ wc.heap.size ∧ wc.heap.size ≤ w5.heap.size := ⟨by omega, HB4.out.size, HB5.out.size⟩
    have HW := Lib.hid ((((((Below.refl w.heap.size w).alloc (Nat.le_refl _) _).trans (HB1.out.mono (by simp))).trans (HB4.out.mono (by omega))).trans (HB5.out.mono (by omega))).trans (HB6.out.mono (by omega)))
    clear hs5
    cases up
    · have f24 : ((sg : Int) == 16777216) = false := by rw [beq_eq_false_iff_ne]; omega
      rcases Int.lt_or_le ((sg : Int)) 8388608 with hs | hs
      · have d1 : decide ((8388608 : Int) ≤ (sg : Int)) = false := by simp; omega
        cases neg
        · skip
          have g33 := float32frombits
          go_wp2_with fail
          go_ret2
          refine ⟨?_, HW.out⟩
          have q1 : P1 = sg := by
            rw [HP1.out]; simp only [if_neg (show ¬ sg + Bool.toNat false = 16777216 by simp; omega)]; unfold putBits; rw [if_neg (by simp; omega)]; simp
          have q2 : P2 = 0 := by
            rw [HP2.out]; simp only [if_neg (show ¬ sg + Bool.toNat false = 16777216 by simp; omega)]; unfold putBits; rw [if_neg (by simp; omega)]
          rw [q1, q2]; rfl
        · skip
          have g33 := float32frombits
          obtain ⟨U, hU⟩ : ∃ U, U = sg + 2147483648 := ⟨_, rfl⟩
          have fN : bits .or .u32 ((sg : Int)) 2147483648 = (U : Int) := by rw [hU]; exact bits_neg sg (by omega)
          have HU := Lib.hid hU
          clear hU
          go_wp2_with fail
          go_ret2
          refine ⟨?_, HW.out⟩
          have q1 : P1 = U := by
            rw [HP1.out]; simp only [if_neg (show ¬ sg + Bool.toNat false = 16777216 by simp; omega)]; unfold putBits; rw [if_neg (by simp; omega)]; rw [HU.out]; simp
          have q2 : P2 = 0 := by
            rw [HP2.out]; simp only [if_neg (show ¬ sg + Bool.toNat false = 16777216 by simp; omega)]; unfold putBits; rw [if_neg (by simp; omega)]
          rw [q1, q2]; rfl
      · have d1 : decide ((8388608 : Int) ≤ (sg : Int)) = true := by simp; omega
        rcases Int.lt_or_le 254 ((D : Int) + 1) with hE | hE
        · have d2 : decide ((254 : Int) < D + 1) = true := by simp; omega
          go_wp2_with fail
          go_ret2
          refine ⟨?_, HW.out⟩
          have q1 : P1 = 0 := by
            rw [HP1.out]; simp only [if_neg (show ¬ sg + Bool.toNat false = 16777216 by simp; omega)]; unfold putBits; rw [if_pos (by simp; try omega), if_pos (by omega)]
          have q2 : P2 = 20 := by
            rw [HP2.out]; simp only [if_neg (show ¬ sg + Bool.toNat false = 16777216 by simp; omega)]; unfold putBits; rw [if_pos (by simp; try omega), if_pos (by omega)]
          rw [q1, q2]; rfl
        · have d2 : decide ((254 : Int) < D + 1) = false := by simp; omega
          cases neg
          · skip
            have g33 := float32frombits
            obtain ⟨V, hV⟩ : ∃ V, V = ((D + 1) * 8388608 + sg % 8388608) := ⟨_, rfl⟩
            have bV : V < 2147483648 := by omega
            have fV : bits .or .u32 (((D : Int) + 1) * 8388608) (bits .and .u32 ((sg : Int)) 8388607) = (V : Int) := by
              rw [hV, ← bits_u D sg (by omega) (by omega)]
            have HU := Lib.hid hV
            clear hV
            replace bV : (V : Int) < 2147483648 := by omega
            go_wp2_with fail
            go_ret2
            refine ⟨?_, HW.out⟩
            have q1 : P1 = V := by
              rw [HP1.out]; simp only [if_neg (show ¬ sg + Bool.toNat false = 16777216 by simp; omega)]; unfold putBits; rw [if_pos (by simp; try omega), if_neg (by omega)]; rw [HU.out]; simp
            have q2 : P2 = 0 := by
              rw [HP2.out]; simp only [if_neg (show ¬ sg + Bool.toNat false = 16777216 by simp; omega)]; unfold putBits; rw [if_pos (by simp; try omega), if_neg (by omega)]
            rw [q1, q2]; rfl
          · skip
            have g33 := float32frombits
            obtain ⟨V, hV⟩ : ∃ V, V = ((D + 1) * 8388608 + sg % 8388608) := ⟨_, rfl⟩
            have bV : V < 2147483648 := by omega
            have fV : bits .or .u32 (((D : Int) + 1) * 8388608) (bits .and .u32 ((sg : Int)) 8388607) = (V : Int) := by
              rw [hV, ← bits_u D sg (by omega) (by omega)]
            obtain ⟨U, hU⟩ : ∃ U, U = V + 2147483648 := ⟨_, rfl⟩
            have fN : bits .or .u32 (V : Int) 2147483648 = (U : Int) := by rw [hU]; exact bits_neg V bV
            have HU := Lib.hid (show U = ((D + 1) * 8388608 + sg % 8388608) + 2147483648 by rw [hU, hV])
            clear hU hV
            replace bV : (V : Int) < 2147483648 := by omega
            go_wp2_with fail
            go_ret2
            refine ⟨?_, HW.out⟩
            have q1 : P1 = U := by
              rw [HP1.out]; simp only [if_neg (show ¬ sg + Bool.toNat false = 16777216 by simp; omega)]; unfold putBits; rw [if_pos (by simp; try omega), if_neg (by omega)]; rw [HU.out]; simp
            have q2 : P2 = 0 := by
              rw [HP2.out]; simp only [if_neg (show ¬ sg + Bool.toNat false = 16777216 by simp; omega)]; unfold putBits; rw [if_pos (by simp; try omega), if_neg (by omega)]
            rw [q1, q2]; rfl
    · rcases Int.lt_or_le ((sg : Int) + 1) 16777216 with ho | ho
      · have f24 : ((sg : Int) + 1 == 16777216) = false := by rw [beq_eq_false_iff_ne]; omega
        rcases Int.lt_or_le ((sg : Int) + 1) 8388608 with hs | hs
        · have d1 : decide ((8388608 : Int) ≤ (sg : Int) + 1) = false := by simp; omega
          cases neg
          · skip
            have g33 := float32frombits
            have g34 : ∀ w, (callFunc 33 #[.int .u32 ((sg : Int) + 1)]).run Tryd.prog w = .ok (.value (.float .f32 (sg + 1))) w := fun w => float32frombits (sg + 1) w
            go_wp2_with fail
            go_ret2
            refine ⟨?_, HW.out⟩
            have q1 : P1 = (sg + 1) := by
              rw [HP1.out]; simp only [if_neg (show ¬ sg + Bool.toNat true = 16777216 by simp; omega)]; unfold putBits; rw [if_neg (by simp; omega)]; simp
            have q2 : P2 = 0 := by
              rw [HP2.out]; simp only [if_neg (show ¬ sg + Bool.toNat true = 16777216 by simp; omega)]; unfold putBits; rw [if_neg (by simp; omega)]
            rw [q1, q2]; rfl
          · skip
            have g33 := float32frombits
            obtain ⟨U, hU⟩ : ∃ U, U = (sg + 1) + 2147483648 := ⟨_, rfl⟩
            have fN : bits .or .u32 ((sg : Int) + 1) 2147483648 = (U : Int) := by rw [hU]; exact bits_neg (sg + 1) (by omega)
            have HU := Lib.hid hU
            clear hU
            go_wp2_with fail
            go_ret2
            refine ⟨?_, HW.out⟩
            have q1 : P1 = U := by
              rw [HP1.out]; simp only [if_neg (show ¬ sg + Bool.toNat true = 16777216 by simp; omega)]; unfold putBits; rw [if_neg (by simp; omega)]; rw [HU.out]; simp
            have q2 : P2 = 0 := by
              rw [HP2.out]; simp only [if_neg (show ¬ sg + Bool.toNat true = 16777216 by simp; omega)]; unfold putBits; rw [if_neg (by simp; omega)]
            rw [q1, q2]; rfl
        · have d1 : decide ((8388608 : Int) ≤ (sg : Int) + 1) = true := by simp; omega
          rcases Int.lt_or_le 254 ((D : Int) + 1) with hE | hE
          · have d2 : decide ((254 : Int) < D + 1) = true := by simp; omega
            go_wp2_with fail
            go_ret2
            refine ⟨?_, HW.out⟩
            have q1 : P1 = 0 := by
              rw [HP1.out]; simp only [if_neg (show ¬ sg + Bool.toNat true = 16777216 by simp; omega)]; unfold putBits; rw [if_pos (by simp; try omega), if_pos (by omega)]
            have q2 : P2 = 20 := by
              rw [HP2.out]; simp only [if_neg (show ¬ sg + Bool.toNat true = 16777216 by simp; omega)]; unfold putBits; rw [if_pos (by simp; try omega), if_pos (by omega)]
            rw [q1, q2]; rfl
          · have d2 : decide ((254 : Int) < D + 1) = false := by simp; omega
            cases neg
            · skip
              have g33 := float32frombits
              obtain ⟨V, hV⟩ : ∃ V, V = ((D + 1) * 8388608 + (sg + 1) % 8388608) := ⟨_, rfl⟩
              have bV : V < 2147483648 := by omega
              have fV : bits .or .u32 (((D : Int) + 1) * 8388608) (bits .and .u32 ((sg : Int) + 1) 8388607) = (V : Int) := by
                rw [hV, ← bits_u D (sg + 1) (by omega) (by omega)]; rfl
              have HU := Lib.hid hV
              clear hV
              replace bV : (V : Int) < 2147483648 := by omega
              go_wp2_with fail
              go_ret2
              refine ⟨?_, HW.out⟩
              have q1 : P1 = V := by
                rw [HP1.out]; simp only [if_neg (show ¬ sg + Bool.toNat true = 16777216 by simp; omega)]; unfold putBits; rw [if_pos (by simp; try omega), if_neg (by omega)]; rw [HU.out]; simp
              have q2 : P2 = 0 := by
                rw [HP2.out]; simp only [if_neg (show ¬ sg + Bool.toNat true = 16777216 by simp; omega)]; unfold putBits; rw [if_pos (by simp; try omega), if_neg (by omega)]
              rw [q1, q2]; rfl
            · skip
              have g33 := float32frombits
              obtain ⟨V, hV⟩ : ∃ V, V = ((D + 1) * 8388608 + (sg + 1) % 8388608) := ⟨_, rfl⟩
              have bV : V < 2147483648 := by omega
              have fV : bits .or .u32 (((D : Int) + 1) * 8388608) (bits .and .u32 ((sg : Int) + 1) 8388607) = (V : Int) := by
                rw [hV, ← bits_u D (sg + 1) (by omega) (by omega)]; rfl
              obtain ⟨U, hU⟩ : ∃ U, U = V + 2147483648 := ⟨_, rfl⟩
              have fN : bits .or .u32 (V : Int) 2147483648 = (U : Int) := by rw [hU]; exact bits_neg V bV
              have HU := Lib.hid (show U = ((D + 1) * 8388608 + (sg + 1) % 8388608) + 2147483648 by rw [hU, hV])
              clear hU hV
              replace bV : (V : Int) < 2147483648 := by omega
              go_wp2_with fail
              go_ret2
              refine ⟨?_, HW.out⟩
              have q1 : P1 = U := by
                rw [HP1.out]; simp only [if_neg (show ¬ sg + Bool.toNat true = 16777216 by simp; omega)]; unfold putBits; rw [if_pos (by simp; try omega), if_neg (by omega)]; rw [HU.out]; simp
              have q2 : P2 = 0 := by
                rw [HP2.out]; simp only [if_neg (show ¬ sg + Bool.toNat true = 16777216 by simp; omega)]; unfold putBits; rw [if_pos (by simp; try omega), if_neg (by omega)]
              rw [q1, q2]; rfl
      · have f24 : ((sg : Int) + 1 == 16777216) = true := by rw [beq_iff_eq]; omega
        have f25 : ((sg : Int) + 1) / 2 = 8388608 := by omega
        rcases Int.lt_or_le 254 ((D : Int) + 1 + 1) with hE | hE
        · have d2 : decide ((254 : Int) < D + 1 + 1) = true := by simp; omega
          go_wp2_with fail
          go_ret2
          refine ⟨?_, HW.out⟩
          have q1 : P1 = 0 := by
            rw [HP1.out]; simp only [if_pos (show sg + Bool.toNat true = 16777216 by simp; omega)]; unfold putBits; rw [if_pos (by simp; try omega), if_pos (by omega)]
          have q2 : P2 = 20 := by
            rw [HP2.out]; simp only [if_pos (show sg + Bool.toNat true = 16777216 by simp; omega)]; unfold putBits; rw [if_pos (by simp; try omega), if_pos (by omega)]
          rw [q1, q2]; rfl
        · have d2 : decide ((254 : Int) < D + 1 + 1) = false := by simp; omega
          cases neg
          · skip
            have g33 := float32frombits
            obtain ⟨V, hV⟩ : ∃ V, V = ((D + 1 + 1) * 8388608 + 8388608 % 8388608) := ⟨_, rfl⟩
            have bV : V < 2147483648 := by omega
            have fV : bits .or .u32 (((D : Int) + 1 + 1) * 8388608) (bits .and .u32 8388608 8388607) = (V : Int) := by
              rw [hV, ← bits_u (D + 1) 8388608 (by omega) (by decide)]; rfl
            have fV' : bits .or .u32 (((D : Int) + 1 + 1) * 8388608) 0 = (V : Int) := fV
            have HU := Lib.hid hV
            clear hV
            replace bV : (V : Int) < 2147483648 := by omega
            go_wp2_with fail
            go_ret2
            refine ⟨?_, HW.out⟩
            have q1 : P1 = V := by
              rw [HP1.out]; simp only [if_pos (show sg + Bool.toNat true = 16777216 by simp; omega)]; unfold putBits; rw [if_pos (by simp; try omega), if_neg (by omega)]; rw [HU.out]; simp
            have q2 : P2 = 0 := by
              rw [HP2.out]; simp only [if_pos (show sg + Bool.toNat true = 16777216 by simp; omega)]; unfold putBits; rw [if_pos (by simp; try omega), if_neg (by omega)]
            rw [q1, q2]; rfl
          · skip
            have g33 := float32frombits
            obtain ⟨V, hV⟩ : ∃ V, V = ((D + 1 + 1) * 8388608 + 8388608 % 8388608) := ⟨_, rfl⟩
            have bV : V < 2147483648 := by omega
            have fV : bits .or .u32 (((D : Int) + 1 + 1) * 8388608) (bits .and .u32 8388608 8388607) = (V : Int) := by
              rw [hV, ← bits_u (D + 1) 8388608 (by omega) (by decide)]; rfl
            have fV' : bits .or .u32 (((D : Int) + 1 + 1) * 8388608) 0 = (V : Int) := fV
            obtain ⟨U, hU⟩ : ∃ U, U = V + 2147483648 := ⟨_, rfl⟩
            have fN : bits .or .u32 (V : Int) 2147483648 = (U : Int) := by rw [hU]; exact bits_neg V bV
            have HU := Lib.hid (show U = ((D + 1 + 1) * 8388608 + 8388608 % 8388608) + 2147483648 by rw [hU, hV])
            clear hU hV
            replace bV : (V : Int) < 2147483648 := by omega
            go_wp2_with fail
            go_ret2
            refine ⟨?_, HW.out⟩
            have q1 : P1 = U := by
              rw [HP1.out]; simp only [if_pos (show sg + Bool.toNat true = 16777216 by simp; omega)]; unfold putBits; rw [if_pos (by simp; try omega), if_neg (by omega)]; rw [HU.out]; simp
            have q2 : P2 = 0 := by
              rw [HP2.out]; simp only [if_pos (show sg + Bool.toNat true = 16777216 by simp; omega)]; unfold putBits; rw [if_pos (by simp; try omega), if_neg (by omega)]
            rw [q1, q2]; rfl
end Go.Proofs.YtmnojohcfalodaaDoor
