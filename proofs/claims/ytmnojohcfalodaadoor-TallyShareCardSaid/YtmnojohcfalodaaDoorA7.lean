/-
  The sign, the length, single bits of a sum, by walks.
-/
import Derived.Test.YtmnojohcfalodaaDoorA4
import Derived.Test.YtmnojohcfalodaaDoorNa
import Derived.Test.YtmnojohcfalodaaDoorShelf
namespace Go.Proofs.YtmnojohcfalodaaDoor
set_option linter.unusedVariables false
set_option linter.unusedSimpArgs false
open Go.RowKit
set_option maxRecDepth 100000 in
set_option maxHeartbeats 400000 in
theorem sign_any (n : Nat) (hn : n < M384) (w : World) :
    Calls Tryd.prog 57 #[SV n] w fun e w' => e = .returned (.int .i64 (sgnN n)) ∧ Below w.heap.size w w' := by
  have h := run_eql_zero n hn
  have ht := top_word n hn
  by_cases h0 : n = 0
  · have e : sgnN n = 0 := by unfold sgnN; rw [if_pos h0]
    rw [e]
    rw [show decide (n = 0) = true by simp [h0]] at h
    clear e ht hn h0
    go_enter Tryd.func57, Tryd.ntmps57
    go_wp2
    go_ret
    exact ⟨rfl, (Below.refl _ _).alloc (Nat.le_refl _) _⟩
  · by_cases h1 : n < H383
    · rw [if_pos h1] at ht
      have e : sgnN n = 1 := by unfold sgnN; rw [if_neg h0, if_pos h1]
      have ht' : ((wd n 5 : Nat) : Int) / 9223372036854775808 = 0 := by omega
      rw [e]
      clear e ht hn h1
      go_enter Tryd.func57, Tryd.ntmps57
      go_wp2
      go_ret
      exact ⟨rfl, (Below.refl _ _).alloc (Nat.le_refl _) _⟩
    · rw [if_neg h1] at ht
      have e : sgnN n = -1 := by unfold sgnN; rw [if_neg h0, if_neg h1]
      have ht' : ((wd n 5 : Nat) : Int) / 9223372036854775808 = 1 := by omega
      rw [e]
      clear e ht hn h1
      go_enter Tryd.func57, Tryd.ntmps57
      go_wp2
      go_ret
      exact ⟨rfl, (Below.refl _ _).alloc (Nat.le_refl _) _⟩
set_option maxRecDepth 100000 in
set_option maxHeartbeats 400000 in
theorem bit_any (n i : Nat) (hi : i < 384) (w : World) :
    Calls Tryd.prog 61 #[SV n, .int .i64 i] w fun e w' => e = .returned (.bool (decide (n / 2 ^ i % 2 = 1))) ∧ Below w.heap.size w w' := by
  obtain ⟨q, hq⟩ : ∃ q, q = i / 64 := ⟨_, rfl⟩
  obtain ⟨r, hr⟩ : ∃ r, r = i % 64 := ⟨_, rfl⟩
  have g1 : (i : Int) / 64 = (q : Int) := by omega
  have g2 : (i : Int) % 64 = (r : Int) := by omega
  have hq6 : (q : Int) < 6 := by omega
  have hc : ((w.alloc (.cells #[Value.int .u64 (wd n 0 : Nat), .int .u64 (wd n 1 : Nat), .int .u64 (wd n 2 : Nat), .int .u64 (wd n 3 : Nat), .int .u64 (wd n 4 : Nat), .int .u64 (wd n 5 : Nat)] 27))).cell? ⟨w.heap.size, q, none⟩ = some (.int .u64 (wd n q : Nat)) := by
    obtain rfl | rfl | rfl | rfl | rfl | rfl : q = 0 ∨ q = 1 ∨ q = 2 ∨ q = 3 ∨ q = 4 ∨ q = 5 := by omega
    all_goals simp [World.cell?_alloc_new]
  have hb : (bits .and .u64 (((wd n q : Nat) : Int) / 2 ^ r) 1 == 1) = decide (n / 2 ^ i % 2 = 1) := by
    have h := u64_and_nat (wd n q / 2 ^ r) 1 (Nat.lt_of_le_of_lt (Nat.div_le_self _ _) (wd_lt _ _)) (by decide)
    rw [nat_mask1, hq, hr, bit_word, ← hq, ← hr] at h
    rw [show ((wd n q : Nat) : Int) / 2 ^ r = ((wd n q / 2 ^ r : Nat) : Int) by simp]
    rw [show (1 : Int) = ((1 : Nat) : Int) from rfl, h, Bool.eq_iff_iff]
    simp only [beq_iff_eq, decide_eq_true_eq]
    generalize n / 2 ^ i % 2 = z
    omega
  clear hq hr
  go_enter Tryd.func61, Tryd.ntmps61
  go_wp2
  go_ret
  exact ⟨rfl, (Below.refl _ _).alloc (Nat.le_refl _) _⟩
end Go.Proofs.YtmnojohcfalodaaDoor
