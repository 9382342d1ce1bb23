/-
  The word operations of math/bits and the sums' Neg and Merge, by walks.
-/
import Derived.Test.YtmnojohcfalodaaDoorRows
import Derived.Test.YtmnojohcfalodaaDoorNa
import Derived.WalkKit
import Derived.WalkSpells
import Derived.WalkLawsBesides
import Derived.Deep.QuietTactic
import Derived.BigQuiet
import Derived.StillTailTactics
import Derived.RowKit3
import Derived.RegionTactic
import Derived.BigRegion
import Derived.Lib.Hide
namespace Go.Proofs.YtmnojohcfalodaaDoor
set_option linter.unusedVariables false
set_option linter.unusedSimpArgs false
open Go.RowKit

theorem rounds_step {P : Program} {c : Code} {Q : Exit → Act → World → Prop} {a : Act} {w : World} (n : Nat) (h : c.wp P (Exit.then (Code.rounds P c Q n) Q) a w) : Code.rounds P c Q (n + 1) a w := h

/-- a sum as a value -/
abbrev SV (n : Nat) : Value := .agg #[.int .u64 (wd n 0 : Nat), .int .u64 (wd n 1 : Nat), .int .u64 (wd n 2 : Nat), .int .u64 (wd n 3 : Nat), .int .u64 (wd n 4 : Nat), .int .u64 (wd n 5 : Nat)]

/-- what a callee that makes memory leaves of the caller's -/
theorem kept {W w1 : World} (hb : Below W.heap.size W w1) : (∀ b o, b < W.heap.size → w1.cell? ⟨b, o, none⟩ = W.cell? ⟨b, o, none⟩) ∧ (∀ b o, b < W.heap.size → w1.frozen? ⟨b, o, none⟩ = W.frozen? ⟨b, o, none⟩) :=
  ⟨fun b o h => hb.cell (p := ⟨b, o, none⟩) h, fun b o h => hb.frozen (p := ⟨b, o, none⟩) h⟩

theorem kept_to {W w1 : World} (hb : Below W.heap.size W w1) (N : Nat) (hN : N ≤ W.heap.size) : (∀ b o, b < N → w1.cell? ⟨b, o, none⟩ = W.cell? ⟨b, o, none⟩) ∧ (∀ b o, b < N → w1.frozen? ⟨b, o, none⟩ = W.frozen? ⟨b, o, none⟩) ∧ N ≤ w1.heap.size :=
  ⟨fun b o h => hb.cell (p := ⟨b, o, none⟩) (Nat.lt_of_lt_of_le h hN), fun b o h => hb.frozen (p := ⟨b, o, none⟩) (Nat.lt_of_lt_of_le h hN), Nat.le_trans hN hb.size⟩

def add64Entry' : Array Value → Sem Value := fun args => do
  let (x, y, c) ← Extern.MathBitsCarry.three "Add64" args
  pure (Extern.MathBitsCarry.pair ((x + y + c) % Extern.MathBitsCarry.m64) ((x + y + c) / Extern.MathBitsCarry.m64))
def sub64Entry' : Array Value → Sem Value := fun args => do
  let (x, y, b) ← Extern.MathBitsCarry.three "Sub64" args
  pure (Extern.MathBitsCarry.pair ((x + Extern.MathBitsCarry.m64 - y - b) % Extern.MathBitsCarry.m64) (if x < y + b then 1 else 0))

theorem add64 (x y : Nat) (p : Bool) (hx : x < 18446744073709551616) (hy : y < 18446744073709551616) (w : World) : (callFunc 31 #[.int .u64 x, .int .u64 y, .int .u64 (cb p)]).run Tryd.prog w =
    .ok (.value (.tuple #[.int .u64 (adw x y p), .int .u64 (cb (adc x y p))])) w := by
  rw [run_callFunc_extern Tryd.func31 (by kernel_rfl) (by kernel_rfl) (by kernel_rfl) (e := add64Entry') (by kernel_rfl)]
  have h : (add64Entry' #[.int .u64 x, .int .u64 y, .int .u64 (cb p)]).run Tryd.prog w = .ok (.tuple #[.int .u64 (adw x y p), .int .u64 (cb (adc x y p))]) w := by
    have e : (add64Entry' #[.int .u64 x, .int .u64 y, .int .u64 (cb p)]).run Tryd.prog w = .ok (.tuple #[.int .u64 (((x + y + p.toNat) % 18446744073709551616 : Nat) : Int), .int .u64 (((x + y + p.toNat) / 18446744073709551616 : Nat) : Int)]) w := by
      cases p <;> rfl
    rw [e]
    have e2 : (((x + y + p.toNat) / 18446744073709551616 : Nat) : Int) = cb (adc x y p) := by
      unfold cb adc
      have : p.toNat ≤ 1 := by cases p <;> decide
      split <;> rename_i h <;> simp only [decide_eq_true_eq] at h <;> omega
    rw [e2]; rfl
  rw [h]; rfl
theorem sub64 (x y : Nat) (p : Bool) (w : World) : (callFunc 56 #[.int .u64 x, .int .u64 y, .int .u64 (cb p)]).run Tryd.prog w =
    .ok (.value (.tuple #[.int .u64 (sbw x y p), .int .u64 (cb (sbc x y p))])) w := by
  rw [run_callFunc_extern Tryd.func56 (by kernel_rfl) (by kernel_rfl) (by kernel_rfl) (e := sub64Entry') (by kernel_rfl)]
  have h : (sub64Entry' #[.int .u64 x, .int .u64 y, .int .u64 (cb p)]).run Tryd.prog w = .ok (.tuple #[.int .u64 (sbw x y p), .int .u64 (cb (sbc x y p))]) w := by
    have e : (sub64Entry' #[.int .u64 x, .int .u64 y, .int .u64 (cb p)]).run Tryd.prog w = .ok (.tuple #[.int .u64 (((x + 18446744073709551616 - y - p.toNat) % 18446744073709551616 : Nat) : Int), .int .u64 ((if x < y + p.toNat then 1 else 0 : Nat) : Int)]) w := by
      cases p <;> rfl
    rw [e]
    have e2 : ((if x < y + p.toNat then 1 else 0 : Nat) : Int) = cb (sbc x y p) := by
      unfold cb sbc
      split <;> simp_all
    rw [e2]; rfl
  rw [h]; rfl
theorem sub64_0 (y : Nat) (p : Bool) (w : World) : (callFunc 56 #[.int .u64 0, .int .u64 y, .int .u64 (cb p)]).run Tryd.prog w =
    .ok (.value (.tuple #[.int .u64 (sbw 0 y p), .int .u64 (cb (sbc 0 y p))])) w := sub64 0 y p w
theorem sub64_00 (y : Nat) (w : World) : (callFunc 56 #[.int .u64 0, .int .u64 y, .int .u64 0]).run Tryd.prog w =
    .ok (.value (.tuple #[.int .u64 (sbw 0 y false), .int .u64 (cb (sbc 0 y false))])) w := sub64 0 y false w

set_option maxRecDepth 100000 in
set_option maxHeartbeats 1000000 in
theorem neg_any (n : Nat) (hn : n < M384) (w : World) :
    Calls Tryd.prog 30 #[SV n] w fun e w' => e = .returned (SV ((M384 - n) % M384)) ∧ Below w.heap.size w w' := by
  obtain ⟨e0, e1, e2, e3, e4, e5⟩ := sub_words n hn
  have hs := sub64_0
  have hs0 := sub64_00
  clear hn
  go_enter Tryd.func30, Tryd.ntmps30
  go_wp2
  refine wp_loop_rounds 7 ?_
  refine rounds_step 6 ?_
  go_wp2
  refine rounds_step 5 ?_
  go_wp2
  refine rounds_step 4 ?_
  go_wp2
  refine rounds_step 3 ?_
  go_wp2
  refine rounds_step 2 ?_
  go_wp2
  refine rounds_step 1 ?_
  go_wp2
  refine rounds_step 0 ?_
  go_wp2
  refine bodyPost_ret (v := SV ((M384 - n) % M384)) (by simp [results, Tryd.results30, go_sem]) rfl ⟨rfl, ?_⟩
  repeat (first | exact Below.refl _ _ | refine Below.setCell ?_ (by simp <;> omega) _ | refine Below.alloc ?_ (by simp <;> omega) _ | refine Below.drew ?_)

set_option maxRecDepth 100000 in
set_option maxHeartbeats 2000000 in
theorem merge_any (m n : Nat) (hm : m < M384) (hn : n < M384) (w : World) :
    Calls Tryd.prog 14 #[SV m, SV n] w fun e w' => e = .returned (SV ((m + n) % M384)) ∧ Below w.heap.size w w' := by
  obtain ⟨e0, e1, e2, e3, e4, e5⟩ := add_words m n hm hn
  have ha : ∀ (p : Bool) (i j : Nat) (w : World), (callFunc 31 #[.int .u64 (wd m i : Nat), .int .u64 (wd n j : Nat), .int .u64 (cb p)]).run Tryd.prog w =
      .ok (.value (.tuple #[.int .u64 (adw (wd m i) (wd n j) p), .int .u64 (cb (adc (wd m i) (wd n j) p))])) w := fun p i j w => add64 _ _ p (wd_lt _ _) (wd_lt _ _) w
  have ha0 : ∀ (i j : Nat) (w : World), (callFunc 31 #[.int .u64 (wd m i : Nat), .int .u64 (wd n j : Nat), .int .u64 0]).run Tryd.prog w =
      .ok (.value (.tuple #[.int .u64 (adw (wd m i) (wd n j) false), .int .u64 (cb (adc (wd m i) (wd n j) false))])) w := fun i j w => add64 _ _ false (wd_lt _ _) (wd_lt _ _) w
  clear hm hn
  go_enter Tryd.func14, Tryd.ntmps14
  go_wp2
  refine wp_loop_rounds 7 ?_
  refine rounds_step 6 ?_
  go_wp2
  go_region
  go_wp2
  refine rounds_step 5 ?_
  go_wp2
  go_region
  go_wp2
  refine rounds_step 4 ?_
  go_wp2
  go_region
  go_wp2
  refine rounds_step 3 ?_
  go_wp2
  go_region
  go_wp2
  refine rounds_step 2 ?_
  go_wp2
  go_region
  go_wp2
  refine rounds_step 1 ?_
  go_wp2
  go_region
  go_wp2
  refine rounds_step 0 ?_
  go_wp2
  refine bodyPost_ret (v := SV ((m + n) % M384)) (by simp [results, Tryd.results14, go_sem]) rfl ⟨rfl, ?_⟩
  repeat (first | exact Below.refl _ _ | refine Below.setCell ?_ (by simp <;> omega) _ | refine Below.alloc ?_ (by simp <;> omega) _ | refine Below.drew ?_)
end Go.Proofs.YtmnojohcfalodaaDoor
