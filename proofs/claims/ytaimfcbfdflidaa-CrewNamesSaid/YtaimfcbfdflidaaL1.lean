/-
  What the calls with nil answer.
-/
import Derived.Test.YtaimfcbfdflidaaRows
import Derived.WalkKit
import Derived.WalkSpells
import Derived.WalkLawsBesides
import Derived.Below
import Derived.Outline
import Derived.KernelRfl
import Derived.Laws.EntriesVeiled
namespace Go.Proofs.Ytaimfcbfdflidaa
set_option linter.unusedVariables false
set_option linter.unusedSimpArgs false
open Go.RowKit
theorem nf_neq45 (w : World) : (binOp .neq 45 .nilFunc .nilFunc).run Try.prog w = .ok (.bool false) w := by kernel_rfl
theorem nf_neq53 (w : World) : (binOp .neq 53 .nilFunc .nilFunc).run Try.prog w = .ok (.bool false) w := by kernel_rfl
theorem nf_neq58 (w : World) : (binOp .neq 58 .nilFunc .nilFunc).run Try.prog w = .ok (.bool false) w := by kernel_rfl
theorem nf_neq60 (w : World) : (binOp .neq 60 .nilFunc .nilFunc).run Try.prog w = .ok (.bool false) w := by kernel_rfl
theorem nf_neq32 (w : World) : (binOp .neq 32 .nilFunc .nilFunc).run Try.prog w = .ok (.bool false) w := by kernel_rfl
theorem num9 (u : Int) (w : World) : Calls Try.prog 9 #[.int .i64 u] w fun e w' => e = .returned (.int .i64 u) ∧ w = w' := by
  go_enter Try.func9, Try.ntmps9
  go_wp2
  go_ret
  exact ⟨rfl, rfl⟩
theorem may_nil (k : Int) (w : World) : Calls Try.prog 16 #[.bool false, .int .i64 k] w fun e w' => e = .returned (.int .i64 1) ∧ w = w' := by
  go_enter Try.func16, Try.ntmps16
  go_wp2
  go_ret
  exact ⟨rfl, rfl⟩
set_option maxRecDepth 100000 in
theorem map_nil (k : Int) (a : Option Addr) (n c : Nat) (w : World) : Calls Try.prog 5 #[.int .i64 k, .slice a n c, .nilFunc] w fun e w' => e = .returned (.tuple #[.slice none 0 0, .int .i64 0, .int .i64 1]) ∧ Below w.heap.size w w' := by
  have hq45 := nf_neq45
  have hq53 := nf_neq53
  have hq58 := nf_neq58
  go_enter Try.func5, Try.ntmps5
  go_wp2_with (go_at_call 16; refine (may_nil _ _).mono ?_; rintro e w' ⟨rfl, rfl⟩)
  go_ret3
  exact ⟨rfl, by repeat (first | exact Below.refl _ _ | refine Below.drew ?_ | refine Below.alloc ?_ (by first | omega | (simp <;> omega)) _)⟩
set_option maxRecDepth 100000 in
theorem reduce_nil (k : Int) (a : Option Addr) (n c : Nat) (w : World) : Calls Try.prog 6 #[.int .i64 k, .slice a n c, .nilFunc] w fun e w' => e = .returned (.tuple #[.int .i64 0, .int .i64 1]) ∧ Below w.heap.size w w' := by
  have hq45 := nf_neq45
  have hq53 := nf_neq53
  have hq58 := nf_neq58
  go_enter Try.func6, Try.ntmps6
  go_wp2_with (go_at_call 16; refine (may_nil _ _).mono ?_; rintro e w' ⟨rfl, rfl⟩)
  go_ret2
  exact ⟨rfl, by repeat (first | exact Below.refl _ _ | refine Below.drew ?_ | refine Below.alloc ?_ (by first | omega | (simp <;> omega)) _)⟩
set_option maxRecDepth 100000 in
theorem spans_nil (k n s : Int) (w : World) : Calls Try.prog 7 #[.int .i64 k, .int .i64 n, .int .i64 s, .nilFunc] w fun e w' => e = .returned (.tuple #[.int .i64 0, .int .i64 1]) ∧ Below w.heap.size w w' := by
  have hq45 := nf_neq45
  have hq53 := nf_neq53
  have hq58 := nf_neq58
  go_enter Try.func7, Try.ntmps7
  go_wp2_with (go_at_call 16; refine (may_nil _ _).mono ?_; rintro e w' ⟨rfl, rfl⟩)
  go_ret2
  exact ⟨rfl, by repeat (first | exact Below.refl _ _ | refine Below.drew ?_ | refine Below.alloc ?_ (by first | omega | (simp <;> omega)) _)⟩
set_option maxRecDepth 100000 in
theorem pipe_nil (k a : Int) (w : World) : Calls Try.prog 8 #[.int .i64 k, .int .i64 a, .nilFunc, .nilFunc, .nilFunc] w fun e w' => e = .returned (.tuple #[.int .i64 0, .int .i64 1]) ∧ Below w.heap.size w w' := by
  have hq45 := nf_neq45
  have hq53 := nf_neq53
  have hq58 := nf_neq58
  go_enter Try.func8, Try.ntmps8
  go_wp2_with (go_at_call 16; refine (may_nil _ _).mono ?_; rintro e w' ⟨rfl, rfl⟩)
  go_ret2
  exact ⟨rfl, by repeat (first | exact Below.refl _ _ | refine Below.drew ?_ | refine Below.alloc ?_ (by first | omega | (simp <;> omega)) _)⟩
end Go.Proofs.Ytaimfcbfdflidaa
