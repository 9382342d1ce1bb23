/-
  Over of nil: the iterator that it answers, and what that one yields.
-/
import Derived.Test.YtaimfcbfdflidaaL1
import Derived.RangeFuncNested
import Derived.RangeFuncBound
import Derived.RangeFuncCalls
import Derived.RangeFuncLeaves
import Derived.Shelf.Abstract
import Derived.Shelf.RegionOpen
import Derived.OwnWalkIn
import Derived.TacticsInMore
import Derived.LoopNIn
import Derived.LoopIn
namespace Go.Proofs.Ytaimfcbfdflidaa
set_option linter.unusedVariables false
set_option linter.unusedSimpArgs false
open Go.RowKit Go.Shelf
attribute [local go_sem] Oper.semAt_some
theorem over_nil (w : World) : Calls Try.prog 10 #[.int .i64 1, .int .i64 1, .nilFunc, .nilFunc] w fun e w' => e = .returned (.func (.func 30) #[] #[.pointer (some ⟨w.heap.size + 1 + 1, 0, none⟩), .pointer (some ⟨w.heap.size + 1 + 1 + 1, 0, none⟩), .pointer (some ⟨w.heap.size, 0, none⟩), .pointer (some ⟨w.heap.size + 1, 0, none⟩)]) ∧ w' = (((w.alloc (.cells #[.int .i64 1] 3)).alloc (.cells #[.int .i64 1] 3)).alloc (.cells #[.nilFunc] 60)).alloc (.cells #[.nilFunc] 45) := by
  go_enter Try.func10, Try.ntmps10
  go_wp2
  go_ret
  exact ⟨by simp, rfl⟩
set_option maxRecDepth 100000 in
theorem over_stops (n : Nat) (hn : 2 ≤ n) (l b0 b1 b2 b3 n₀ : Nat) (J Jx : List Unit → World → Prop)
    (hY : ∀ pre x W, J pre W → pre.length < 1 → YieldAt Fence.wide (n - 1) Try.prog l #[.int .i64 0, .int .i64 1] W fun e W' =>
      (e = .returned (.bool true) ∧ J (pre ++ [x]) W' ∧ Below n₀ W W') ∨ (e = .returned (.bool false) ∧ Jx (pre ++ [x]) W'))
    (W : World) (hc2 : W.cell? ⟨b2, 0, none⟩ = some .nilFunc) (hc0 : W.cell? ⟨b0, 0, none⟩ = some (.int .i64 1)) (h0 : J [] W) (hJ : AbidesFrom W.heap.size J) :
    CallsIn Fence.wide n Try.prog 30 #[.func (.yield l) #[] #[], .pointer (some ⟨b2, 0, none⟩), .pointer (some ⟨b3, 0, none⟩), .pointer (some ⟨b0, 0, none⟩), .pointer (some ⟨b1, 0, none⟩)] W fun e W' => (∃ v, e = .returned v) ∧
      ((∃ ys : List Unit, ys = [()] ∧ J ys W') ∨ (∃ pre : List Unit, pre = [()] ∧ Jx pre W')) := by
  have hl2 := World.block_lt_of_cell? W ⟨b2, 0, none⟩ hc2
  have hl0 := World.block_lt_of_cell? W ⟨b0, 0, none⟩ hc0
  have hl2' : b2 < W.heap.size := hl2
  have hl0' : b0 < W.heap.size := hl0
  have hn2 : ¬ b2 = W.heap.size := by omega
  have hn0 : ¬ b0 = W.heap.size := by omega
  clear hl2 hl0
  have hJ1 : J [] (W.alloc (.cells #[.func (.yield l) #[] #[]] 61)) := hJ [] W _ none h0 (World.grownBy_alloc W _ none) (fun r e => by cases e)
  obtain ⟨fn, tmps, assign, body, hy, hR⟩ := hY [] () _ hJ1 (by simp)
  clear hY hJ h0 hJ1
  refine callsIn_of_wp Try.func30 rfl trivial ?_ rfl
  simp only [Try.ntmps30, List.size_toArray, List.length_cons, List.length_nil, Nat.reduceAdd, Nat.reduceSub, Array.replicate_succ, Array.replicate_zero, List.push_toArray, List.append_toArray, List.nil_append, List.cons_append]
  have hq60 := nf_neq60
  have hq45 := nf_neq45
  gi_wp2_with (refine ⟨trivial, (fun h => (by cases h)), ?_⟩; gi_at_call 16; refine (callsIn_wide.2 (may_nil _ _)).mono ?_; rintro e w' ⟨rfl, rfl⟩)
  refine ⟨(fun h => (by cases h)), ?_⟩
  refine hR.mono ?_
  rintro e W' (⟨rfl, hJ', hk⟩ | ⟨rfl, hJx'⟩)
  · gi_wp2
    refine bodyPost_ret (results_none rfl _ _ _) rfl ?_
    exact ⟨⟨_, rfl⟩, .inl ⟨_, rfl, hJ'⟩⟩
  · gi_wp2
    refine bodyPost_ret (results_none rfl _ _ _) rfl ?_
    exact ⟨⟨_, rfl⟩, .inr ⟨_, rfl, hJx'⟩⟩
end Go.Proofs.Ytaimfcbfdflidaa
