/-
  Two sums held against each other, word by word.
-/
import Derived.Test.YtmnojohcfalodaaDoorA1
namespace Go.Proofs.YtmnojohcfalodaaDoor
set_option linter.unusedVariables false
set_option linter.unusedSimpArgs false
open Go.RowKit
theorem run_forIn_all {P : Program} (l : List Nat) (body : Nat → (Option Bool × Unit) → Sem (ForInStep (Option Bool × Unit))) (f : Nat → Bool) (w : World)
    (hb : ∀ i ∈ l, (body i (none, ())).run P w = .ok (if f i then .yield (none, ()) else .done (some false, ())) w) :
    (forIn l (none, ()) body).run P w = .ok (if l.all f then (none, ()) else (some false, ())) w := by
  induction l with
  | nil => simp
  | cons i l ih =>
    rw [List.forIn_cons, Sem.run_bind, hb i (by simp)]
    simp only [Result.andThen_ok]
    by_cases h : f i = true
    · rw [if_pos h]
      simp only [List.all_cons, h, Bool.true_and]
      exact ih (fun j hj => hb j (by simp [hj]))
    · rw [if_neg h]
      simp [h]
theorem size25 (w : World) : (sizeOf 25).run Tryd.prog w = .ok 1 w := by kernel_rfl
theorem part25 (xs : Array Value) (i : Nat) (v : Value) (h : xs[i]? = some v) (w : World) : (part 25 xs i).run Tryd.prog w = .ok v w := by
  have ha : (isAgg 25).run Tryd.prog w = .ok false w := by kernel_rfl
  simp [part, ha, h]
theorem run_equalIn_sum (d : Nat) (a0 a1 a2 a3 a4 a5 b0 b1 b2 b3 b4 b5 : Int) (w : World) :
    (Op.equalIn (d + 2) 27 (.agg #[.int .u64 a0, .int .u64 a1, .int .u64 a2, .int .u64 a3, .int .u64 a4, .int .u64 a5]) (.agg #[.int .u64 b0, .int .u64 b1, .int .u64 b2, .int .u64 b3, .int .u64 b4, .int .u64 b5])).run Tryd.prog w =
      .ok (a0 == b0 && (a1 == b1 && (a2 == b2 && (a3 == b3 && (a4 == b4 && a5 == b5))))) w := by
  rw [Op.equalIn]
  simp only [Sem.run_bind, run_underlying Tryd.underlying27, Result.andThen_ok, size25]
  rw [Std.Legacy.Range.forIn_eq_forIn_range', show List.range' [:6].start [:6].size [:6].step = [0, 1, 2, 3, 4, 5] by decide]
  rw [run_forIn_all _ _ (fun i => [a0 == b0, a1 == b1, a2 == b2, a3 == b3, a4 == b4, a5 == b5].getD i false)]
  · simp only [Result.andThen_ok, List.all_cons, List.all_nil, Bool.and_true, List.getD_cons_zero, List.getD_cons_succ]
    generalize (a0 == b0 && (a1 == b1 && (a2 == b2 && (a3 == b3 && (a4 == b4 && a5 == b5))))) = c
    cases c <;> rfl
  · intro i hi
    have step : ∀ (a b : Int) (i : Nat), (#[Value.int .u64 a0, .int .u64 a1, .int .u64 a2, .int .u64 a3, .int .u64 a4, .int .u64 a5])[i * 1]? = some (.int .u64 a) →
        (#[Value.int .u64 b0, .int .u64 b1, .int .u64 b2, .int .u64 b3, .int .u64 b4, .int .u64 b5])[i * 1]? = some (.int .u64 b) →
        ((do
            let x ← part 25 #[.int .u64 a0, .int .u64 a1, .int .u64 a2, .int .u64 a3, .int .u64 a4, .int .u64 a5] (i * 1)
            let y ← part 25 #[.int .u64 b0, .int .u64 b1, .int .u64 b2, .int .u64 b3, .int .u64 b4, .int .u64 b5] (i * 1)
            let r ← Op.equalIn (d + 1) 25 x y
            if (!r) = true then pure (ForInStep.done (some false, ())) else pure (ForInStep.yield (none, ()))) : Sem (ForInStep (Option Bool × Unit))).run Tryd.prog w =
          .ok (if (a == b) = true then ForInStep.yield (none, ()) else ForInStep.done (some false, ())) w := by
      intro a b i h1 h2
      simp only [Sem.run_bind, part25 _ _ _ h1, part25 _ _ _ h2, Result.andThen_ok, run_equalIn_int (P := Tryd.prog) w d 25 .u64 .u64 a b Tryd.underlying25]
      cases a == b <;> rfl
    simp only [List.mem_cons, List.not_mem_nil, or_false] at hi
    rcases hi with rfl | rfl | rfl | rfl | rfl | rfl
    · exact step a0 b0 0 rfl rfl
    · exact step a1 b1 1 rfl rfl
    · exact step a2 b2 2 rfl rfl
    · exact step a3 b3 3 rfl rfl
    · exact step a4 b4 4 rfl rfl
    · exact step a5 b5 5 rfl rfl
theorem words_beq (m n : Nat) (hm : m < M384) (hn : n < M384) :
    (((wd m 0 : Nat) : Int) == (wd n 0 : Nat) && (((wd m 1 : Nat) : Int) == (wd n 1 : Nat) && (((wd m 2 : Nat) : Int) == (wd n 2 : Nat) && (((wd m 3 : Nat) : Int) == (wd n 3 : Nat) && (((wd m 4 : Nat) : Int) == (wd n 4 : Nat) && ((wd m 5 : Nat) : Int) == (wd n 5 : Nat)))))) = decide (m = n) := by
  rw [Bool.eq_iff_iff]
  simp only [Bool.and_eq_true, beq_iff_eq, decide_eq_true_eq]
  constructor
  · rintro ⟨h0, h1, h2, h3, h4, h5⟩
    exact wd_ext m n hm hn (by omega) (by omega) (by omega) (by omega) (by omega) (by omega)
  · rintro rfl; simp
/-- '==' on two sums -/
theorem run_eql_sum (m n : Nat) (hm : m < M384) (hn : n < M384) (w : World) : (binOp .eql 27 (SV m) (SV n)).run Tryd.prog w = .ok (.bool (decide (m = n))) w := by
  rw [run_eql_struct, show (10000 : Nat) = 9998 + 2 from rfl, run_equalIn_sum, words_beq m n hm hn]
  rfl
theorem wd_zero (i : Nat) : wd 0 i = 0 := by simp [wd]
theorem SV_zero : (.agg #[.int .u64 0, .int .u64 0, .int .u64 0, .int .u64 0, .int .u64 0, .int .u64 0] : Value) = SV 0 := by
  simp only [SV, wd_zero]; rfl
/-- '==' against the empty sum -/
theorem run_eql_zero (n : Nat) (hn : n < M384) (w : World) : (binOp .eql 27 (SV n) (.agg #[.int .u64 0, .int .u64 0, .int .u64 0, .int .u64 0, .int .u64 0, .int .u64 0])).run Tryd.prog w = .ok (.bool (decide (n = 0))) w := by
  rw [SV_zero]; exact run_eql_sum n 0 hn (by decide) w
theorem run_neq_sum (m n : Nat) (hm : m < M384) (hn : n < M384) (w : World) : (binOp .neq 27 (SV m) (SV n)).run Tryd.prog w = .ok (.bool (!decide (m = n))) w := by
  rw [run_neq_struct, show (10000 : Nat) = 9998 + 2 from rfl, run_equalIn_sum, words_beq m n hm hn]
  rfl
theorem run_neq_zero (n : Nat) (hn : n < M384) (w : World) : (binOp .neq 27 (SV n) (.agg #[.int .u64 0, .int .u64 0, .int .u64 0, .int .u64 0, .int .u64 0, .int .u64 0])).run Tryd.prog w = .ok (.bool (!decide (n = 0))) w := by
  rw [SV_zero]; exact run_neq_sum n 0 hn (by decide) w
end Go.Proofs.YtmnojohcfalodaaDoor
