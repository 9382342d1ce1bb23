/-
  Compare, by a walk.
-/
import Derived.Test.YtmnojohcfalodaaDoorA14
import Derived.Test.YtmnojohcfalodaaDoorN7
import Derived.BigQuiet
namespace Go.Proofs.YtmnojohcfalodaaDoor
set_option linter.unusedVariables false
set_option linter.unusedSimpArgs false
open Go.RowKit Go.Proofs.YtmnojohcfalodaaDoorW.PrintWords
set_option maxHeartbeats 8000000 in
set_option maxRecDepth 100000 in
theorem compare_w (a0 a1 a2 a3 a4 a5 b0 b1 b2 b3 b4 b5 x5 y5 : Nat) (hx : bits .xor .u64 (x5 : Int) 9223372036854775808 = (a5 : Nat)) (hy : bits .xor .u64 (y5 : Int) 9223372036854775808 = (b5 : Nat)) (w : World) :
    Calls Tryd.prog 15 #[.agg #[.int .u64 a0, .int .u64 a1, .int .u64 a2, .int .u64 a3, .int .u64 a4, .int .u64 x5], .agg #[.int .u64 b0, .int .u64 b1, .int .u64 b2, .int .u64 b3, .int .u64 b4, .int .u64 y5]] w fun e w' => e = .returned (.int .i64 (cmpL [a5, a4, a3, a2, a1, a0] [b5, b4, b3, b2, b1, b0])) ∧ Below w.heap.size w w' := by
  obtain ⟨R, hR⟩ : ∃ R, R = cmpL [a5, a4, a3, a2, a1, a0] [b5, b4, b3, b2, b1, b0] := ⟨_, rfl⟩
  rw [← hR]
  have HR := Aside0.mk hR
  clear hR
  go_enter Tryd.func15, Tryd.ntmps15
  go_wp2
  refine wp_loop_rounds 7 ?_
  refine rounds_step 6 ?_
  go_wp2
  rcases Nat.lt_trichotomy a5 b5 with h | h | h
  · have t1 : decide (a5 < b5) = true := by simp; omega
    have hR := HR.out
    have n0 : ¬ b5 < a5 := by omega
    simp only [cmpL, Nat.lt_irrefl, if_false, h, if_true] at hR
    subst hR
    clear HR h n0
    go_quiet (fail)
    go_wp2
    go_ret
    refine ⟨rfl, ?_⟩
    repeat (first | with_reducible exact Below.refl _ _ | ((with_reducible refine Below.setCell ?_ ?hp _); case hp => (first | omega | (simp <;> omega))) | ((with_reducible refine Below.alloc ?_ ?hp _); case hp => (first | omega | (simp <;> omega))) | (with_reducible refine Below.drew ?_) | (with_reducible apply pw_below_drewN))
  rotate_left
  · have t1 : decide (a5 < b5) = false := by simp; omega
    have t2 : decide (b5 < a5) = true := by simp; omega
    have hR := HR.out
    have n0 : ¬ a5 < b5 := by omega
    simp only [cmpL, Nat.lt_irrefl, if_false, n0, h, if_true] at hR
    subst hR
    clear HR h n0
    go_quiet (fail)
    go_wp2
    go_quiet (fail)
    go_wp2
    go_ret
    refine ⟨rfl, ?_⟩
    repeat (first | with_reducible exact Below.refl _ _ | ((with_reducible refine Below.setCell ?_ ?hp _); case hp => (first | omega | (simp <;> omega))) | ((with_reducible refine Below.alloc ?_ ?hp _); case hp => (first | omega | (simp <;> omega))) | (with_reducible refine Below.drew ?_) | (with_reducible apply pw_below_drewN))
  subst h
  have t1 : decide (a5 < a5) = false := by simp
  go_quiet (fail)
  go_wp2
  go_quiet (fail)
  go_wp2
  clear t1
  refine rounds_step 5 ?_
  go_wp2
  rcases Nat.lt_trichotomy a4 b4 with h | h | h
  · have t1 : decide (a4 < b4) = true := by simp; omega
    have hR := HR.out
    have n0 : ¬ b4 < a4 := by omega
    simp only [cmpL, Nat.lt_irrefl, if_false, h, if_true] at hR
    subst hR
    clear HR h n0
    go_quiet (fail)
    go_wp2
    go_ret
    refine ⟨rfl, ?_⟩
    repeat (first | with_reducible exact Below.refl _ _ | ((with_reducible refine Below.setCell ?_ ?hp _); case hp => (first | omega | (simp <;> omega))) | ((with_reducible refine Below.alloc ?_ ?hp _); case hp => (first | omega | (simp <;> omega))) | (with_reducible refine Below.drew ?_) | (with_reducible apply pw_below_drewN))
  rotate_left
  · have t1 : decide (a4 < b4) = false := by simp; omega
    have t2 : decide (b4 < a4) = true := by simp; omega
    have hR := HR.out
    have n0 : ¬ a4 < b4 := by omega
    simp only [cmpL, Nat.lt_irrefl, if_false, n0, h, if_true] at hR
    subst hR
    clear HR h n0
    go_quiet (fail)
    go_wp2
    go_quiet (fail)
    go_wp2
    go_ret
    refine ⟨rfl, ?_⟩
    repeat (first | with_reducible exact Below.refl _ _ | ((with_reducible refine Below.setCell ?_ ?hp _); case hp => (first | omega | (simp <;> omega))) | ((with_reducible refine Below.alloc ?_ ?hp _); case hp => (first | omega | (simp <;> omega))) | (with_reducible refine Below.drew ?_) | (with_reducible apply pw_below_drewN))
  subst h
  have t1 : decide (a4 < a4) = false := by simp
  go_quiet (fail)
  go_wp2
  go_quiet (fail)
  go_wp2
  clear t1
  refine rounds_step 4 ?_
  go_wp2
  rcases Nat.lt_trichotomy a3 b3 with h | h | h
  · have t1 : decide (a3 < b3) = true := by simp; omega
    have hR := HR.out
    have n0 : ¬ b3 < a3 := by omega
    simp only [cmpL, Nat.lt_irrefl, if_false, h, if_true] at hR
    subst hR
    clear HR h n0
    go_quiet (fail)
    go_wp2
    go_ret
    refine ⟨rfl, ?_⟩
    repeat (first | with_reducible exact Below.refl _ _ | ((with_reducible refine Below.setCell ?_ ?hp _); case hp => (first | omega | (simp <;> omega))) | ((with_reducible refine Below.alloc ?_ ?hp _); case hp => (first | omega | (simp <;> omega))) | (with_reducible refine Below.drew ?_) | (with_reducible apply pw_below_drewN))
  rotate_left
  · have t1 : decide (a3 < b3) = false := by simp; omega
    have t2 : decide (b3 < a3) = true := by simp; omega
    have hR := HR.out
    have n0 : ¬ a3 < b3 := by omega
    simp only [cmpL, Nat.lt_irrefl, if_false, n0, h, if_true] at hR
    subst hR
    clear HR h n0
    go_quiet (fail)
    go_wp2
    go_quiet (fail)
    go_wp2
    go_ret
    refine ⟨rfl, ?_⟩
    repeat (first | with_reducible exact Below.refl _ _ | ((with_reducible refine Below.setCell ?_ ?hp _); case hp => (first | omega | (simp <;> omega))) | ((with_reducible refine Below.alloc ?_ ?hp _); case hp => (first | omega | (simp <;> omega))) | (with_reducible refine Below.drew ?_) | (with_reducible apply pw_below_drewN))
  subst h
  have t1 : decide (a3 < a3) = false := by simp
  go_quiet (fail)
  go_wp2
  go_quiet (fail)
  go_wp2
  clear t1
  refine rounds_step 3 ?_
  go_wp2
  rcases Nat.lt_trichotomy a2 b2 with h | h | h
  · have t1 : decide (a2 < b2) = true := by simp; omega
    have hR := HR.out
    have n0 : ¬ b2 < a2 := by omega
    simp only [cmpL, Nat.lt_irrefl, if_false, h, if_true] at hR
    subst hR
    clear HR h n0
    go_quiet (fail)
    go_wp2
    go_ret
    refine ⟨rfl, ?_⟩
    repeat (first | with_reducible exact Below.refl _ _ | ((with_reducible refine Below.setCell ?_ ?hp _); case hp => (first | omega | (simp <;> omega))) | ((with_reducible refine Below.alloc ?_ ?hp _); case hp => (first | omega | (simp <;> omega))) | (with_reducible refine Below.drew ?_) | (with_reducible apply pw_below_drewN))
  rotate_left
  · have t1 : decide (a2 < b2) = false := by simp; omega
    have t2 : decide (b2 < a2) = true := by simp; omega
    have hR := HR.out
    have n0 : ¬ a2 < b2 := by omega
    simp only [cmpL, Nat.lt_irrefl, if_false, n0, h, if_true] at hR
    subst hR
    clear HR h n0
    go_quiet (fail)
    go_wp2
    go_quiet (fail)
    go_wp2
    go_ret
    refine ⟨rfl, ?_⟩
    repeat (first | with_reducible exact Below.refl _ _ | ((with_reducible refine Below.setCell ?_ ?hp _); case hp => (first | omega | (simp <;> omega))) | ((with_reducible refine Below.alloc ?_ ?hp _); case hp => (first | omega | (simp <;> omega))) | (with_reducible refine Below.drew ?_) | (with_reducible apply pw_below_drewN))
  subst h
  have t1 : decide (a2 < a2) = false := by simp
  go_quiet (fail)
  go_wp2
  go_quiet (fail)
  go_wp2
  clear t1
  refine rounds_step 2 ?_
  go_wp2
  rcases Nat.lt_trichotomy a1 b1 with h | h | h
  · have t1 : decide (a1 < b1) = true := by simp; omega
    have hR := HR.out
    have n0 : ¬ b1 < a1 := by omega
    simp only [cmpL, Nat.lt_irrefl, if_false, h, if_true] at hR
    subst hR
    clear HR h n0
    go_quiet (fail)
    go_wp2
    go_ret
    refine ⟨rfl, ?_⟩
    repeat (first | with_reducible exact Below.refl _ _ | ((with_reducible refine Below.setCell ?_ ?hp _); case hp => (first | omega | (simp <;> omega))) | ((with_reducible refine Below.alloc ?_ ?hp _); case hp => (first | omega | (simp <;> omega))) | (with_reducible refine Below.drew ?_) | (with_reducible apply pw_below_drewN))
  rotate_left
  · have t1 : decide (a1 < b1) = false := by simp; omega
    have t2 : decide (b1 < a1) = true := by simp; omega
    have hR := HR.out
    have n0 : ¬ a1 < b1 := by omega
    simp only [cmpL, Nat.lt_irrefl, if_false, n0, h, if_true] at hR
    subst hR
    clear HR h n0
    go_quiet (fail)
    go_wp2
    go_quiet (fail)
    go_wp2
    go_ret
    refine ⟨rfl, ?_⟩
    repeat (first | with_reducible exact Below.refl _ _ | ((with_reducible refine Below.setCell ?_ ?hp _); case hp => (first | omega | (simp <;> omega))) | ((with_reducible refine Below.alloc ?_ ?hp _); case hp => (first | omega | (simp <;> omega))) | (with_reducible refine Below.drew ?_) | (with_reducible apply pw_below_drewN))
  subst h
  have t1 : decide (a1 < a1) = false := by simp
  go_quiet (fail)
  go_wp2
  go_quiet (fail)
  go_wp2
  clear t1
  refine rounds_step 1 ?_
  go_wp2
  rcases Nat.lt_trichotomy a0 b0 with h | h | h
  · have t1 : decide (a0 < b0) = true := by simp; omega
    have hR := HR.out
    have n0 : ¬ b0 < a0 := by omega
    simp only [cmpL, Nat.lt_irrefl, if_false, h, if_true] at hR
    subst hR
    clear HR h n0
    go_quiet (fail)
    go_wp2
    go_ret
    refine ⟨rfl, ?_⟩
    repeat (first | with_reducible exact Below.refl _ _ | ((with_reducible refine Below.setCell ?_ ?hp _); case hp => (first | omega | (simp <;> omega))) | ((with_reducible refine Below.alloc ?_ ?hp _); case hp => (first | omega | (simp <;> omega))) | (with_reducible refine Below.drew ?_) | (with_reducible apply pw_below_drewN))
  rotate_left
  · have t1 : decide (a0 < b0) = false := by simp; omega
    have t2 : decide (b0 < a0) = true := by simp; omega
    have hR := HR.out
    have n0 : ¬ a0 < b0 := by omega
    simp only [cmpL, Nat.lt_irrefl, if_false, n0, h, if_true] at hR
    subst hR
    clear HR h n0
    go_quiet (fail)
    go_wp2
    go_quiet (fail)
    go_wp2
    go_ret
    refine ⟨rfl, ?_⟩
    repeat (first | with_reducible exact Below.refl _ _ | ((with_reducible refine Below.setCell ?_ ?hp _); case hp => (first | omega | (simp <;> omega))) | ((with_reducible refine Below.alloc ?_ ?hp _); case hp => (first | omega | (simp <;> omega))) | (with_reducible refine Below.drew ?_) | (with_reducible apply pw_below_drewN))
  subst h
  have t1 : decide (a0 < a0) = false := by simp
  go_quiet (fail)
  go_wp2
  go_quiet (fail)
  go_wp2
  clear t1
  refine rounds_step 0 ?_
  go_wp2
  go_ret
  have hR := HR.out
  simp only [cmpL, Nat.lt_irrefl, if_false] at hR
  subst hR
  refine ⟨rfl, ?_⟩
  repeat (first | with_reducible exact Below.refl _ _ | ((with_reducible refine Below.setCell ?_ ?hp _); case hp => (first | omega | (simp <;> omega))) | ((with_reducible refine Below.alloc ?_ ?hp _); case hp => (first | omega | (simp <;> omega))) | (with_reducible refine Below.drew ?_) | (with_reducible apply pw_below_drewN))
theorem compare_any (m n : Nat) (hm : m < M384) (hn : n < M384) (w : World) :
    Calls Tryd.prog 15 #[SV m, SV n] w fun e w' => e = .returned (.int .i64 (cmpI (sv m) (sv n))) ∧ Below w.heap.size w w' := by
  have k1 := key_words m hm
  have k2 := key_words n hn
  have h := compare_w (wd m 0) (wd m 1) (wd m 2) (wd m 3) (wd m 4) (wd (key m) 5) (wd n 0) (wd n 1) (wd n 2) (wd n 3) (wd n 4) (wd (key n) 5) (wd m 5) (wd n 5) (by rw [bxor_top _ (wd_lt _ _), k1.1]) (by rw [bxor_top _ (wd_lt _ _), k2.1]) w
  rw [← k1.2 0 (by decide), ← k1.2 1 (by decide), ← k1.2 2 (by decide), ← k1.2 3 (by decide), ← k1.2 4 (by decide), ← k2.2 0 (by decide), ← k2.2 1 (by decide), ← k2.2 2 (by decide), ← k2.2 3 (by decide), ← k2.2 4 (by decide), cmp_words _ _ (key_lt _) (key_lt _), cmp_key m n hm hn] at h
  rw [k1.2 0 (by decide), k1.2 1 (by decide), k1.2 2 (by decide), k1.2 3 (by decide), k1.2 4 (by decide), k2.2 0 (by decide), k2.2 1 (by decide), k2.2 2 (by decide), k2.2 3 (by decide), k2.2 4 (by decide)] at h
  exact h
end Go.Proofs.YtmnojohcfalodaaDoor
