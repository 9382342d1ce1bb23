/-
  Rounding: the table of modes, apart and raised, by walks.
-/
import Derived.Test.YtmnojohcfalodaaDoorA8
import Derived.Test.YtmnojohcfalodaaDoorNa
namespace Go.Proofs.YtmnojohcfalodaaDoor
set_option linter.unusedVariables false
set_option linter.unusedSimpArgs false
open Go.RowKit
/-- the table of modes lies in its variable -/
structure Modes (w : World) : Prop where
  c0 : w.cell? ⟨3, 0, none⟩ = some (.bool true)
  c1 : w.cell? ⟨3, 1, none⟩ = some (.bool false)
  c2 : w.cell? ⟨3, 2, none⟩ = some (.bool false)
  c3 : w.cell? ⟨3, 3, none⟩ = some (.bool false)
  c4 : w.cell? ⟨3, 4, none⟩ = some (.bool false)
  c5 : w.cell? ⟨3, 5, none⟩ = some (.bool false)
  c6 : w.cell? ⟨3, 6, none⟩ = some (.bool false)
  c7 : w.cell? ⟨3, 7, none⟩ = some (.bool true)
  c8 : w.cell? ⟨3, 8, none⟩ = some (.bool false)
  c9 : w.cell? ⟨3, 9, none⟩ = some (.bool false)
  c10 : w.cell? ⟨3, 10, none⟩ = some (.bool false)
  c11 : w.cell? ⟨3, 11, none⟩ = some (.bool true)
theorem Modes.lt {w : World} (h : Modes w) : 3 < w.heap.size := World.block_lt_of_cell? w ⟨3, 0, none⟩ h.c0
theorem Modes.keep {w w' : World} {B : Nat} (h : Modes w) (hb : Below B w w') (hB : 3 < B) : Modes w' := by
  have e : ∀ i, w'.cell? ⟨3, i, none⟩ = w.cell? ⟨3, i, none⟩ := fun i => hb.cell (p := ⟨3, i, none⟩) hB
  exact ⟨by rw [e, h.c0], by rw [e, h.c1], by rw [e, h.c2], by rw [e, h.c3], by rw [e, h.c4], by rw [e, h.c5], by rw [e, h.c6], by rw [e, h.c7], by rw [e, h.c8], by rw [e, h.c9], by rw [e, h.c10], by rw [e, h.c11]⟩

set_option maxRecDepth 100000 in
set_option maxHeartbeats 8000000 in
theorem raised_any (mode : Nat) (hm : mode ≤ 3) (neg last half rest : Bool) (w : World) (hM : Modes w) :
    Calls Tryd.prog 62 #[.int .i64 mode, .bool neg, .bool last, .bool half, .bool rest] w fun e w' => e = .returned (.bool (raisedB mode neg last half rest)) ∧ Below w.heap.size w w' := by
  obtain ⟨c0, c1, c2, c3, c4, c5, c6, c7, c8, c9, c10, c11⟩ := hM
  obtain rfl | rfl | rfl | rfl : mode = 0 ∨ mode = 1 ∨ mode = 2 ∨ mode = 3 := by omega
  all_goals
    clear hm
    cases neg <;> cases last <;> cases half <;> cases rest
  all_goals
    go_enter Tryd.func62, Tryd.ntmps62
    go_wp2
    go_ret
    exact ⟨rfl, by repeat (first | with_reducible exact Below.refl _ _ | ((with_reducible refine Below.setCell ?_ ?hp _); case hp => (simp <;> omega)) | ((with_reducible refine Below.alloc ?_ ?hp _); case hp => (simp <;> omega)))⟩
end Go.Proofs.YtmnojohcfalodaaDoor
