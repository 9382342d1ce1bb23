/-
  What a row that lists the table of modes gives: its twelve cells.
-/
import Derived.Test.YtmnojohcfalodaaDoorA9
import Derived.Test.YtmnojohcfalodaaDoorRows
import Derived.Deep.Strs
import Derived.OpenShut
import Derived.LaidLaws
namespace Go.Proofs.YtmnojohcfalodaaDoor
set_option linter.unusedVariables false
set_option linter.unusedSimpArgs false
open Go.RowKit
theorem trod_bool {H : Type} {enc : TypeId × Value → H} {P : Program} {w : World} {base : Nat} {spare : Nat → Bool} {held : Bool} {t : TypeId} {fuel : Nat} {cs : List Value} {b : Bool} {p : List MemPlace} (ht : P.underlying t = some .bool) (h : DataW.trod enc P w base spare held fuel t cs = some (.lit (.bool b), p)) : cs = [.bool b] := by
  cases fuel with
  | zero => simp [DataW.trod] at h
  | succ m =>
    unfold DataW.trod at h
    rw [ht] at h
    split at h <;> simp_all
theorem three_bools {H : Type} {enc : TypeId × Value → H} {w : World} {base : Nat} {spare : Nat → Bool} {held : Bool} {fuel : Nat} {cs : List Value} {a b c : Bool} {p : List MemPlace}
    (h : DataW.trod enc Tryd.prog w base spare held fuel 127 cs = some (.agg [.lit (.bool a), .lit (.bool b), .lit (.bool c)], p)) : cs = [.bool a, .bool b, .bool c] := by
  have c4 : Tryd.prog.cellsOf 4 = 1 := by kernel_rfl
  have c127 : Tryd.prog.cellsOf 127 = 3 := by kernel_rfl
  obtain ⟨y0, y1, y2, n, hx, hl, h0, h1, h2⟩ := Go.Deep.trod_struct3 Tryd.underlying127 h
  obtain ⟨y0, q0⟩ := y0
  obtain ⟨y1, q1⟩ := y1
  obtain ⟨y2, q2⟩ := y2
  simp only [Prod.mk.injEq, DataW.agg.injEq, List.cons.injEq, and_true] at hx
  obtain ⟨⟨rfl, rfl, rfl⟩, _⟩ := hx
  rw [c4] at h0 h1 h2
  rw [c127] at hl
  match cs, hl with
  | [x, y, z], _ =>
    have e0 := trod_bool Tryd.underlying4 h0
    have e1 := trod_bool Tryd.underlying4 h1
    have e2 := trod_bool Tryd.underlying4 h2
    simp at e0 e1 e2
    rw [e0, e1, e2]
theorem modes_of_laid {W : World} (h : laidMetH Tryd.prog [("sluice/tally.modes", Rows.laid_sluice_tally_modes)] W) : Modes W := by
  have c127 : Tryd.prog.cellsOf 127 = 3 := by kernel_rfl
  have c128 : Tryd.prog.cellsOf 128 = 12 := by kernel_rfl
  have hg3 : Tryd.prog.globalNamed "sluice/tally.modes" = some 3 := by kernel_rfl
  have ht3 : (Tryd.prog.globals[3]?).map (·.type) = some 128 := by kernel_rfl
  obtain ⟨ps, ⟨g', t', cs, fuel, p, q, hg', ht', hvar, hd, _, _⟩, _⟩ := h
  obtain rfl := Option.some.inj (hg3.symm.trans hg')
  obtain rfl := Option.some.inj (ht3.symm.trans ht')
  obtain ⟨xs, m, _, hx, hl, hxl, hat⟩ := DataW.trod_array Tryd.underlying128 hd
  rw [c127] at hat
  rw [c128] at hl
  match xs, hxl with
  | [x0, x1, x2, x3], _ =>
    obtain ⟨x0, q0⟩ := x0
    obtain ⟨x1, q1⟩ := x1
    obtain ⟨x2, q2⟩ := x2
    obtain ⟨x3, q3⟩ := x3
    simp only [Rows.laid_sluice_tally_modes, Prod.mk.injEq, DataW.agg.injEq, List.map_cons, List.map_nil, List.cons.injEq, and_true] at hx
    obtain ⟨⟨rfl, rfl, rfl, rfl⟩, _⟩ := hx
    have a0 := three_bools (hat 0 (by decide))
    have a1 := three_bools (hat 1 (by decide))
    have a2 := three_bools (hat 2 (by decide))
    have a3 := three_bools (hat 3 (by decide))
    have hc : ∀ i, i < 12 → W.cell? ⟨3, i, none⟩ = cs[i]? := fun i _ => World.var?_cell hg3 hvar i
    obtain ⟨l⟩ := cs
    simp only at a0 a1 a2 a3 hl hc
    match l, hl with
    | [b0, b1, b2, b3, b4, b5, b6, b7, b8, b9, b10, b11], _ =>
      simp at a0 a1 a2 a3
      obtain ⟨rfl, rfl, rfl⟩ := a0
      obtain ⟨rfl, rfl, rfl⟩ := a1
      obtain ⟨rfl, rfl, rfl⟩ := a2
      obtain ⟨rfl, rfl, rfl⟩ := a3
      exact ⟨hc 0 (by decide), hc 1 (by decide), hc 2 (by decide), hc 3 (by decide), hc 4 (by decide), hc 5 (by decide), hc 6 (by decide), hc 7 (by decide), hc 8 (by decide), hc 9 (by decide), hc 10 (by decide), hc 11 (by decide)⟩
/-- a world for the witness: the settled one, the table holding what its initialiser lays -/
noncomputable def laidWorld (os : Os) : World :=
  { World.holding Tryd.prog os ⟨#[], #[], []⟩ with heap := (World.holding Tryd.prog os ⟨#[], #[], []⟩).heap.modify 3 fun
      | .cells _ t frozen => .cells #[.bool true, .bool false, .bool false, .bool false, .bool false, .bool false, .bool false, .bool true, .bool false, .bool false, .bool false, .bool true] t frozen
      | o => o }
end Go.Proofs.YtmnojohcfalodaaDoor
