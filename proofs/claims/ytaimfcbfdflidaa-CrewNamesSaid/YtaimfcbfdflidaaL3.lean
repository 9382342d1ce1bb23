/-
  CrewNames, by a walk.
-/
import Derived.Test.YtaimfcbfdflidaaL2
import Derived.RangeFuncFrom
import Derived.RangeFuncKeeps
import Derived.RangeFuncBox
import Derived.Lib.Hide
import Derived.KernelRfl
namespace Go.Proofs.Ytaimfcbfdflidaa
set_option linter.unusedVariables false
set_option linter.unusedSimpArgs false
open Go.RowKit Go.Shelf
attribute [local go_sem] Oper.semAt_some
theorem kept_to {W w1 : World} (hb : Below W.heap.size W w1) (N : Nat) (hN : N ≤ W.heap.size) : (∀ b o, b < N → w1.cell? ⟨b, o, none⟩ = W.cell? ⟨b, o, none⟩) ∧ (∀ b o, b < N → w1.frozen? ⟨b, o, none⟩ = W.frozen? ⟨b, o, none⟩) ∧ N ≤ w1.heap.size :=
  ⟨fun b o h => hb.cell (p := ⟨b, o, none⟩) (Nat.lt_of_lt_of_le h hN), fun b o h => hb.frozen (p := ⟨b, o, none⟩) (Nat.lt_of_lt_of_le h hN), Nat.le_trans hN hb.size⟩
/-- what the row of results holds all the while -/
def Res (r : Nat) (W : World) : Prop := W.cell? ⟨r, 0, none⟩ = some (.bool false) ∧ W.frozen? ⟨r, 0, none⟩ = false
theorem Res.keep {r : Nat} {W W' : World} (h : Res r W) (hb : Below W.heap.size W W') : Res r W' := by
  have hl : r < W.heap.size := World.block_lt_of_cell? W ⟨r, 0, none⟩ h.1
  exact ⟨(hb.cell (p := ⟨r, 0, none⟩) hl).trans h.1, (hb.frozen (p := ⟨r, 0, none⟩) hl).trans h.2⟩
theorem res_new (w : World) : Res w.heap.size (w.alloc (.cells #[.bool false] 4)) := by constructor <;> simp
theorem Res.alloc {r : Nat} {W : World} (h : Res r W) (o : Obj) : Res r (W.alloc o) := h.keep ((Below.refl _ W).alloc (Nat.le_refl _) o)
theorem Res.drew {r : Nat} {W : World} (h : Res r W) : Res r W.drew := h
theorem nf_eql32 (lb : Array Value) (w : World) : (binOp .eql 32 (.func (.func 30) #[] lb) .nilFunc).run Try.prog w = .ok (.bool false) w := by kernel_rfl
set_option maxRecDepth 100000 in
theorem crewNames_any (w : World) : Calls Try.prog 3 #[] w fun e w' => e = .returned (.bool true) ∧ Below w.heap.size w w' := by
  have HN := Lib.hid (fun u W => num9 u W)
  refine (callsIn_wide (n := 5)).1 ?_
  refine callsIn_of_wp_marks Try.func3 rfl trivial ?_ rfl
  simp only [Try.ntmps3, List.size_toArray, List.length_cons, List.length_nil, Nat.reduceAdd, Nat.reduceSub, Array.replicate_succ, Array.replicate_zero, List.push_toArray, List.append_toArray, List.nil_append, List.cons_append]
  have hq := nf_eql32
  gi_wp2_with (first | (refine ⟨trivial, ?_⟩; gi_at_call 5; refine (callsIn_wide.2 (map_nil _ _ _ _ _)).mono ?_; rintro e w1 ⟨rfl, hb1⟩; have R1 : Res w.heap.size w1 := Res.keep (by repeat (first | exact res_new _ | exact ⟨by assumption, by assumption⟩ | refine Res.alloc ?_ _ | refine Res.drew ?_)) hb1; obtain ⟨r1, f1⟩ := R1; have HB1 := Lib.hid hb1; have s1 := hb1.size; clear hb1) | (refine ⟨trivial, ?_⟩; gi_at_call 6; refine (callsIn_wide.2 (reduce_nil _ _ _ _ _)).mono ?_; rintro e w2 ⟨rfl, hb2⟩; have R2 : Res w.heap.size w2 := Res.keep (by repeat (first | exact res_new _ | exact ⟨by assumption, by assumption⟩ | refine Res.alloc ?_ _ | refine Res.drew ?_)) hb2; obtain ⟨r2, f2⟩ := R2; have HB2 := Lib.hid hb2; have s2 := hb2.size; (try simp at s2); clear hb2) | (refine ⟨trivial, ?_⟩; gi_at_call 7; refine (callsIn_wide.2 (spans_nil _ _ _ _)).mono ?_; rintro e w3 ⟨rfl, hb3⟩; have R3 : Res w.heap.size w3 := Res.keep (by repeat (first | exact res_new _ | exact ⟨by assumption, by assumption⟩ | refine Res.alloc ?_ _ | refine Res.drew ?_)) hb3; obtain ⟨r3, f3⟩ := R3; have HB3 := Lib.hid hb3; have s3 := hb3.size; (try simp at s3); clear hb3) | (refine ⟨trivial, ?_⟩; gi_at_call 8; refine (callsIn_wide.2 (pipe_nil _ _ _)).mono ?_; rintro e w4 ⟨rfl, hb4⟩; have R4 : Res w.heap.size w4 := Res.keep (by repeat (first | exact res_new _ | exact ⟨by assumption, by assumption⟩ | refine Res.alloc ?_ _ | refine Res.drew ?_)) hb4; obtain ⟨r4, f4⟩ := R4; have HB4 := Lib.hid hb4; have s4 := hb4.size; (try simp at s4); clear hb4) | (refine ⟨trivial, ?_⟩; gi_at_call 9; refine (callsIn_wide.2 (HN.out _ _)).mono ?_; rintro e W ⟨rfl, rfl⟩) | (refine ⟨trivial, ?_⟩; gi_at_call 10; refine (callsIn_wide.2 (over_nil _)).mono ?_; rintro e W ⟨rfl, rfl⟩))
  have hT : Below w4.heap.size w4 (((((w4.alloc (Obj.cells #[Value.int IntKind.i64 0] 3)).alloc (Obj.cells #[Value.int IntKind.i64 1] 3)).alloc (Obj.cells #[Value.int IntKind.i64 1] 3)).alloc (Obj.cells #[Value.nilFunc] 60)).alloc (Obj.cells #[Value.nilFunc] 45)) := by
    repeat (first | exact Below.refl _ _ | refine Below.alloc ?_ (by first | omega | (simp <;> omega)) _)
  have hT0 : (((((w4.alloc (Obj.cells #[Value.int IntKind.i64 0] 3)).alloc (Obj.cells #[Value.int IntKind.i64 1] 3)).alloc (Obj.cells #[Value.int IntKind.i64 1] 3)).alloc (Obj.cells #[Value.nilFunc] 60)).alloc (Obj.cells #[Value.nilFunc] 45)).cell? ⟨w4.heap.size, 0, none⟩ = some (.int .i64 0) := by simp [go_sem]
  have hT1 : (((((w4.alloc (Obj.cells #[Value.int IntKind.i64 0] 3)).alloc (Obj.cells #[Value.int IntKind.i64 1] 3)).alloc (Obj.cells #[Value.int IntKind.i64 1] 3)).alloc (Obj.cells #[Value.nilFunc] 60)).alloc (Obj.cells #[Value.nilFunc] 45)).frozen? ⟨w4.heap.size, 0, none⟩ = false := by simp [go_sem]
  have hB3 : (((((w4.alloc (Obj.cells #[Value.int IntKind.i64 0] 3)).alloc (Obj.cells #[Value.int IntKind.i64 1] 3)).alloc (Obj.cells #[Value.int IntKind.i64 1] 3)).alloc (Obj.cells #[Value.nilFunc] 60)).alloc (Obj.cells #[Value.nilFunc] 45)).cell? ⟨w4.heap.size + 1 + 1 + 1, 0, none⟩ = some .nilFunc := by simp [go_sem]
  have hB1 : (((((w4.alloc (Obj.cells #[Value.int IntKind.i64 0] 3)).alloc (Obj.cells #[Value.int IntKind.i64 1] 3)).alloc (Obj.cells #[Value.int IntKind.i64 1] 3)).alloc (Obj.cells #[Value.nilFunc] 60)).alloc (Obj.cells #[Value.nilFunc] 45)).cell? ⟨w4.heap.size + 1, 0, none⟩ = some (.int .i64 1) := by simp [go_sem]
  have hsz : (((((w4.alloc (Obj.cells #[Value.int IntKind.i64 0] 3)).alloc (Obj.cells #[Value.int IntKind.i64 1] 3)).alloc (Obj.cells #[Value.int IntKind.i64 1] 3)).alloc (Obj.cells #[Value.nilFunc] 60)).alloc (Obj.cells #[Value.nilFunc] 45)).heap.size = w4.heap.size + 1 + 1 + 1 + 1 + 1 := by simp
  obtain ⟨W0, hW0⟩ : ∃ W0, W0 = (((((w4.alloc (Obj.cells #[Value.int IntKind.i64 0] 3)).alloc (Obj.cells #[Value.int IntKind.i64 1] 3)).alloc (Obj.cells #[Value.int IntKind.i64 1] 3)).alloc (Obj.cells #[Value.nilFunc] 60)).alloc (Obj.cells #[Value.nilFunc] 45)) := ⟨_, rfl⟩
  rw [← hW0] at hT hT0 hT1 hB3 hB1 hsz ⊢
  clear hW0
  have hit : SeqStopsK Fence.wide 4 Try.prog 30 #[.pointer (some ⟨w4.heap.size + 1 + 1 + 1, 0, none⟩), .pointer (some ⟨w4.heap.size + 1 + 1 + 1 + 1, 0, none⟩), .pointer (some ⟨w4.heap.size + 1, 0, none⟩), .pointer (some ⟨w4.heap.size + 1 + 1, 0, none⟩)] (fun _ : Unit => #[Value.int .i64 0, Value.int .i64 1]) (Below w4.heap.size) (fun ys => ys = [()]) (fun pre => pre = [()]) 1 W0 := fun l J Jx W hW hJ hJx hY h0 =>
    over_stops 4 (by omega) l (w4.heap.size + 1) (w4.heap.size + 1 + 1) (w4.heap.size + 1 + 1 + 1) (w4.heap.size + 1 + 1 + 1 + 1) w4.heap.size J Jx hY W
      ((hW.cell (p := ⟨w4.heap.size + 1 + 1 + 1, 0, none⟩) (by simp only [hsz]; omega)).trans hB3) ((hW.cell (p := ⟨w4.heap.size + 1, 0, none⟩) (by simp only [hsz]; omega)).trans hB1) h0 hJ
  have hr : w.heap.size < w4.heap.size := World.block_lt_of_cell? w4 ⟨w.heap.size, 0, none⟩ r4
  refine wpIn_rangeFunc_ownF rfl (by omega) (gf := 30) (lb := #[.pointer (some ⟨w4.heap.size + 1 + 1 + 1, 0, none⟩), .pointer (some ⟨w4.heap.size + 1 + 1 + 1 + 1, 0, none⟩), .pointer (some ⟨w4.heap.size + 1, 0, none⟩), .pointer (some ⟨w4.heap.size + 1 + 1, 0, none⟩)]) rfl trivial (enters_of Try.func30 (by kernel_rfl) rfl)
    hit belowK_t (belowK_b (by omega)) (Below.refl _ _) (fun _ => rfl)
    (fun pre W => (W.cell? ⟨w4.heap.size, 0, none⟩ = some (.int .i64 (pre.length : Int)) ∧ W.frozen? ⟨w4.heap.size, 0, none⟩ = false) ∧ Below w4.heap.size w4 W)
    (fun _ _ _ => False)
    (OwnFrom.and (Own.from (fun s A B row hs hg hr => ⟨cell_kept hs.1 hg hr, (frozen_kept hs.1 hg hr).trans hs.2⟩) _) (ownFrom_below (Nat.le_refl _) (by omega)))
    (fun _ _ _ _ _ hs _ _ => hs)
    ⟨⟨hT0, hT1⟩, hT⟩
    (fun _ => { tmps := #[Value.pointer (some { block := w.heap.size, off := 0 }), Value.slice none 0 0, Value.int IntKind.i64 0, Value.int IntKind.i64 1, Value.int IntKind.i64 0, Value.int IntKind.i64 1, Value.int IntKind.i64 0, Value.int IntKind.i64 1, Value.int IntKind.i64 0, Value.int IntKind.i64 1, Value.pointer (some { block := w4.heap.size, off := 0 }), Value.func (Fn.func 30) #[] #[Value.pointer (some { block := w4.heap.size + 1 + 1 + 1, off := 0 }), Value.pointer (some { block := w4.heap.size + 1 + 1 + 1 + 1, off := 0 }), Value.pointer (some { block := w4.heap.size + 1, off := 0 }), Value.pointer (some { block := w4.heap.size + 1 + 1, off := 0 })], undef, Value.int IntKind.i64 1, Value.tuple #[Value.slice none 0 0, Value.int IntKind.i64 0, Value.int IntKind.i64 1], Value.slice (some { block := w.heap.size + 1, off := 0 }) 1 1, Value.tuple #[Value.slice none 0 0, Value.int IntKind.i64 0, Value.int IntKind.i64 1], Value.slice none 0 0, Value.int IntKind.i64 0, Value.int IntKind.i64 1, Value.tuple #[Value.int IntKind.i64 0, Value.int IntKind.i64 1], Value.slice (some { block := w1.heap.size, off := 0 }) 1 1, Value.tuple #[Value.int IntKind.i64 0, Value.int IntKind.i64 1], Value.int IntKind.i64 0, Value.int IntKind.i64 1, Value.tuple #[Value.int IntKind.i64 0, Value.int IntKind.i64 1], Value.tuple #[Value.int IntKind.i64 0, Value.int IntKind.i64 1], Value.int IntKind.i64 0, Value.int IntKind.i64 1, Value.tuple #[Value.int IntKind.i64 0, Value.int IntKind.i64 1], Value.tuple #[Value.int IntKind.i64 0, Value.int IntKind.i64 1], Value.int IntKind.i64 0, Value.int IntKind.i64 1, Value.int IntKind.i64 0, Value.bool false, Value.bool false, Value.int IntKind.i64 1, Value.int IntKind.i64 1, Value.bool false, Value.bool false, Value.bool false, Value.int IntKind.i64 1, Value.int IntKind.i64 1, Value.bool false, Value.bool false, Value.bool false, Value.int IntKind.i64 0, Value.bool false, Value.bool false, Value.bool false, Value.int IntKind.i64 1, Value.int IntKind.i64 1, Value.bool false, Value.bool false, Value.bool false, Value.int IntKind.i64 0, Value.bool false, Value.bool false, Value.bool false, Value.int IntKind.i64 1, Value.int IntKind.i64 1, Value.bool false, Value.bool false, Value.func (Fn.func 30) #[] #[Value.pointer (some { block := w4.heap.size + 1 + 1 + 1, off := 0 }), Value.pointer (some { block := w4.heap.size + 1 + 1 + 1 + 1, off := 0 }), Value.pointer (some { block := w4.heap.size + 1, off := 0 }), Value.pointer (some { block := w4.heap.size + 1 + 1, off := 0 })], Value.func (Fn.func 30) #[] #[Value.pointer (some { block := w4.heap.size + 1 + 1 + 1, off := 0 }), Value.pointer (some { block := w4.heap.size + 1 + 1 + 1 + 1, off := 0 }), Value.pointer (some { block := w4.heap.size + 1, off := 0 }), Value.pointer (some { block := w4.heap.size + 1 + 1, off := 0 })], Value.bool false, Value.func (Fn.func 30) #[] #[Value.pointer (some { block := w4.heap.size + 1 + 1 + 1, off := 0 }), Value.pointer (some { block := w4.heap.size + 1 + 1 + 1 + 1, off := 0 }), Value.pointer (some { block := w4.heap.size + 1, off := 0 }), Value.pointer (some { block := w4.heap.size + 1 + 1, off := 0 })], Value.int IntKind.i64 0, Value.int IntKind.i64 1, undef, undef, undef, undef, undef, undef, undef], defers := [] }) ?assign ?body ?done ?stop
  case assign =>
    intro l x W K hK
    gi_wp2
    exact hK
  case body =>
    rintro l pre x W ⟨⟨hc, hf⟩, hB⟩ hl
    obtain rfl : pre = [] := by
      cases pre with
      | nil => rfl
      | cons y r => simp at hl
    have hc' : W.cell? ⟨w4.heap.size, 0, none⟩ = some (.int .i64 0) := hc
    clear hc hl
    gi_wp2_with (refine ⟨trivial, ?_⟩; gi_at_call 9; refine (CallsIn.inRound l (callsIn_wide.2 (HN.out _ _))).mono ?_; rintro e W ⟨rfl, rfl⟩)
    exact ⟨KeepsOthers.setCell _ _ _, (Below.refl w4.heap.size W).setCell (p := ⟨w4.heap.size, 0, none⟩) (Nat.le_refl _) _, ⟨World.cell?_setCell_same' _ _ _ (by rw [hc']; rfl), by rw [World.frozen?_setCell]; exact hf⟩, hB.setCell (p := ⟨w4.heap.size, 0, none⟩) (Nat.le_refl _) _⟩
  case done =>
    rintro D ys W hD rfl ⟨⟨hc, hf⟩, hB⟩ hK
    have hc' : W.cell? ⟨w4.heap.size, 0, none⟩ = some (.int .i64 1) := hc
    have hr1 : W.cell? ⟨w.heap.size, 0, none⟩ = some (.bool false) := (hB.cell (p := ⟨w.heap.size, 0, none⟩) hr).trans r4
    have hr2 : W.frozen? ⟨w.heap.size, 0, none⟩ = false := (hB.frozen (p := ⟨w.heap.size, 0, none⟩) hr).trans f4
    clear hc
    gi_wp2
    have hK' := (KeepsOthers.setCell W ⟨w.heap.size, 0, none⟩ (.bool true)).same D _ hK rfl
    have hc5 := cell_kept (World.cell?_setCell_same' W ⟨w.heap.size, 0, none⟩ (.bool true) (by rw [hr1]; rfl)) (grownBy_putObj' _ D (.deferred none)) (fun r e => by cases e; exact ⟨_, hK', rfl⟩)
    refine ⟨by simp, .inl ⟨_, _, rfl, run_takeDeferred hK', ?_⟩⟩
    have hBw : Below w.heap.size w W := by
      have e1 := HB1.out
      have e2 := HB2.out
      have e3 := HB3.out
      have e4 := HB4.out
      refine Below.trans ?_ (hB.mono (Nat.le_of_lt hr))
      refine Below.trans ?_ (e4.mono (by first | omega | (simp at s1 s2 s3 s4 ⊢; omega)))
      refine Below.trans ?_ (e3.mono (by first | omega | (simp at s1 s2 s3 s4 ⊢; omega)))
      refine Below.trans ?_ (e2.mono (by first | omega | (simp at s1 s2 s3 s4 ⊢; omega)))
      refine Below.trans (b := w1) (Below.trans ?_ (e1.mono (by first | omega | (simp at s1 s2 s3 s4 ⊢; omega)))) ?_
      · repeat (first | exact Below.refl _ _ | refine Below.alloc ?_ (by first | omega | (simp <;> omega)) _)
      · repeat (first | exact Below.refl _ _ | refine Below.alloc ?_ (by first | omega | (simp at s1 s2 s3 s4 ⊢; omega)) _)
    refine ⟨.bool true, ?_, rfl, (hBw.setCell (p := ⟨w.heap.size, 0, none⟩) (Nat.le_refl _) _).trans (belowK_b (w := w) (Nat.le_refl _) _ D _ _ (by simp [hsz] at hD; omega) hK' rfl rfl)⟩
    simp [results, Try.f3, go_sem, hc5]
  case stop =>
    rintro D c pre W _ _ h _
    exact h.elim
end Go.Proofs.Ytaimfcbfdflidaa
