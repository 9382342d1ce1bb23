/-
  over (by a pointer), by a walk.
-/
import Derived.Test.YtmnojohcfalodaaDoorA13
import Derived.Test.YtmnojohcfalodaaDoorNa
import Derived.Test.YtmnojohcfalodaaDoorA3
import Derived.Deep.LoopGhost
namespace Go.Proofs.YtmnojohcfalodaaDoor
set_option linter.unusedVariables false
set_option linter.unusedSimpArgs false
open Go.RowKit Go.Proofs.YtmnojohcfalodaaDoorW.PrintWords Go.Proofs.YtmnojohcfalodaaDoorW.PrintLast Go.Proofs.YtmnojohcfalodaaDoorW.PrintMore
/-- every block below N stands, but b -/
def Fr (b N : Nat) (w w' : World) : Prop := ∀ k, k < N → k ≠ b → w'.heap[k]? = w.heap[k]?
theorem Fr.refl (b N : Nat) (w : World) : Fr b N w w := fun _ _ _ => rfl
theorem Fr.drew {b N : Nat} {w w' : World} (h : Fr b N w w') : Fr b N w w'.drew := h
theorem Fr.setCell {b N : Nat} {w w' : World} (h : Fr b N w w') (p : Addr) (hp : p.block = b) (v : Value) : Fr b N w (w'.setCell p v) := fun k hk hb => by
  rw [Below.heap_setCell w' p v k (by rw [hp]; exact hb)]; exact h k hk hb
theorem Fr.below {b N B : Nat} {w w1 w' : World} (h : Fr b N w w1) (hb : Below B w1 w') (hN : N ≤ B) : Fr b N w w' := fun k hk hkb => by
  rw [hb.block k (by omega)]; exact h k hk hkb
theorem Fr.trans {b N : Nat} {w w1 w' : World} (h : Fr b N w w1) (h' : Fr b N w1 w') : Fr b N w w' := fun k hk hkb => (h' k hk hkb).trans (h k hk hkb)
/-- block b is a row of cells of type t, nothing of it frozen -/
def Typed (w : World) (b t : Nat) : Prop := ∃ c, w.heap[b]? = some (.cells c t (0, 0))
theorem Typed.setCell {w : World} {b t : Nat} (h : Typed w b t) (p : Addr) (v : Value) : Typed (w.setCell p v) b t := by
  obtain ⟨c, h⟩ := h
  by_cases e : b = p.block
  · subst e
    simp only [Typed, World.setCell, Array.getElem?_modify, h, if_true, Option.map_some]
    exact ⟨_, rfl⟩
  · exact ⟨c, (Below.heap_setCell w p v b e).trans h⟩
theorem Typed.lt {w : World} {b t : Nat} (h : Typed w b t) : b < w.heap.size := by
  obtain ⟨c, h⟩ := h
  rcases Nat.lt_or_ge b w.heap.size with h' | h'
  · exact h'
  · simp [Array.getElem?_eq_none h'] at h
theorem Typed.below {w w' : World} {b t B : Nat} (h : Typed w b t) (hb : Below B w w') (hB : b < B) : Typed w' b t := by
  obtain ⟨c, h⟩ := h
  exact ⟨c, (hb.block b hB).trans h⟩
/-- six cells, told by a function -/
structure Cells (w : World) (b : Nat) (f : Nat → Nat) : Prop where
  c : ∀ t, t < 6 → w.cell? ⟨b, t, none⟩ = some (.int .u64 (f t : Nat))
  z : ∀ t, t < 6 → w.frozen? ⟨b, t, none⟩ = false
theorem Six.cells {w : World} {b n : Nat} (h : Six w b n) : Cells w b (wd n) := by
  constructor <;> intro t ht
  · rcases (show t = 0 ∨ t = 1 ∨ t = 2 ∨ t = 3 ∨ t = 4 ∨ t = 5 by omega) with rfl | rfl | rfl | rfl | rfl | rfl
    · exact h.c0
    · exact h.c1
    · exact h.c2
    · exact h.c3
    · exact h.c4
    · exact h.c5
  · rcases (show t = 0 ∨ t = 1 ∨ t = 2 ∨ t = 3 ∨ t = 4 ∨ t = 5 by omega) with rfl | rfl | rfl | rfl | rfl | rfl
    · exact h.f0
    · exact h.f1
    · exact h.f2
    · exact h.f3
    · exact h.f4
    · exact h.f5
theorem Cells.six {w : World} {b n : Nat} {f : Nat → Nat} (h : Cells w b f) (hf : ∀ t, t < 6 → f t = wd n t) : Six w b n :=
  ⟨by rw [h.c 0 (by decide), hf 0 (by decide)], by rw [h.c 1 (by decide), hf 1 (by decide)], by rw [h.c 2 (by decide), hf 2 (by decide)], by rw [h.c 3 (by decide), hf 3 (by decide)], by rw [h.c 4 (by decide), hf 4 (by decide)], by rw [h.c 5 (by decide), hf 5 (by decide)],
   h.z 0 (by decide), h.z 1 (by decide), h.z 2 (by decide), h.z 3 (by decide), h.z 4 (by decide), h.z 5 (by decide)⟩
theorem Cells.lt {w : World} {b : Nat} {f : Nat → Nat} (h : Cells w b f) : b < w.heap.size := World.block_lt_of_cell? w ⟨b, 0, none⟩ (h.c 0 (by decide))
theorem Cells.keep {w w' : World} {b : Nat} {f : Nat → Nat} (h : Cells w b f) (hb : Below w.heap.size w w') : Cells w' b f :=
  ⟨fun t ht => (hb.cell (p := ⟨b, t, none⟩) h.lt).trans (h.c t ht), fun t ht => (hb.frozen (p := ⟨b, t, none⟩) h.lt).trans (h.z t ht)⟩
theorem Cells.drew {w : World} {b : Nat} {f : Nat → Nat} (h : Cells w b f) : Cells w.drew b f := ⟨h.c, h.z⟩
theorem Cells.set {w : World} {b : Nat} {f : Nat → Nat} (h : Cells w b f) (j x : Nat) (hj : j < 6) : Cells (w.setCell ⟨b, j, none⟩ (.int .u64 (x : Nat))) b (fun t => if t = j then x else f t) := by
  constructor <;> intro t ht
  · by_cases e : t = j
    · subst e
      have := h.c t ht
      simp [go_sem, this]
    · have := h.c t ht
      simp [go_sem, this, e]
  · have := h.z t ht
    simp [go_sem, this]
set_option maxRecDepth 100000 in
set_option maxHeartbeats 4000000 in
theorem over48 (m : Nat) (hm : m < M384) (n : Nat) (hn : 0 < n) (hn2 : n < 18446744073709551616) (b : Nat) (w : World) (h : Six w b m) :
    Calls Tryd.prog 48 #[.pointer (some ⟨b, 0, none⟩), .int .u64 n] w fun e w' => e = .returned (.int .u64 (m % n : Nat)) ∧ Six w' b (m / n) ∧ Below b w w' ∧ Fr b w.heap.size w w' := by
  have HS := Aside0.mk h.cells
  clear h
  have hz := HS.out.lt
  have HM := Aside0.mk hm
  have HN := Aside0.mk hn
  have HN2 := Aside0.mk hn2
  clear hm hn hn2
  go_enter Tryd.func48, Tryd.ntmps48
  go_wp2
  go_loopg [5, 6] 6 (fun kq v5 v6 w' => ∃ (i : Nat) (r : Nat) (q : Int), Aside0 (i = kq) ∧ v6 = .int .i64 q ∧ Aside0 (q = (i : Int) - 1) ∧ v5 = .int .u64 (r : Nat) ∧ Aside0 (i ≤ 6) ∧ Aside0 (r = m / 2 ^ (64 * i) % n) ∧ Aside0 (Cells w' b (fun t => if i ≤ t then wd (m / n) t else wd m t)) ∧ Aside0 (Below b w w') ∧ Aside0 (Fr b w.heap.size w w'))
  case atStart =>
    refine ⟨6, 0, 5, ⟨rfl⟩, rfl, ⟨rfl⟩, rfl, ⟨by decide⟩, ⟨?_⟩, ⟨?_⟩, ⟨Below.refl _ _⟩, ⟨Fr.refl _ _ _⟩⟩
    · obtain ⟨i5, hi5⟩ : ∃ i, i = 5 := ⟨_, rfl⟩
      rw [show (6 : Nat) = i5 + 1 by omega, Nat.div_eq_of_lt (lt_pow6 m HM.out i5 hi5), Nat.zero_mod]
    · exact ⟨fun t ht => by rw [if_neg (by omega)]; exact HS.out.c t ht, HS.out.z⟩
  case round =>
    obtain ⟨i, r, q, HI, rfl, HQ, rfl, H6, HR, HC, HB, HF⟩ := hrel
    cases i with
    | zero =>
      have hq : q = -1 := by have := HQ.out; omega
      subst hq
      have hr : r = m % n := by have := HR.out; simpa using this
      subst hr
      clear HI HQ H6 HR
      go_wp2
      go_ret
      refine ⟨rfl, ?_, HB.out, HF.out⟩
      exact HC.out.six (fun t _ => by rw [if_pos (Nat.zero_le _)])
    | succ k =>
      have hq : q = (k : Int) := by have := HQ.out; omega
      subst hq
      have hk : k < 6 := by have := H6.out; omega
      have hx := HC.out.c k hk
      have hf := HC.out.z k hk
      rw [if_neg (by omega)] at hx
      have p0 : (0 : Int) ≤ k := by omega
      have q0 : (k : Int) < 6 := by omega
      have c2 : decide ((0 : Int) ≤ k) = true := decide_eq_true p0
      have hst := div_step m n k HN.out
      rw [← HR.out] at hst
      have hrl : r < n := by rw [HR.out]; exact Nat.mod_lt _ HN.out
      have HD := Lib.hid (fun W => div64_any r (wd m k) n hrl (wd_lt _ _) HN2.out W)
      rw [hst.1, hst.2] at HD
      obtain ⟨r2, hr2⟩ : ∃ r2, r2 = m / 2 ^ (64 * k) % n := ⟨_, rfl⟩
      obtain ⟨x2, hx2⟩ : ∃ x2, x2 = wd (m / n) k := ⟨_, rfl⟩
      obtain ⟨x1, hx1⟩ : ∃ x1, x1 = wd m k := ⟨_, rfl⟩
      rw [← hr2, ← hx2, ← hx1] at HD
      rw [← hx1] at hx
      have HR2 := Aside0.mk hr2
      have HX2 := Aside0.mk hx2
      have LK := Aside0.mk hk
      have hw : wrap64 ((k : Int) - 1) = (k : Int) - 1 := by unfold wrap64; omega
      replace p0 := eq_true p0
      replace q0 := eq_true q0
      clear hst hrl hr2 hx2 hx1 HQ H6 HR hk
      go_wp2_with fail
      go_region_with (go_at_call 35; refine (HD.out _).mono ?_; rintro e W ⟨rfl, hb⟩; have HW := Lib.hid hb; have hcW := HC.out.keep (show Below _ _ W from by repeat (first | with_reducible exact Below.refl _ _ | ((with_reducible refine Below.setCell ?_ ?hp _); case hp => (first | omega | (simp <;> omega))) | ((with_reducible refine Below.alloc ?_ ?hp _); case hp => (first | omega | (simp <;> omega))) | (with_reducible refine Below.drew ?_) | ((with_reducible refine Below.trans ?_ (HW.out.mono ?hm)); case hm => (first | omega | (simp <;> omega))))); have HCW := Aside0.mk hcW; have hfW := hcW.z k LK.out; have hxW := hcW.c k LK.out; clear hb hcW)
      all_goals go_wp2_with fail
      have hz2 := HC.out.lt
      have hz3 := HF.out
      have hzs : w.heap.size ≤ wr.heap.size := HB.out.size
      go_roundg k
      case measure => have := HI.out; omega
      case rel =>
        refine ⟨k, r2, (k : Int) - 1, ⟨rfl⟩, congrArg (Value.int .i64) hw, ⟨rfl⟩, rfl, ⟨by have := LK.out; omega⟩, HR2, ⟨?_⟩, ⟨?_⟩, ⟨?_⟩⟩
        · have h6 := HCW.out.set k x2 LK.out
          refine ⟨fun t ht => ?_, h6.z⟩
          rw [h6.c t ht]
          congr 3
          by_cases e : t = k
          · subst e; rw [if_pos rfl, if_pos (Nat.le_refl _), HX2.out]
          · rw [if_neg e]
            by_cases e2 : k ≤ t
            · rw [if_pos (by omega), if_pos e2]
            · rw [if_neg (by omega), if_neg e2]
        · refine Below.setCell (p := ⟨b, k, none⟩) ?_ (Nat.le_refl _) _
          repeat (first | with_reducible exact Below.refl _ _ | ((with_reducible refine Below.setCell ?_ ?hp _); case hp => (first | omega | (simp <;> omega))) | ((with_reducible refine Below.alloc ?_ ?hp _); case hp => (first | omega | (simp <;> omega))) | (with_reducible refine Below.drew ?_) | ((with_reducible refine Below.trans ?_ (HW.out.mono ?hm)); case hm => (first | omega | (simp <;> omega))))
          exact HB.out
        · refine Fr.setCell ?_ ⟨b, k, none⟩ rfl _
          exact Fr.below HF.out.drew HW.out hzs
end Go.Proofs.YtmnojohcfalodaaDoor
