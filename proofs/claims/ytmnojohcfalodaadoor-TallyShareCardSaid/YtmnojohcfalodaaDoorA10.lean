/-
  apart: a sum's sign and greatness, by walks.
-/
import Derived.Test.YtmnojohcfalodaaDoorA7
import Derived.Test.YtmnojohcfalodaaDoorNa
import Derived.RegionTactic
namespace Go.Proofs.YtmnojohcfalodaaDoor
set_option linter.unusedVariables false
set_option linter.unusedSimpArgs false
open Go.RowKit
set_option maxRecDepth 100000 in
set_option maxHeartbeats 1000000 in
theorem apart_neg (n : Nat) (hn : n < M384) (hh : H383 ≤ n) (w : World) :
    Calls Tryd.prog 34 #[SV n] w fun e w' => e = .returned (.tuple #[.bool true, SV (magN n)]) ∧ Below w.heap.size w w' := by
  have e1 : sgnN n = -1 := by unfold sgnN; rw [if_neg (by have : 0 < H383 := (by decide); omega), if_neg (by omega)]
  have e2 : magN n = (M384 - n) % M384 := by unfold magN; rw [if_neg (by omega)]
  have HS := Lib.hid (fun W => e1 ▸ sign_any n hn W)
  have HN := Lib.hid (fun W => e2 ▸ neg_any n hn W)
  clear e1 e2 hn hh
  generalize magN n = m at *
  go_enter Tryd.func34, Tryd.ntmps34
  go_wp2_with fail
  refine (HS.out _).mono ?_
  rintro e w1 ⟨rfl, hb1⟩
  obtain ⟨hc1, hf1, hz1⟩ := kept_to hb1 (w.heap.size + 2) (by simp)
  have HB1 := Lib.hid hb1; clear hb1
  go_wp2_with fail
  refine (HN.out _).mono ?_
  rintro e w2 ⟨rfl, hb2⟩
  obtain ⟨hc2, hf2, hz2⟩ := kept_to hb2 (w.heap.size + 2) (by first | omega | (simp <;> omega))
  have HB2 := Lib.hid hb2; clear hb2
  go_wp2_with fail
  refine bodyPost_ret (v := .tuple #[.bool true, SV m]) (by simp [results, Tryd.results34, go_sem, hc2, hc1]) rfl ⟨rfl, ?_⟩
  repeat (first | with_reducible exact Below.refl _ _ | ((with_reducible refine Below.setCell ?_ ?hp _); case hp => (first | omega | (simp <;> omega))) | ((with_reducible refine Below.alloc ?_ ?hp _); case hp => (first | omega | (simp <;> omega))) | (with_reducible refine Below.drew ?_) | ((with_reducible refine Below.trans ?_ (HB2.out.mono ?hm)); case hm => (first | omega | (simp <;> omega))) | ((with_reducible refine Below.trans ?_ (HB1.out.mono ?hm)); case hm => (first | omega | (simp <;> omega))))
set_option maxRecDepth 100000 in
set_option maxHeartbeats 1000000 in
theorem apart_pos (n : Nat) (hn : n < M384) (hh : n < H383) (w : World) :
    Calls Tryd.prog 34 #[SV n] w fun e w' => e = .returned (.tuple #[.bool false, SV (magN n)]) ∧ Below w.heap.size w w' := by
  have e1 : 0 ≤ sgnN n := by unfold sgnN; split <;> (try split) <;> omega
  have e2 : magN n = n := by unfold magN; rw [if_pos hh]
  rw [e2]
  have HS := Lib.hid (fun W => sign_any n hn W)
  clear e2 hn hh
  generalize sgnN n = s at *
  go_enter Tryd.func34, Tryd.ntmps34
  go_wp2_with fail
  refine (HS.out _).mono ?_
  rintro e w1 ⟨rfl, hb1⟩
  obtain ⟨hc1, hf1, hz1⟩ := kept_to hb1 (w.heap.size + 2) (by simp)
  have HB1 := Lib.hid hb1; clear hb1
  go_wp2_with fail
  go_region
  go_wp2_with fail
  refine bodyPost_ret (v := .tuple #[.bool false, SV n]) (by simp [results, Tryd.results34, go_sem, hc1]) rfl ⟨rfl, ?_⟩
  repeat (first | with_reducible exact Below.refl _ _ | ((with_reducible refine Below.setCell ?_ ?hp _); case hp => (first | omega | (simp <;> omega))) | ((with_reducible refine Below.alloc ?_ ?hp _); case hp => (first | omega | (simp <;> omega))) | (with_reducible refine Below.drew ?_) | ((with_reducible refine Below.trans ?_ (HB1.out.mono ?hm)); case hm => (first | omega | (simp <;> omega))))
theorem apart_any (n : Nat) (hn : n < M384) (w : World) :
    Calls Tryd.prog 34 #[SV n] w fun e w' => e = .returned (.tuple #[.bool (decide (H383 ≤ n)), SV (magN n)]) ∧ Below w.heap.size w w' := by
  by_cases h : H383 ≤ n
  · rw [show decide (H383 ≤ n) = true by simp [h]]; exact apart_neg n hn h w
  · rw [show decide (H383 ≤ n) = false by simp [h]]; exact apart_pos n hn (by omega) w
end Go.Proofs.YtmnojohcfalodaaDoor
