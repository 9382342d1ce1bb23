/-
  awake, by a walk.
-/
import Derived.Test.YtmnojohcfalodaaDoorA19
import Derived.Test.YtmnojohcfalodaaDoorNb
namespace Go.Proofs.YtmnojohcfalodaaDoor
set_option linter.unusedVariables false
set_option linter.unusedSimpArgs false
open Go.RowKit Go.Proofs.YtmnojohcfalodaaDoorW.PrintWords Go.Proofs.YtmnojohcfalodaaDoorW.PrintLast Go.Proofs.YtmnojohcfalodaaDoorW.PrintMore
theorem FK_two (w : World) (b : Nat) (u v : Nat) (h0 : w.cell? ⟨b, 0, none⟩ = some (.float .f32 u)) (h1 : w.cell? ⟨b, 1, none⟩ = some (.float .f32 v)) : FK.C w (some ⟨b, 0, none⟩) 2 [(u : Int), (v : Int)] := by
  refine ⟨rfl, by decide, fun _ => ⟨⟨b, 0, none⟩, rfl, ?_⟩⟩
  intro j p hp
  refine ⟨[Value.float .f32 p.toNat], rfl, rfl, ?_⟩
  intro i x hx
  match i, hx with
  | 0, hx =>
    simp at hx
    subst hx
    match j, hp with
    | 0, hp => simp at hp; subst hp; simpa [Addr.add, FK, Kd.scalar] using h0
    | 1, hp => simp at hp; subst hp; simpa [Addr.add, FK, Kd.scalar] using h1
    | j + 2, hp => simp at hp
set_option maxRecDepth 100000 in
set_option maxHeartbeats 4000000 in
theorem awake_any (w : World) (hM : Modes w) : Calls Tryd.prog 10 #[] w fun e w' => e = .returned (.bool true) ∧ Below w.heap.size w w' := by
  have HO := Lib.hid (fun W A h => of_any A 2 [1069547520, 1069547520] W h (by intro x hx; simp at hx; subst hx; exact ⟨by decide, by decide, by decide⟩) (by decide))
  rw [sum_three] at HO
  have HRd := Lib.hid (fun W hW => round_any three three_lt 0 (by decide) W hW)
  rw [round_three] at HRd
  have HTx := Lib.hid (fun W => text_any three three_lt W)
  rw [text_three] at HTx
  have hq := run_neq_zero three three_lt
  rw [show (!decide (three = 0)) = true by decide] at hq
  obtain ⟨S, hS⟩ : ∃ S, S = three := ⟨_, rfl⟩
  rw [← hS] at HO HRd HTx hq
  clear hS
  have HMo := Lib.hid hM
  have lt3 := hM.lt
  clear hM
  have HB := Lib.hid (fun W => bits20 1077936128 W)
  have HN := Lib.hid (fun W => num11 0 W)
  go_enter Tryd.func10, Tryd.ntmps10
  go_wp2_with fail
  refine (HO.out _ _ (FK_two _ _ 1069547520 1069547520 (by simp) (by simp))).mono ?_
  rintro e w1 ⟨rfl, hb1⟩
  obtain ⟨hc1, hf1, hz1⟩ := kept_to hb1 (w.heap.size + 1) (by simp)
  have HB1 := Lib.hid hb1; clear hb1
  go_wp2_with fail
  refine (HRd.out _ (HMo.out.keep (show Below w.heap.size w _ from by repeat (first | with_reducible exact Below.refl _ _ | ((with_reducible refine Below.setCell ?_ ?hp _); case hp => (first | omega | (simp <;> omega))) | ((with_reducible refine Below.alloc ?_ ?hp _); case hp => (first | omega | (simp <;> omega))) | (with_reducible refine Below.drew ?_) | ((with_reducible refine Below.trans ?_ (HB1.out.mono ?hm)); case hm => (first | omega | (simp <;> omega))))) lt3)).mono ?_
  rintro e w2 ⟨rfl, hb2⟩
  obtain ⟨hc2, hf2, hz2⟩ := kept_to hb2 (w1.heap.size + 1) (by simp)
  have HB2 := Lib.hid hb2; clear hb2
  go_wp2_with (first | (go_at_call 11; refine (HN.out _).mono ?_; rintro e W ⟨rfl, rfl⟩) | (go_at_call 20; refine (HB.out _).mono ?_; rintro e W ⟨rfl, rfl⟩) | (go_at_call 26; refine (HTx.out _).mono ?_; rintro e w3 ⟨rfl, hb⟩; obtain ⟨hc3, hf3, hz3⟩ := kept_to hb (w1.heap.size + 1) (by first | omega | (simp <;> omega)); have HB3 := Lib.hid hb; clear hb))
  go_ret
  refine ⟨rfl, ?_⟩
  repeat (first | with_reducible exact Below.refl _ _ | ((with_reducible refine Below.setCell ?_ ?hp _); case hp => (first | omega | (simp <;> omega))) | ((with_reducible refine Below.alloc ?_ ?hp _); case hp => (first | omega | (simp <;> omega))) | (with_reducible refine Below.drew ?_) | ((with_reducible refine Below.trans ?_ (HB3.out.mono ?hm)); case hm => (first | omega | (simp <;> omega))) | ((with_reducible refine Below.trans ?_ (HB2.out.mono ?hm)); case hm => (first | omega | (simp <;> omega))) | ((with_reducible refine Below.trans ?_ (HB1.out.mono ?hm)); case hm => (first | omega | (simp <;> omega))))
end Go.Proofs.YtmnojohcfalodaaDoor
