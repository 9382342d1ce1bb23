/-
  Of, Compare and Times, by walks.
-/
import Derived.Test.YtmnojohcfalodaaDoorA13
namespace Go.Proofs.YtmnojohcfalodaaDoor
set_option linter.unusedVariables false
set_option linter.unusedSimpArgs false
open Go.RowKit Go.Proofs.YtmnojohcfalodaaDoorW.PrintWords Go.Proofs.YtmnojohcfalodaaDoorW.PrintLast Go.Proofs.YtmnojohcfalodaaDoorW.PrintMore
set_option maxHeartbeats 8000000 in
set_option maxRecDepth 100000 in
theorem of_any (A0 : Option Addr) (c0 : Nat) (l0 : List Int) (w : World) (hr0 : FK.C w A0 l0.length l0) (hp : ∀ x ∈ l0, okF x) (hlen : l0.length < 35184372088832) :
    Calls Tryd.prog 8 #[.slice A0 l0.length c0] w fun e w' => e = .returned (.tuple #[SV (sumN 0 l0), .int .i64 0]) ∧ Below w.heap.size w w' := by
  have HA := Lib.hid (fun W hW => add_any 0 (by decide) A0 c0 l0 W hW hp hlen)
  rw [← SV_zero] at HA
  have HR0 := Aside0.mk hr0
  have HL := sumN_lt l0 0 (by decide)
  generalize sumN 0 l0 = S at *
  clear hr0 hp hlen
  go_enter Tryd.func8, Tryd.ntmps8
  go_wp2_with (go_at_call 28; refine (HA.out _ (Kd.C_below HR0.out (by repeat (first | with_reducible exact Below.refl _ _ | ((with_reducible refine Below.setCell ?_ ?hp _); case hp => (first | omega | (simp <;> omega))) | ((with_reducible refine Below.alloc ?_ ?hp _); case hp => (first | omega | (simp <;> omega))) | (with_reducible refine Below.drew ?_))))).mono ?_; rintro e w1 ⟨rfl, hb⟩; obtain ⟨hc, hf, hz⟩ := kept_to hb (w.heap.size + 1) (by first | omega | (simp <;> omega)); have HB1 := Lib.hid hb; clear hb)
  refine bodyPost_ret (v := .tuple #[SV S, .int .i64 0]) (by simp [results, Tryd.results8, go_sem, *]) rfl ⟨rfl, ?_⟩
  repeat (first | with_reducible exact Below.refl _ _ | ((with_reducible refine Below.setCell ?_ ?hp _); case hp => (first | omega | (simp <;> omega))) | ((with_reducible refine Below.alloc ?_ ?hp _); case hp => (first | omega | (simp <;> omega))) | (with_reducible refine Below.drew ?_) | ((with_reducible refine Below.trans ?_ (HB1.out.mono ?hm)); case hm => (first | omega | (simp <;> omega))))
end Go.Proofs.YtmnojohcfalodaaDoor
