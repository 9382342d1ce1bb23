/-
  What an argument of six words is: a sum.
-/
import Derived.Test.YtmnojohcfalodaaDoorC0
import Derived.OpenShut
import Derived.ProofKit
namespace Go.Proofs.YtmnojohcfalodaaDoor
set_option linter.unusedVariables false
set_option linter.unusedSimpArgs false
open Go.RowKit Go.WideShapes
theorem word_open {H : Type} {enc : TypeId × Value → H} {W : World} {base : Nat} {spare : Nat → Bool} {held : Bool} {fuel : Nat} {c : Value} {x : DataW H × List MemPlace}
    (h : DataW.trod enc Tryd.prog W base spare held fuel 25 [c] = some x) : ∃ a : Nat, a < 18446744073709551616 ∧ c = .int .u64 a := by
  obtain ⟨n, hn, rfl, wn⟩ := DataW.trod_int Tryd.underlying25 h
  simp at hn
  have hb := bounds_u64 wn
  exact ⟨n.toNat, by omega, by rw [hn]; congr 1; omega⟩
set_option maxRecDepth 100000 in
theorem words_open {H : Type} {enc : TypeId × Value → H} {W : World} {base : Nat} {spare : Nat → Bool} {held : Bool} {r : Reach} {b0 : Nat} {v : Value} {d : DataW H} {p : List MemPlace}
    (hv : Value.okWide Tryd.prog W r b0 41 v) (h : DataW.Trod enc Tryd.prog W base spare held 41 v d p) : ∃ n, n < M384 ∧ v = SV n := by
  have c25 : Tryd.prog.cellsOf 25 = 1 := by kernel_rfl
  have c41 : Tryd.prog.cellsOf 41 = 6 := by kernel_rfl
  simp only [Value.okWide, Tryd.underlying41] at hv
  obtain ⟨cs, rfl, hs, _⟩ := hv
  rw [c41] at hs
  obtain ⟨fuel, hf⟩ := h
  obtain ⟨xs, m, _, _, hl, hxl, hat⟩ := DataW.trod_array Tryd.underlying41 hf
  rw [c25] at hat
  simp only [Value.cells, c41] at hl hat
  obtain ⟨l⟩ := cs
  simp only at hl hat
  match l, hl, xs, hxl with
  | [v0, v1, v2, v3, v4, v5], _, [x0, x1, x2, x3, x4, x5], _ =>
    obtain ⟨a0, h0, e0⟩ := word_open (hat 0 (by decide))
    obtain ⟨a1, h1, e1⟩ := word_open (hat 1 (by decide))
    obtain ⟨a2, h2, e2⟩ := word_open (hat 2 (by decide))
    obtain ⟨a3, h3, e3⟩ := word_open (hat 3 (by decide))
    obtain ⟨a4, h4, e4⟩ := word_open (hat 4 (by decide))
    obtain ⟨a5, h5, e5⟩ := word_open (hat 5 (by decide))
    obtain ⟨n, hlt, w0, w1, w2, w3, w4, w5⟩ := wd_all a0 a1 a2 a3 a4 a5 h0 h1 h2 h3 h4 h5
    exact ⟨n, hlt, by rw [e0, e1, e2, e3, e4, e5, w0, w1, w2, w3, w4, w5]⟩
end Go.Proofs.YtmnojohcfalodaaDoor
