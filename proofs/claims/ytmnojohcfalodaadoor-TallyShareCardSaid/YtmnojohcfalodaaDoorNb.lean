/-
  Merged: N10 N12.
-/
import Derived.Test.YtmnojohcfalodaaDoorA14
import Derived.Test.YtmnojohcfalodaaDoorNa
/- Plain: what 'awake' asks. -/
namespace Go.Proofs.YtmnojohcfalodaaDoor
set_option linter.unusedVariables false
set_option linter.unusedSimpArgs false
def three : Nat := 2140871539058939821587428954174242704574119936
theorem sum_three : sumN 0 [1069547520, 1069547520] = three := by decide
theorem round_three : overN three 1 0 = (1077936128, 0) := by decide
theorem three_lt : three < M384 := by decide
theorem text_three : textN three = [51] := by
  have h1 : magN three = three := by decide
  have h2 : three / U149 = 3 := by decide
  have h3 : three % U149 = 0 := by decide
  have h4 : ¬ H383 ≤ three := by decide
  unfold textN
  rw [h1, h2, h3, if_neg h4]
  unfold headT restT
  rw [if_neg (by decide), if_pos rfl, lowD_pos 3 (by decide), show 3 / 10 = 0 from rfl, lowD_zero]
  rfl
end Go.Proofs.YtmnojohcfalodaaDoor
/- Plain: sums do not hang on order or grouping. -/
namespace Go.Proofs.YtmnojohcfalodaaDoor
set_option linter.unusedVariables false
set_option linter.unusedSimpArgs false
theorem putN_comm (s a b : Nat) : putN (putN s a) b = putN (putN s b) a := by
  unfold putN
  by_cases ha : fin32 a = true <;> by_cases hb : fin32 b = true <;> simp only [ha, hb, if_true, if_false, Bool.false_eq_true]
  rw [Nat.mod_add_mod, Nat.mod_add_mod, Nat.add_right_comm]
theorem sumN_perm (s : Nat) {l r : List Int} (h : l.Perm r) : sumN s l = sumN s r :=
  h.foldl_eq' (fun x _ y _ z => putN_comm z x.toNat y.toNat) s
theorem sumN_append (s : Nat) (l r : List Int) : sumN s (l ++ r) = sumN (sumN s l) r := by simp [sumN, List.foldl_append]
theorem sumN_from (l : List Int) (hl : ∀ x ∈ l, okF x) : ∀ s, s < M384 → sumN s l = (sumN 0 l + s) % M384 := by
  induction l with
  | nil => intro s hs; show s = (0 + s) % M384; rw [Nat.zero_add, Nat.mod_eq_of_lt hs]
  | cons x l ih =>
    intro s hs
    have ih' := ih (fun y hy => hl y (List.mem_cons_of_mem _ hy))
    show sumN (putN s x.toNat) l = (sumN (putN 0 x.toNat) l + s) % M384
    rw [ih' _ (putN_lt s _ hs), ih' (putN 0 x.toNat) (putN_lt 0 _ (by decide))]
    have hf : fin32 x.toNat = true := by
      have := (hl x List.mem_cons_self).2.2
      unfold fin32
      simpa using this
    unfold putN
    rw [hf]
    simp only [if_true]
    generalize sumN 0 l = S
    generalize fval x.toNat = F
    rw [Nat.add_mod_mod, Nat.mod_add_mod, Nat.zero_add, Nat.add_right_comm S, Nat.add_mod_mod]
    congr 1
    omega
theorem piece_sum (o : List Int) (ho : ∀ x ∈ o, okF x) (lo h : Nat) (h1 : lo ≤ h) (h2 : h ≤ o.length) : (sumN 0 ((o.take h).drop lo) + sumN 0 (o.drop h)) % M384 = sumN 0 (o.drop lo) := by
  have e : o.drop lo = (o.take h).drop lo ++ o.drop h := by
    conv => lhs; rw [← List.take_append_drop h o]
    rw [List.drop_append_of_le_length (by rw [List.length_take]; omega)]
  rw [e, sumN_append, sumN_from (o.drop h) (fun x hx => ho x (List.mem_of_mem_drop hx)) _ (sumN_lt _ _ (by decide)), Nat.add_comm]
end Go.Proofs.YtmnojohcfalodaaDoor
