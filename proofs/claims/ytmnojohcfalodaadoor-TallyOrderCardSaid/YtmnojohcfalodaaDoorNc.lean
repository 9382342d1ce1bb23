/-
  Merged: N11 N13.
-/
import Derived.Test.YtmnojohcfalodaaDoorPO
import Derived.IntWalk
import Derived.Test.YtmnojohcfalodaaDoorPF
/- Plain: order gives the list in another order. -/
namespace Go.Proofs.YtmnojohcfalodaaDoor.PTallyOrder
open Go.RowKit Go.Proofs.YtmnojohcfalodaaDoorW.PrintWords Go.Proofs.YtmnojohcfalodaaDoorW.PrintLast Go.Proofs.YtmnojohcfalodaaDoorW.PrintMore
theorem pick_perm (x5 x6 : List Int) (k : Nat) (hk : k < x5.length) : ((x6 ++ [rd x5 (k : Int)]) ++ (([] ++ x5.take k) ++ x5.drop (k + 1))).Perm (x6 ++ x5) := by
  have e : rd x5 (k : Int) = x5[k] := by simp [rd, List.getD_eq_getElem?_getD, List.getElem?_eq_getElem hk]
  rw [e, List.append_assoc]
  refine List.Perm.append_left _ ?_
  have h : x5 = x5.take k ++ x5[k] :: x5.drop (k + 1) := by
    rw [List.getElem_cons_drop, List.take_append_drop]
  conv => rhs; rw [h]
  rw [List.nil_append, List.singleton_append]
  exact List.perm_middle.symm
theorem pick_lt (v : Int) (len : Nat) (h0 : 0 < len) (hl : len < 35184372088832) : ∃ k : Nat, wrap64 (Int.tmod (IntKind.u64.wrap v) (IntKind.u64.wrap (len : Int))) = (k : Int) ∧ k < len := by
  have e1 : IntKind.u64.wrap (len : Int) = len := by rw [IntKind.wrap_u64]; omega
  have e2 : 0 ≤ IntKind.u64.wrap v := by rw [IntKind.wrap_u64]; omega
  rw [e1]
  obtain ⟨a, ha⟩ := Int.eq_ofNat_of_zero_le e2
  rw [ha]
  have h1 : a % len < len := Nat.mod_lt _ h0
  refine ⟨a % len, ?_, h1⟩
  rw [show Int.tmod (a : Int) (len : Int) = ((a % len : Nat) : Int) from rfl]
  unfold wrap64
  omega
theorem order_l0 : ∀ (n : Nat) (x1 x5 x6 : List Int) (i : Nat), x5.length ≤ n → x6.length + x5.length < 35184372088832 → i + x5.length < 4611686018427387904 → ∃ r, sluicelaw02_order.l0 (n + 1) x1 x5 x6 (i : Int) = some r ∧ r.Perm (x6 ++ x5)
  | 0, x1, x5, x6, i, h, _, _ => by
    have e : x5 = [] := List.eq_nil_of_length_eq_zero (by omega)
    subst e
    refine ⟨x6, ?_, by simp⟩
    unfold sluicelaw02_order.l0
    rw [if_neg (by simp)]
  | n + 1, x1, x5, x6, i, h, hl, hi => by
    by_cases h0 : 0 < x5.length
    · have hw : wrap64 ((i : Int) + 1) = ((i + 1 : Nat) : Int) := by unfold wrap64; omega
      have step : ∀ k, k < x5.length → ∃ r, sluicelaw02_order.l0 (n + 1) x1 (([] ++ x5.take k) ++ x5.drop (k + 1)) (x6 ++ [rd x5 (k : Int)]) (wrap64 ((i : Int) + 1)) = some r ∧ r.Perm (x6 ++ x5) := by
        intro k hk
        rw [hw]
        have hlen : (([] ++ x5.take k) ++ x5.drop (k + 1)).length = x5.length - 1 := by simp; omega
        obtain ⟨r, h1, h2⟩ := order_l0 n x1 (([] ++ x5.take k) ++ x5.drop (k + 1)) (x6 ++ [rd x5 (k : Int)]) (i + 1) (by omega) (by rw [hlen, List.length_append]; simp; omega) (by omega)
        exact ⟨r, h1, h2.trans (pick_perm x5 x6 k hk)⟩
      unfold sluicelaw02_order.l0
      rw [if_pos (by omega)]
      by_cases h1 : (i : Int) < x1.length
      · obtain ⟨k, hk, hkl⟩ := pick_lt (rd x1 (i : Int)) x5.length h0 (by omega)
        have hk1 : wrap64 ((k : Int) + 1) = ((k + 1 : Nat) : Int) := by unfold wrap64; omega
        have hnz : ¬ IntKind.u64.wrap (x5.length : Int) = 0 := by rw [IntKind.wrap_u64]; omega
        rw [if_pos h1, if_pos (by omega), if_neg hnz, hk, hk1]
        simp only [Option.bind_some]
        rw [if_pos (by omega), if_pos (by omega), if_pos (by omega), if_pos (by omega), if_pos (by first | (simp; done) | (simp; omega)), if_pos (by omega), if_pos (by omega), if_pos (by first | (simp; done) | (simp; omega))]
        simpa only [Int.toNat_natCast] using step k hkl
      · rw [if_neg h1]
        simp only [Option.bind_some]
        rw [if_pos (by omega), if_pos (by omega), if_pos (by omega), if_pos (by first | (simp; done) | (simp; omega)), if_pos (by omega), if_pos (by omega), if_pos (by first | (simp; done) | (simp; omega))]
        exact step 0 h0
    · have e : x5 = [] := List.eq_nil_of_length_eq_zero (by omega)
      subst e
      refine ⟨x6, ?_, by simp⟩
      unfold sluicelaw02_order.l0
      rw [if_neg (by simp)]
end Go.Proofs.YtmnojohcfalodaaDoor.PTallyOrder
/- Plain: finite gives the finite ones. -/
namespace Go.Proofs.YtmnojohcfalodaaDoor.PTallyOrder
open Go.RowKit Go.Proofs.YtmnojohcfalodaaDoorW.PrintWords Go.Proofs.YtmnojohcfalodaaDoorW.PrintLast Go.Proofs.YtmnojohcfalodaaDoorW.PrintMore
def isFin (x : Int) : Bool := decide (¬ Int.tmod (x / 8388608) 256 = 255)
theorem drop_cons (l : List Int) (i : Nat) (h : i < l.length) : l.drop i = rd l (i : Int) :: l.drop (i + 1) := by
  rw [show rd l (i : Int) = l[i] by simp [rd, List.getD_eq_getElem?_getD, List.getElem?_eq_getElem h], List.getElem_cons_drop]
theorem finite_l0 : ∀ (n : Nat) (x0 acc : List Int) (i : Nat), x0.length - i ≤ n → i ≤ x0.length → acc.length + (x0.length - i) < 35184372088832 → x0.length < 35184372088832 → sluicelaw02_finite.l0 (n + 1) x0 acc (i : Int) = some (acc ++ (x0.drop i).filter isFin)
  | n, x0, acc, i, h, hi, hl, hx => by
    unfold sluicelaw02_finite.l0
    by_cases h0 : i < x0.length
    · have hw : wrap64 ((i : Int) + 1) = ((i + 1 : Nat) : Int) := by unfold wrap64; omega
      obtain ⟨m, rfl⟩ : ∃ m, n = m + 1 := ⟨n - 1, by omega⟩
      rw [if_pos (by omega), if_pos (by omega), hw, drop_cons x0 i h0]
      by_cases hf : Int.tmod (rd x0 (i : Int) / 8388608) 256 = 255
      · rw [if_pos hf, finite_l0 m x0 acc (i + 1) (by omega) (by omega) (by omega) hx, List.filter_cons_of_neg (by simp [isFin, hf])]
      · rw [if_neg hf, if_pos (by omega), finite_l0 m x0 _ (i + 1) (by omega) (by omega) (by rw [List.length_append]; simp; omega) hx, List.filter_cons_of_pos (by simp [isFin, hf]), List.append_assoc, List.singleton_append]
    · have e : i = x0.length := by omega
      rw [if_neg (by omega), e, List.drop_length]
      simp
end Go.Proofs.YtmnojohcfalodaaDoor.PTallyOrder
