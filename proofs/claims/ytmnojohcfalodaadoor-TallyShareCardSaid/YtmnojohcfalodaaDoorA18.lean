/-
  low and times (by a pointer), by walks.
-/
import Derived.Test.YtmnojohcfalodaaDoorA17
import Derived.Test.YtmnojohcfalodaaDoorNa
import Derived.Test.YtmnojohcfalodaaDoorA5
import Derived.Test.YtmnojohcfalodaaDoorA6
import Derived.Test.YtmnojohcfalodaaDoorShelf
namespace Go.Proofs.YtmnojohcfalodaaDoor
set_option linter.unusedVariables false
set_option linter.unusedSimpArgs false
open Go.RowKit Go.Proofs.YtmnojohcfalodaaDoorW.PrintWords Go.Proofs.YtmnojohcfalodaaDoorW.PrintLast Go.Proofs.YtmnojohcfalodaaDoorW.PrintMore
set_option maxRecDepth 100000 in
set_option maxHeartbeats 4000000 in
theorem low50 (m : Nat) (hm : m < M384) (k : Nat) (hk0 : 0 < k) (hk : k < 384) (w : World) :
    Calls Tryd.prog 50 #[SV m, .int .i64 k] w fun e w' => e = .returned (SV (m % 2 ^ k)) ∧ Below w.heap.size w w' := by
  obtain ⟨d, hd⟩ : ∃ d, k + d = 384 := ⟨384 - k, by omega⟩
  have e1 := low_eq m k d 384 hd rfl
  have HU := Lib.hid (fun W => up_any m d hm (by omega) W)
  obtain ⟨U, hU⟩ : ∃ U, U = m * 2 ^ d % M384 := ⟨_, rfl⟩
  rw [← hU] at HU e1
  have HD := Lib.hid (fun W => down_any U d (by rw [hU]; exact Nat.mod_lt _ (by decide)) (by omega) W)
  rw [e1] at HD
  obtain ⟨R, hR⟩ : ∃ R, R = m % 2 ^ k := ⟨_, rfl⟩
  rw [← hR] at HD ⊢
  have hw : wrap64 (384 - (k : Int)) = (d : Int) := by unfold wrap64; omega
  clear hR hU e1 hd hk hk0 hm
  go_enter Tryd.func50, Tryd.ntmps50
  go_wp2_with (first | (go_at_call 80; refine (HU.out _).mono ?_; rintro e w1 ⟨rfl, hb⟩; obtain ⟨hc, hf, hz⟩ := kept_to hb (w.heap.size + 2) (by first | omega | (simp <;> omega)); have HB1 := Lib.hid hb; clear hb) | (go_at_call 47; refine (HD.out _).mono ?_; rintro e w2 ⟨rfl, hb⟩; obtain ⟨hc2, hf2, hz2⟩ := kept_to hb (w.heap.size + 2) (by first | omega | (simp <;> omega)); have HB2 := Lib.hid hb; clear hb))
  refine bodyPost_ret (v := SV R) (by simp [results, Tryd.results50, go_sem, *]) rfl ⟨rfl, ?_⟩
  repeat (first | with_reducible exact Below.refl _ _ | ((with_reducible refine Below.setCell ?_ ?hp _); case hp => (first | omega | (simp <;> omega))) | ((with_reducible refine Below.alloc ?_ ?hp _); case hp => (first | omega | (simp <;> omega))) | (with_reducible refine Below.drew ?_) | ((with_reducible refine Below.trans ?_ (HB2.out.mono ?hm)); case hm => (first | omega | (simp <;> omega))) | ((with_reducible refine Below.trans ?_ (HB1.out.mono ?hm)); case hm => (first | omega | (simp <;> omega))))
theorem add64_0 (x y : Nat) (hx : x < 18446744073709551616) (hy : y < 18446744073709551616) (w : World) : (callFunc 31 #[.int .u64 x, .int .u64 y, .int .u64 0]).run Tryd.prog w =
    .ok (.value (.tuple #[.int .u64 ((x + y) % 18446744073709551616 : Nat), .int .u64 ((x + y) / 18446744073709551616 : Nat)])) w := by
  have h := add64 x y false hx hy w
  have hcb : cb (decide (18446744073709551616 ≤ x + y)) = ((x + y) / 18446744073709551616 : Nat) := by
    unfold cb
    by_cases hc : 18446744073709551616 ≤ x + y
    · have h1 : (x + y) / 18446744073709551616 = 1 := by omega
      rw [h1, decide_eq_true hc]; rfl
    · have h1 : (x + y) / 18446744073709551616 = 0 := by omega
      rw [h1, decide_eq_false hc]; rfl
  unfold adw adc at h
  simp only [Bool.toNat_false, Nat.add_zero] at h
  rw [show (cb false : Int) = 0 from rfl, hcb] at h
  exact h
set_option maxRecDepth 100000 in
set_option maxHeartbeats 4000000 in
theorem times51 (m : Nat) (hm : m < M384) (n : Nat) (hn : n < 18446744073709551616) (p : Nat) (hp : p < 18446744073709551616) (b : Nat) (w : World) (h : Six w b m) :
    Calls Tryd.prog 51 #[.pointer (some ⟨b, 0, none⟩), .int .u64 n, .int .u64 p] w fun e w' => e = .returned (.int .u64 ((m * n + p) / M384 : Nat)) ∧ Six w' b ((m * n + p) % M384) ∧ Below b w w' ∧ Fr b w.heap.size w w' ∧ (∀ t, Typed w b t → Typed w' b t) := by
  have HS := Aside0.mk h.cells
  clear h
  have hz := HS.out.lt
  have HM := Aside0.mk hm
  have HN := Aside0.mk hn
  have HP := Aside0.mk hp
  clear hm hn hp
  go_enter Tryd.func51, Tryd.ntmps51
  go_wp2
  go_loopg [7, 8, 9, 10, 11, 13] 6 (fun kq v7 v8 v9 v10 v11 v13 w' => ∃ (i : Nat) (c : Nat), Aside0 (i + kq = 6) ∧ v13 = .int .i64 i ∧ v7 = .int .u64 (c : Nat) ∧ Aside0 (c = mcar m n p i) ∧ Aside0 (Cells w' b (fun t => if t < i then wd (m * n + p) t else wd m t)) ∧ Aside0 (Below b w w') ∧ Aside0 (Fr b w.heap.size w w') ∧ Aside0 (∀ t, Typed w b t → Typed w' b t))
  case atStart =>
    refine ⟨0, p, ⟨rfl⟩, rfl, rfl, ⟨(mcar_zero m n p).symm⟩, ⟨?_⟩, ⟨Below.refl _ _⟩, ⟨Fr.refl _ _ _⟩, ⟨fun _ h => h⟩⟩
    exact ⟨fun t ht => by rw [if_neg (by omega)]; exact HS.out.c t ht, HS.out.z⟩
  case round =>
    obtain ⟨i, c, HI, rfl, rfl, HR, HC, HB, HF, HT⟩ := hrel
    by_cases hi : i < 6
    · have hx := HC.out.c i hi
      have hf := HC.out.z i hi
      rw [if_neg (by omega)] at hx
      have p0 : (0 : Int) ≤ i := by omega
      have q0 : (i : Int) < 6 := by omega
      have c2 : decide ((i : Int) < 6) = true := decide_eq_true q0
      have hst := mcar_step m n p i
      rw [← HR.out] at hst
      have hcl : c < 18446744073709551616 := by rw [HR.out]; exact mcar_lt _ _ _ _ HN.out HP.out
      obtain ⟨x, hx1⟩ : ∃ x, x = wd m i := ⟨_, rfl⟩
      have hxl : x < 18446744073709551616 := by rw [hx1]; exact wd_lt _ _
      have HMu := Lib.hid (fun W => Tryd.bits_Mul64 x n hxl HN.out W)
      rw [← hx1] at hst hx
      obtain ⟨hi2, hhi⟩ : ∃ y, y = x * n / 18446744073709551616 := ⟨_, rfl⟩
      obtain ⟨lo, hlo⟩ : ∃ y, y = x * n % 18446744073709551616 := ⟨_, rfl⟩
      rw [← hhi, ← hlo] at HMu
      have hlol : lo < 18446744073709551616 := by rw [hlo]; exact Nat.mod_lt _ (by decide)
      have hadd := add64_0 lo c hlol hcl
      obtain ⟨s, hs⟩ : ∃ y, y = (lo + c) % 18446744073709551616 := ⟨_, rfl⟩
      obtain ⟨d, hd⟩ : ∃ y, y = (lo + c) / 18446744073709551616 := ⟨_, rfl⟩
      rw [← hs, ← hd] at hadd
      obtain ⟨c3, hc3⟩ : ∃ y, y = mcar m n p (i + 1) := ⟨_, rfl⟩
      rw [← hc3] at hst
      have hc3l : c3 < 18446744073709551616 := by rw [hc3]; exact mcar_lt _ _ _ _ HN.out HP.out
      generalize x * n = X at *
      have hsum : hi2 + d = c3 := by rw [← hst.1, hhi, hd, hlo]; omega
      have hsw : s = wd (m * n + p) i := by rw [← hst.2, hs, hlo]; omega
      have hwr : IntKind.u64.wrap ((hi2 : Int) + d) = (c3 : Int) := by
        rw [show (hi2 : Int) + d = ((hi2 + d : Nat) : Int) by omega, hsum]
        rw [IntKind.wrap_u64]; omega
      have hw : wrap64 ((i : Int) + 1) = ((i + 1 : Nat) : Int) := by unfold wrap64; omega
      have LI := Aside0.mk hi
      have HSW := Aside0.mk hsw
      have HC3 := Aside0.mk hc3
      replace p0 := eq_true p0
      replace q0 := eq_true q0
      clear hst hcl hx1 hxl hhi hlo hlol hs hd hc3 hc3l hsum hsw hi HR
      go_wp2_with (go_at_call 37; refine (HMu.out _).mono ?_; rintro e W ⟨rfl, rfl⟩)
      go_region
      all_goals go_wp2_with fail
      go_roundg (6 - (i + 1))
      case measure => have := HI.out; have := LI.out; omega
      case rel =>
        refine ⟨i + 1, c3, ⟨by have := LI.out; omega⟩, congrArg (Value.int .i64) hw, rfl, HC3, ⟨?_⟩, ⟨?_⟩, ⟨?_⟩, ⟨fun t h => (HT.out t h).setCell _ _⟩⟩
        · have h6 := HC.out.set i s LI.out
          refine ⟨fun t ht => ?_, h6.z⟩
          refine (h6.c t ht).trans ?_
          congr 3
          by_cases e : t = i
          · subst e; rw [if_pos (Nat.lt_succ_self _)]; first | rfl | exact (if_pos rfl).trans HSW.out | exact HSW.out
          · rw [if_neg e]
            by_cases e2 : t < i
            · rw [if_pos e2, if_pos (by omega)]
            · rw [if_neg (by omega), if_neg (by omega)]
        · exact Below.drew (Below.setCell (p := ⟨b, i, none⟩) HB.out (Nat.le_refl _) _)
        · exact Fr.drew (Fr.setCell HF.out ⟨b, i, none⟩ rfl _)
    · have c2 : decide ((i : Int) < 6) = false := decide_eq_false (by omega)
      have hi6 : i = 6 := by have := HI.out; omega
      have hc : c = (m * n + p) / M384 := by rw [HR.out]; exact mcar_six m n p HM.out i hi6
      subst hc
      have hC := HC.out
      clear HI HR HC hi
      go_wp2_with fail
      go_ret
      refine ⟨rfl, ?_, HB.out, HF.out, HT.out⟩
      exact hC.six (fun t ht => by rw [if_pos (by omega), wd_mod _ _ ht])
end Go.Proofs.YtmnojohcfalodaaDoor
