/-
  of, OfRank, Rank, Times, by walks.
-/
import Derived.Test.YtmnojohcfalodaaDoorA20
import Derived.Test.YtmnojohcfalodaaDoorNf
import Derived.Laws.Cover2
namespace Go.Proofs.YtmnojohcfalodaaDoor
set_option linter.unusedVariables false
set_option linter.unusedSimpArgs false
open Go.RowKit Go.Proofs.YtmnojohcfalodaaDoorW.PrintWords Go.Proofs.YtmnojohcfalodaaDoorW.PrintLast Go.Proofs.YtmnojohcfalodaaDoorW.PrintMore
theorem FK_one (w : World) (b : Nat) (u : Nat) (h0 : w.cell? ⟨b, 0, none⟩ = some (.float .f32 u)) : FK.C w (some ⟨b, 0, none⟩) 1 [(u : Int)] := by
  refine ⟨rfl, by decide, fun _ => ⟨⟨b, 0, none⟩, rfl, ?_⟩⟩
  intro j p hp
  refine ⟨[Value.float .f32 p.toNat], rfl, rfl, ?_⟩
  intro i x hx
  match i, hx with
  | 0, hx =>
    simp at hx
    subst hx
    match j, hp with
    | 0, hp => simp at hp; subst hp; simpa [Addr.add, FK, Kd.scalar] using h0
    | j + 1, hp => simp at hp
set_option maxRecDepth 100000 in
set_option maxHeartbeats 4000000 in
theorem of17 (u : Nat) (hu : u < 4294967296) (hf : u % 2147483648 < 2139095040) (w : World) :
    Calls Tryd.prog 17 #[.float .f32 u] w fun e w' => e = .returned (SV (putN 0 u)) ∧ Below w.heap.size w w' := by
  have HO := Lib.hid (fun W A h => of_any A 1 [(u : Int)] W h (by intro x hx; simp at hx; subst hx; exact ⟨by omega, by omega, by rw [Int.toNat_natCast]; omega⟩) (by simp))
  rw [show sumN 0 [(u : Int)] = putN 0 u from rfl] at HO
  obtain ⟨S, hS⟩ : ∃ S, S = putN 0 u := ⟨_, rfl⟩
  rw [← hS] at HO ⊢
  clear hS hu hf
  go_enter Tryd.func17, Tryd.ntmps17
  go_wp2_with fail
  refine (HO.out _ _ (FK_one _ _ u (by simp))).mono ?_
  rintro e w1 ⟨rfl, hb1⟩
  obtain ⟨hc1, hf1, hz1⟩ := kept_to hb1 (w.heap.size + 1) (by simp)
  have HB1 := Lib.hid hb1; clear hb1
  have X : Six w1 w.heap.size 0 := by constructor <;> simp [*, wd_zero]
  obtain ⟨x0, x1, x2, x3, x4, x5, g0, g1, g2, g3, g4, g5⟩ := X
  have hlt : w.heap.size < w1.heap.size := by omega
  have hne : ¬ w.heap.size = w1.heap.size := by omega
  clear hc1 hf1 hz1
  go_wp2_with fail
  refine bodyPost_ret (v := SV S) (by simp [results, Tryd.results17, go_sem, *]) rfl ⟨rfl, ?_⟩
  repeat (first | with_reducible exact Below.refl _ _ | ((with_reducible refine Below.setCell ?_ ?hp _); case hp => (first | omega | (simp <;> omega))) | ((with_reducible refine Below.alloc ?_ ?hp _); case hp => (first | omega | (simp <;> omega))) | (with_reducible refine Below.drew ?_) | ((with_reducible refine Below.trans ?_ (HB1.out.mono ?hm)); case hm => (first | omega | (simp <;> omega))))
theorem i64_notI (r : Int) (h1 : -9223372036854775808 ≤ r) (h2 : r < 9223372036854775808) : bits .xor .i64 (-1) r = -r - 1 := by
  show IntKind.i64.wrap ((BitVec.ofInt 64 (-1) ^^^ BitVec.ofInt 64 r).toNat : Int) = _
  have h3 : BitVec.ofInt 64 (-1) = BitVec.allOnes 64 := by decide
  rw [h3, BitVec.allOnes_xor, BitVec.toNat_not, BitVec.toNat_ofInt]
  simp [IntKind.wrap, IntKind.bits, IntKind.signed]
  omega
set_option maxRecDepth 100000 in
theorem ofRank18 (r : Int) (h1 : -4294967296 ≤ r) (h2 : r ≤ 4294967296) (w : World) :
    Calls Tryd.prog 18 #[.int .i64 r] w fun e w' => e = .returned (.tuple #[.int .u32 ((ofRank r).1 : Nat), .int .i64 ((ofRank r).2 : Nat)]) ∧ w = w' := by
  by_cases c : r < -2147483648 ∨ 2147483647 < r
  · rw [show ofRank r = (0, 12) by unfold ofRank; rw [if_pos c]]
    rcases c with c | c
    · have c2 : decide (r < -2147483648) = true := decide_eq_true c
      go_enter Tryd.func18, Tryd.ntmps18
      go_wp2
      go_ret2
      exact ⟨rfl, rfl⟩
    · have c2 : decide (r < -2147483648) = false := decide_eq_false (by omega)
      have c3 : decide (2147483647 < r) = true := decide_eq_true c
      go_enter Tryd.func18, Tryd.ntmps18
      go_wp2
      go_ret2
      exact ⟨rfl, rfl⟩
  · have c2 : decide (r < -2147483648) = false := decide_eq_false (by omega)
    have c3 : decide (2147483647 < r) = false := decide_eq_false (by omega)
    by_cases d : r < 0
    · have d2 : decide (r < 0) = true := decide_eq_true d
      obtain ⟨x, hx⟩ : ∃ x : Nat, -r - 1 = x := ⟨(-r - 1).toNat, by omega⟩
      have e : ofRank r = (x + 2147483648, 0) := by
        unfold ofRank; rw [if_neg c, if_pos d]; congr 1; omega
      rw [e]
      have hb := bits_neg x (by omega)
      have hxr : bits .xor .i64 (-1) r = (x : Int) := by rw [i64_notI r (by omega) (by omega), hx]
      have hxm : (x : Int) % 4294967296 = x := by omega
      have HXR := Lib.hid hxr
      have HXM := Lib.hid hxm
      have HBB := Lib.hid hb
      clear hx e c h1 h2 hxr hxm hb
      go_enter Tryd.func18, Tryd.ntmps18
      go_wp2
      go_ret2
      refine ⟨?_, rfl⟩
      show Ending.returned (.tuple #[.int .u32 (bits .or .u32 (bits .xor .i64 (-1) r % 4294967296) 2147483648), .int .i64 0]) = _
      rw [HXR.out, HXM.out, HBB.out]
      rfl
    · have d2 : decide (r < 0) = false := decide_eq_false d
      obtain ⟨x, rfl⟩ : ∃ x : Nat, r = x := ⟨r.toNat, by omega⟩
      have e : ofRank x = (x, 0) := by
        unfold ofRank; rw [if_neg c, if_neg d]; congr 1
      rw [e]
      have hx : (x : Int) % 4294967296 = x := by omega
      clear e c h1 h2 d
      go_enter Tryd.func18, Tryd.ntmps18
      go_wp2
      go_ret2
      exact ⟨by first | rfl | (rw [hx]; rfl) | (simp [*]), rfl⟩
theorem and_top (u : Nat) (hu : u < 4294967296) : bits .and .u32 (u : Int) 2147483648 = ((u / 2147483648 * 2147483648 : Nat) : Int) := by
  have h := u32_and_nat u 2147483648 hu (by decide)
  have e : u &&& 2147483648 = u / 2147483648 * 2147483648 := by
    have e1 : (u &&& 2147483648) / 2 ^ 31 = (u / 2 ^ 31) &&& 1 := by rw [Nat.and_div_two_pow]
    have e2 : (u &&& 2147483648) % 2 ^ 31 = 0 := by rw [Nat.and_mod_two_pow]; simp
    have h2 := Nat.div_add_mod (u &&& 2147483648) (2 ^ 31)
    rw [e1, e2] at h2
    rcases (show u / 2 ^ 31 = 0 ∨ u / 2 ^ 31 = 1 by omega) with h3 | h3 <;> rw [h3] at h2 <;> simp at h2 <;> omega
  rw [e] at h
  exact h
theorem andNot_top (u : Nat) (hu : u < 4294967296) : bits .andNot .u32 (u : Int) 2147483648 = ((u % 2147483648 : Nat) : Int) := by
  have h := u32_andNot_nat u 2147483648 hu (by decide)
  have e : u &&& (4294967295 - 2147483648) = u % 2147483648 := by
    rw [show (4294967295 - 2147483648 : Nat) = 2 ^ 31 - 1 by decide, Nat.and_two_pow_sub_one_eq_mod]
  rw [e] at h
  exact h
set_option maxRecDepth 100000 in
theorem rank19 (u : Nat) (hu : u < 4294967296) (w : World) :
    Calls Tryd.prog 19 #[.int .u32 u] w fun e w' => e = .returned (.int .i64 (rankI u)) ∧ w = w' := by
  have h1 := and_top u hu
  have h2 := andNot_top u hu
  by_cases c : u / 2147483648 = 1
  · rw [c] at h1
    obtain ⟨x, hx⟩ : ∃ x, x = u % 2147483648 := ⟨_, rfl⟩
    rw [← hx] at h2
    have e : rankI u = -(x : Int) - 1 := by unfold rankI; rw [if_pos c, hx]
    rw [e]
    rw [show ((1 * 2147483648 : Nat) : Int) = 2147483648 from rfl] at h1
    have hxr : bits .xor .i64 (-1) (x : Int) = -(x : Int) - 1 := i64_notI x (by omega) (by omega)
    have hc : (bits .and .u32 (u : Int) 2147483648 != 0) = true := by rw [h1]; decide
    have HXR := Lib.hid hxr
    clear h1 hxr
    have hx2 : (x : Int) < 2147483648 := by omega
    have hx0 : (0 : Int) ≤ x := by omega
    have hwr : IntKind.i64.wrap (bits .andNot .u32 (u : Int) 2147483648) = (x : Int) := by rw [h2, IntKind.wrap_i64]; omega
    clear e c hx hu h2 hx2 hx0
    go_enter Tryd.func19, Tryd.ntmps19
    go_wp2
    go_ret
    refine ⟨?_, rfl⟩
    show Ending.returned (.int .i64 (bits .xor .i64 (-1) (x : Int))) = _
    rw [HXR.out]
  · rw [show u / 2147483648 = 0 by omega] at h1
    have e : rankI u = u := by unfold rankI; rw [if_neg c]
    rw [e]
    have hc : (bits .and .u32 (u : Int) 2147483648 != 0) = false := by rw [h1]; decide
    clear e c h2 h1
    go_enter Tryd.func19, Tryd.ntmps19
    go_wp2
    go_ret
    exact ⟨rfl, rfl⟩
set_option maxRecDepth 100000 in
set_option maxHeartbeats 4000000 in
theorem times23 (m : Nat) (hm : m < M384) (n : Nat) (hn : n < 9223372036854775808) (w : World) :
    Calls Tryd.prog 23 #[SV m, .int .i64 n] w fun e w' => e = .returned (SV (m * n % M384)) ∧ Below w.heap.size w w' := by
  have HM := Aside0.mk hm
  have HN : Aside0 (n < 18446744073709551616) := ⟨by omega⟩
  have hw0 : IntKind.u64.wrap (n : Int) = n := by rw [IntKind.wrap_u64]; omega
  have hl0 : decide ((n : Int) < 0) = false := decide_eq_false (by omega)
  have HP : Aside0 ((0 : Nat) < 18446744073709551616) := ⟨by decide⟩
  obtain ⟨R, hR⟩ : ∃ R, R = m * n % M384 := ⟨_, rfl⟩
  rw [← hR]
  have HR0 := Aside0.mk hR
  clear hm hn hR
  go_enter Tryd.func23, Tryd.ntmps23
  go_wp2
  clear hw0 hl0
  go_loopg [6, 7, 8, 9, 10, 19] 6 (fun kq v6 v7 v8 v9 v10 v19 w' => ∃ (i : Nat) (c : Nat), Aside0 (i + kq = 6) ∧ v19 = .int .i64 i ∧ v6 = .int .u64 (c : Nat) ∧ Aside0 (c = mcar m n 0 i) ∧ Aside0 (Cells w' w.heap.size (fun t => if t < i then wd (m * n + 0) t else wd m t)) ∧ Aside0 (Six w' (w.heap.size + 1) 0) ∧ Aside0 (Below w.heap.size w w'))
  case atStart =>
    refine ⟨0, 0, ⟨rfl⟩, rfl, rfl, ⟨(mcar_zero m n 0).symm⟩, ⟨?_⟩, ⟨?_⟩, ⟨by repeat (first | with_reducible exact Below.refl _ _ | ((with_reducible refine Below.setCell ?_ ?hp _); case hp => (first | omega | (simp <;> omega))) | ((with_reducible refine Below.alloc ?_ ?hp _); case hp => (first | omega | (simp <;> omega))) | (with_reducible refine Below.drew ?_))⟩⟩
    · have h6 : Six ((w.alloc (Obj.cells #[.int .u64 (wd m 0 : Nat), .int .u64 (wd m 1 : Nat), .int .u64 (wd m 2 : Nat), .int .u64 (wd m 3 : Nat), .int .u64 (wd m 4 : Nat), .int .u64 (wd m 5 : Nat)] 27)).alloc (Obj.cells #[.int .u64 0, .int .u64 0, .int .u64 0, .int .u64 0, .int .u64 0, .int .u64 0] 27)) w.heap.size m := by constructor <;> simp
      exact ⟨fun t ht => by rw [if_neg (by omega)]; exact h6.cells.c t ht, h6.cells.z⟩
    · constructor <;> simp [wd_zero]
  case round =>
    obtain ⟨i, c, HI, rfl, rfl, HR, HC, HY, HB⟩ := hrel
    have hz := HC.out.lt
    have hz1 : w.heap.size + 1 < wr.heap.size := World.block_lt_of_cell? wr ⟨w.heap.size + 1, 0, none⟩ HY.out.c0
    by_cases hi : i < 6
    · have hx := HC.out.c i hi
      have hf := HC.out.z i hi
      rw [if_neg (by omega)] at hx
      have p0 : (0 : Int) ≤ i := by omega
      have q0 : (i : Int) < 6 := by omega
      have c2 : decide ((i : Int) < 6) = true := decide_eq_true q0
      have hst := mcar_step m n 0 i
      rw [← HR.out] at hst
      have hcl : c < 18446744073709551616 := by rw [HR.out]; exact mcar_lt _ _ _ _ HN.out HP.out
      obtain ⟨x, hx1⟩ : ∃ x, x = wd m i := ⟨_, rfl⟩
      have hxl : x < 18446744073709551616 := by rw [hx1]; exact wd_lt _ _
      have HMu := Lib.hid (fun W => Tryd.bits_Mul64 x n hxl HN.out W)
      rw [← hx1] at hst hx
      obtain ⟨hi2, hhi⟩ : ∃ y, y = x * n / 18446744073709551616 := ⟨_, rfl⟩
      obtain ⟨lo, hlo⟩ : ∃ y, y = x * n % 18446744073709551616 := ⟨_, rfl⟩
      rw [← hhi, ← hlo] at HMu
      have hlol : lo < 18446744073709551616 := by rw [hlo]; exact Nat.mod_lt _ (by decide)
      have hadd := add64_0 lo c hlol hcl
      obtain ⟨s, hs⟩ : ∃ y, y = (lo + c) % 18446744073709551616 := ⟨_, rfl⟩
      obtain ⟨d, hd⟩ : ∃ y, y = (lo + c) / 18446744073709551616 := ⟨_, rfl⟩
      rw [← hs, ← hd] at hadd
      obtain ⟨c3, hc3⟩ : ∃ y, y = mcar m n 0 (i + 1) := ⟨_, rfl⟩
      rw [← hc3] at hst
      have hc3l : c3 < 18446744073709551616 := by rw [hc3]; exact mcar_lt _ _ _ _ HN.out HP.out
      generalize x * n = X at *
      have hsum : hi2 + d = c3 := by rw [← hst.1, hhi, hd, hlo]; omega
      have hsw : s = wd (m * n + 0) i := by rw [← hst.2, hs, hlo]; omega
      have hwr : IntKind.u64.wrap ((hi2 : Int) + d) = (c3 : Int) := by
        rw [show (hi2 : Int) + d = ((hi2 + d : Nat) : Int) by omega, hsum]
        rw [IntKind.wrap_u64]; omega
      have hw : wrap64 ((i : Int) + 1) = ((i + 1 : Nat) : Int) := by unfold wrap64; omega
      have LI := Aside0.mk hi
      have HSW := Aside0.mk hsw
      have HC3 := Aside0.mk hc3
      replace p0 := eq_true p0
      replace q0 := eq_true q0
      clear hst hcl hx1 hxl hhi hlo hlol hs hd hc3 hc3l hsum hsw hi HR
      go_wp2_with (go_at_call 37; refine (HMu.out _).mono ?_; rintro e W ⟨rfl, rfl⟩)
      try go_region
      all_goals go_wp2_with fail
      go_roundg (6 - (i + 1))
      case measure => have := HI.out; have := LI.out; omega
      case rel =>
        refine ⟨i + 1, c3, ⟨by have := LI.out; omega⟩, congrArg (Value.int .i64) hw, rfl, HC3, ⟨?_⟩, ⟨?_⟩, ⟨?_⟩⟩
        · have h6 := HC.out.set i s LI.out
          refine ⟨fun t ht => ?_, h6.z⟩
          refine (h6.c t ht).trans ?_
          congr 3
          by_cases e : t = i
          · subst e; rw [if_pos (Nat.lt_succ_self _)]; first | rfl | exact (if_pos rfl).trans HSW.out | exact HSW.out
          · rw [if_neg e]
            by_cases e2 : t < i
            · rw [if_pos e2, if_pos (by omega)]
            · rw [if_neg (by omega), if_neg (by omega)]
        · obtain ⟨x0, x1, x2, x3, x4, x5, g0, g1, g2, g3, g4, g5⟩ := HY.out
          constructor <;> simp [go_sem, *]
        · repeat (first | with_reducible exact Below.refl _ _ | ((with_reducible refine Below.setCell ?_ ?hp _); case hp => (first | omega | (simp <;> omega))) | ((with_reducible refine Below.alloc ?_ ?hp _); case hp => (first | omega | (simp <;> omega))) | (with_reducible refine Below.drew ?_))
          exact HB.out
    · have c2 : decide ((i : Int) < 6) = false := decide_eq_false (by omega)
      have hi6 : i = 6 := by have := HI.out; omega
      have hX : Six wr w.heap.size R := HC.out.six (fun t ht => by rw [if_pos (by omega), HR0.out, wd_mod _ _ ht, Nat.add_zero])
      obtain ⟨x0, x1, x2, x3, x4, x5, g0, g1, g2, g3, g4, g5⟩ := hX
      obtain ⟨y0, y1, y2, y3, y4, y5, h0, h1, h2, h3, h4, h5⟩ := HY.out
      clear HI HR HC hi hi6
      go_wp2_with fail
      refine bodyPost_ret (v := SV R) (by simp [results, Tryd.results23, go_sem, *]) rfl ⟨rfl, ?_⟩
      repeat (first | with_reducible exact Below.refl _ _ | ((with_reducible refine Below.setCell ?_ ?hp _); case hp => (first | omega | (simp <;> omega))) | ((with_reducible refine Below.alloc ?_ ?hp _); case hp => (first | omega | (simp <;> omega))) | (with_reducible refine Below.drew ?_))
      exact HB.out
end Go.Proofs.YtmnojohcfalodaaDoor
