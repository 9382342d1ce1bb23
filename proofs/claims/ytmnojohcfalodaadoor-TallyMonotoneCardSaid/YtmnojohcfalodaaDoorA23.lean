/-
  TallyMonotone, by a walk.
-/
import Derived.Test.YtmnojohcfalodaaDoorA22
import Derived.Test.YtmnojohcfalodaaDoorA15
import Derived.Deep.DeepCutAuto
import Derived.Deep.CutBlock
import Derived.Outline
namespace Go.Proofs.YtmnojohcfalodaaDoor
set_option linter.unusedVariables false
set_option linter.unusedSimpArgs false
open Go.RowKit Go.Proofs.YtmnojohcfalodaaDoorW.PrintWords Go.Proofs.YtmnojohcfalodaaDoorW.PrintLast Go.Proofs.YtmnojohcfalodaaDoorW.PrintMore
def Fin32 (u : Nat) : Prop := u < 4294967296 ∧ u % 2147483648 < 2139095040
theorem ord_val (u v : Nat) (hu : Fin32 u) (hv : Fin32 v) : FloatKind.f32.format.order u v = some (compare (fvI u) (fvI v)) := order_fin u v hu.1 hv.1 hu.2 hv.2
theorem ord_eq (u v : Nat) (hu : Fin32 u) (hv : Fin32 v) : (FloatKind.f32.format.order u v == some Ordering.eq) = decide (fvI u = fvI v) := by
  rw [ord_val u v hu hv, Bool.eq_iff_iff]
  simp
theorem ord_ne (u v : Nat) (hu : Fin32 u) (hv : Fin32 v) : (FloatKind.f32.format.order u v != some Ordering.eq) = !decide (fvI u = fvI v) := by
  rw [bne, ord_eq u v hu hv]
theorem ord_gt (u v : Nat) (hu : Fin32 u) (hv : Fin32 v) : (FloatKind.f32.format.order u v == some Ordering.gt) = decide (fvI v < fvI u) := by
  rw [ord_val u v hu hv, Bool.eq_iff_iff]
  simp [Int.compare_eq_gt]
theorem sides_key (p P Q : Nat) (T : TwoOk p 1 P Q) : ∃ (A B : Int) (E : Bool), cmpI (sv (putN 0 P)) (sv p) = A ∧ cmpI (sv (putN 0 Q)) (sv p) = B ∧ (FloatKind.f32.format.order P Q == some Ordering.eq) = E ∧ ((A = 0 ∧ B = 0 ∧ E = true) ∨ (A = -1 ∧ B = 1 ∧ E = false ∧ P ≠ 2147483648 ∧ (ofRank (rankI P + 1)).2 = 0 ∧ (ofRank (rankI P + 1)).1 = Q)) := by
  refine ⟨_, _, _, rfl, rfl, rfl, ?_⟩
  rw [(sv_one P T.l1 T.l2).1, (sv_one Q T.h1 T.h2).1, ord_eq P Q ⟨T.l1, T.l2⟩ ⟨T.h1, T.h2⟩]
  have h1 := T.below
  have h2 := T.above
  have h3 := T.both
  have h4 := T.same
  have h5 := T.next
  simp only [Int.natCast_one, Int.mul_one] at h1 h2 h3 h4 h5
  unfold cmpI
  by_cases c : fvI P = sv p
  · left
    have := h3.1 c
    refine ⟨?_, ?_, decide_eq_true (h4.2 c)⟩
    · rw [if_neg (by omega), if_neg (by omega)]
    · rw [if_neg (by omega), if_neg (by omega)]
  · right
    obtain ⟨g1, g2, g3⟩ := h5 c
    have c2 : fvI Q ≠ sv p := fun h => c (h3.2 h)
    refine ⟨?_, ?_, decide_eq_false (fun h => c (h4.1 h)), g1, g2, g3⟩
    · rw [if_pos (by omega)]
    · rw [if_neg (by omega), if_pos (by omega)]
theorem mode_of (mode : Int) : ∃ mo : Nat, wrap64 (Int.tmod (IntKind.u64.wrap mode) 4) = (mo : Int) ∧ mo ≤ 3 := by
  have e2 : 0 ≤ IntKind.u64.wrap mode := by rw [IntKind.wrap_u64]; omega
  obtain ⟨a, ha⟩ := Int.eq_ofNat_of_zero_le e2
  rw [ha, show Int.tmod (a : Int) 4 = ((a % 4 : Nat) : Int) from rfl]
  refine ⟨a % 4, ?_, by omega⟩
  unfold wrap64
  omega
theorem swapped (m n : Nat) (hm : m < M384) (hn : n < M384) : ∃ p q, p < M384 ∧ q < M384 ∧ sv p ≤ sv q ∧ ((decide (0 < cmpI (sv m) (sv n)) = true ∧ p = n ∧ q = m) ∨ (decide (0 < cmpI (sv m) (sv n)) = false ∧ p = m ∧ q = n)) := by
  by_cases h : sv n < sv m
  · refine ⟨n, m, hn, hm, by omega, .inl ⟨?_, rfl, rfl⟩⟩
    unfold cmpI; rw [if_neg (by omega), if_pos h]; rfl
  · refine ⟨m, n, hm, hn, by omega, .inr ⟨?_, rfl, rfl⟩⟩
    unfold cmpI
    rw [if_neg h]
    split <;> rfl
set_option maxRecDepth 100000 in
set_option maxHeartbeats 16000000 in
theorem monotone_any (m n : Nat) (hm : m < M384) (hn : n < M384) (mode : Int) (w : World) (hM : Modes w) :
    Calls Tryd.prog 4 #[SV m, SV n, .int .i64 mode] w fun e w' => e = .returned (.bool true) ∧ Below w.heap.size w w' := by
  have HM := Aside0.mk hM
  have lt3 := Aside0.mk hM.lt
  obtain ⟨mo, hmo, hmo3⟩ := mode_of mode
  have HMO := Aside0.mk hmo
  obtain ⟨p, q, hp, hq, hpq, hsw⟩ := swapped m n hm hn
  have HCmp := Lib.hid (fun W => compare_any m n hm hn W)
  obtain ⟨C, hC⟩ : ∃ C, C = cmpI (sv m) (sv n) := ⟨_, rfl⟩
  rw [← hC] at hsw HCmp
  have HSW := Aside0.mk hsw
  have HPQ := Aside0.mk hpq
  have HP := Aside0.mk hp
  have HQ := Aside0.mk hq
  clear hC hsw hpq hp hq hm hn hM hmo
  go_enter Tryd.func4, Tryd.ntmps4
  go_wp2_with fail
  refine (HCmp.out _).mono ?_
  rintro e w1 ⟨rfl, hb1⟩
  obtain ⟨hc1, hf1, hz1⟩ := kept_to hb1 (w.heap.size + 4) (by simp)
  have HB1 := Lib.hid hb1; clear hb1
  have X7 : Six w1 (w.heap.size + 1 + 1) m := by constructor <;> simp [go_sem, *]
  have X8 : Six w1 (w.heap.size + 1 + 1 + 1) n := by constructor <;> simp [go_sem, *]
  have HX7 := Aside0.mk X7
  have HX8 := Aside0.mk X8
  clear X7 X8
  go_upto_if 27 with (fail)
  go_cut [28] (fun _ wx => Six wx (w.heap.size + 1 + 1) p ∧ Six wx (w.heap.size + 1 + 1 + 1) q ∧ Aside0 (Below w.heap.size w wx))
  case first =>
    rcases HSW.out with ⟨c, h1, h2⟩ | ⟨c, h1, h2⟩
    · subst h1 h2
      have c' : 0 < C := of_decide_eq_true c
      go_wp2_with fail
      go_meet
      refine ⟨six_far (by omega) (six_set HX7.out), six_set (six_far (by omega) HX8.out), ⟨?_⟩⟩
      repeat (first | with_reducible exact Below.refl _ _ | ((with_reducible refine Below.setCell ?_ ?hp _); case hp => (first | omega | (simp <;> omega))) | ((with_reducible refine Below.alloc ?_ ?hp _); case hp => (first | omega | (simp <;> omega))) | (with_reducible refine Below.drew ?_) | ((with_reducible refine Below.trans ?_ (HB1.out.mono ?hm)); case hm => (first | omega | (simp <;> omega))))
    · subst h1 h2
      have c' : ¬ 0 < C := of_decide_eq_false c
      go_wp2_with fail
      go_meet
      refine ⟨HX7.out, HX8.out, ⟨?_⟩⟩
      repeat (first | with_reducible exact Below.refl _ _ | ((with_reducible refine Below.setCell ?_ ?hp _); case hp => (first | omega | (simp <;> omega))) | ((with_reducible refine Below.alloc ?_ ?hp _); case hp => (first | omega | (simp <;> omega))) | (with_reducible refine Below.drew ?_) | ((with_reducible refine Below.trans ?_ (HB1.out.mono ?hm)); case hm => (first | omega | (simp <;> omega))))
  case rest =>
    obtain ⟨X, Y, HB⟩ := hcut
    have hz := World.block_lt_of_cell? _ ⟨w.heap.size + 1 + 1 + 1, 0, none⟩ Y.c0
    clear HSW HX7 HX8 HCmp HB1 hc1 hf1 hz1
    obtain ⟨x, hx⟩ : ∃ x, x = overN p 1 mo := ⟨_, rfl⟩
    obtain ⟨y, hy⟩ : ∃ y, y = overN q 1 mo := ⟨_, rfl⟩
    have HRx := Lib.hid (fun W hW => round_any p HP.out mo hmo3 W hW)
    have HRy := Lib.hid (fun W hW => round_any q HQ.out mo hmo3 W hW)
    have hxe := over_err p 1 mo (by decide)
    have hye := over_err q 1 mo (by decide)
    have hgt : x.2 = 0 → y.2 = 0 → (FloatKind.f32.format.order x.1 y.1 == some Ordering.gt) = false := by
      intro h1 h2
      rw [hx, hy] at *
      have o1 := over_ok p 1 mo HP.out (by decide) h1
      have o2 := over_ok q 1 mo HQ.out (by decide) h2
      rw [ord_gt _ _ ⟨o1.1, o1.2.1⟩ ⟨o2.1, o2.2.1⟩]
      have := round_mono p q 1 mo HP.out HQ.out (by decide) hmo3 HPQ.out h1 h2
      exact decide_eq_false (by omega)
    rw [← hx] at hxe HRx
    rw [← hy] at hye HRy
    obtain ⟨x1, x2⟩ := x
    obtain ⟨y1, y2⟩ := y
    simp only at hxe hye hgt HRx HRy
    have HX := Lib.hid X
    have HY := Lib.hid Y
    have HXE := Aside0.mk hxe
    have HYE := Aside0.mk hye
    have HGT := Aside0.mk hgt
    have hmoe := HMO.out
    clear hx hy hxe hye hgt Y
    obtain ⟨a0, a1, a2, a3, a4, a5, b0, b1, b2, b3, b4, b5⟩ := X
    go_wp2_with fail
    clear hmoe
    refine (HRx.out _ (HM.out.keep (show Below w.heap.size w _ from by repeat (first | with_reducible exact Below.refl _ _ | ((with_reducible refine Below.setCell ?_ ?hp _); case hp => (first | omega | (simp <;> omega))) | ((with_reducible refine Below.alloc ?_ ?hp _); case hp => (first | omega | (simp <;> omega))) | (with_reducible refine Below.drew ?_) | ((with_reducible refine Below.trans ?_ (HB.out.mono ?hm)); case hm => (first | omega | (simp <;> omega))))) lt3.out)).mono ?_
    rintro e w2 ⟨rfl, hb2⟩
    have HX2 := Lib.hid (HX.out.keep hb2)
    have HY2 := Lib.hid (HY.out.keep hb2)
    have HB2 : Aside0 (Below w.heap.size w w2) := ⟨HB.out.trans (hb2.mono HB.out.size)⟩
    clear hb2 a0 a1 a2 a3 a4 a5 b0 b1 b2 b3 b4 b5
    obtain ⟨a0, a1, a2, a3, a4, a5, b0, b1, b2, b3, b4, b5⟩ := HY2.out
    go_wp2_with fail
    refine (HRy.out _ (HM.out.keep (show Below w.heap.size w _ from HB2.out) lt3.out)).mono ?_
    rintro e w3 ⟨rfl, hb3⟩
    have HX3 := Lib.hid (HX2.out.keep hb3)
    have HY3 := Lib.hid (HY2.out.keep hb3)
    have HB03 : Aside0 (Below w.heap.size w w3) := ⟨HB2.out.trans (hb3.mono HB2.out.size)⟩
    clear hb3 a0 a1 a2 a3 a4 a5 b0 b1 b2 b3 b4 b5 HX HY HX2 HY2 HB2 HB HRx HRy hz
    go_upto_region 9 with (fail)
    go_cut [62] (fun t wx => t = .bool false ∧ Six wx (w.heap.size + 1 + 1) p ∧ Aside0 (Below w.heap.size w wx))
    case first =>
      have HAw := Lib.hid (fun W hW => awake_any W hW)
      rcases HXE.out with h1 | h1
      · rcases HYE.out with h2 | h2
        · have hg := HGT.out h1 h2
          subst h1 h2
          go_wp2_with (first | (go_at_call 11; refine (num11 _ _).mono ?_; rintro e W ⟨rfl, rfl⟩) | (go_at_call 10; refine (HAw.out _ (HM.out.keep (show Below w.heap.size w _ from HB03.out) lt3.out)).mono ?_; rintro e w4 ⟨rfl, hb4⟩; have HB4 := Aside0.mk hb4; clear hb4))
          go_meet
          exact ⟨rfl, HX3.out.keep HB4.out, ⟨HB03.out.trans (HB4.out.mono HB03.out.size)⟩⟩
        · subst h1 h2
          go_wp2_with (first | (go_at_call 11; refine (num11 _ _).mono ?_; rintro e W ⟨rfl, rfl⟩) | (go_at_call 10; refine (HAw.out _ (HM.out.keep (show Below w.heap.size w _ from HB03.out) lt3.out)).mono ?_; rintro e w4 ⟨rfl, hb4⟩; have HB4 := Aside0.mk hb4; clear hb4))
          go_meet
          exact ⟨rfl, HX3.out.keep HB4.out, ⟨HB03.out.trans (HB4.out.mono HB03.out.size)⟩⟩
      · subst h1
        go_wp2_with (first | (go_at_call 11; refine (num11 _ _).mono ?_; rintro e W ⟨rfl, rfl⟩) | (go_at_call 10; refine (HAw.out _ (HM.out.keep (show Below w.heap.size w _ from HB03.out) lt3.out)).mono ?_; rintro e w4 ⟨rfl, hb4⟩; have HB4 := Aside0.mk hb4; clear hb4))
        go_meet
        exact ⟨rfl, HX3.out.keep HB4.out, ⟨HB03.out.trans (HB4.out.mono HB03.out.size)⟩⟩
    case rest =>
      obtain ⟨rfl, X4, HB4⟩ := hcut
      clear HX3 HY3 HB03 HXE HYE HGT
      obtain ⟨r2, hr2⟩ : ∃ x, x = overN p 1 2 := ⟨_, rfl⟩
      obtain ⟨r3, hr3⟩ : ∃ x, x = overN p 1 3 := ⟨_, rfl⟩
      have HR2 := Lib.hid (fun W hW => round_any p HP.out 2 (by decide) W hW)
      have HR3 := Lib.hid (fun W hW => round_any p HP.out 3 (by decide) W hW)
      have h2e := over_err p 1 2 (by decide)
      have h3e := over_err p 1 3 (by decide)
      have HT := Aside0.mk (two_ok p 1 HP.out (by decide))
      rw [← hr2] at HR2 h2e HT
      rw [← hr3] at HR3 h3e HT
      obtain ⟨P, e2⟩ := r2
      obtain ⟨Q, e3⟩ := r3
      simp only at HR2 HR3 h2e h3e HT
      have H2E := Aside0.mk h2e
      have H3E := Aside0.mk h3e
      have HX4 := Lib.hid X4
      clear h2e h3e hr2 hr3
      obtain ⟨a0, a1, a2, a3, a4, a5, b0, b1, b2, b3, b4, b5⟩ := X4
      go_wp2_with fail
      refine (HR2.out _ (HM.out.keep (show Below w.heap.size w _ from HB4.out) lt3.out)).mono ?_
      rintro e w5 ⟨rfl, hb5⟩
      have HX5 := Lib.hid (HX4.out.keep hb5)
      have HB5 : Aside0 (Below w.heap.size w w5) := ⟨HB4.out.trans (hb5.mono HB4.out.size)⟩
      clear hb5 a0 a1 a2 a3 a4 a5 b0 b1 b2 b3 b4 b5
      obtain ⟨a0, a1, a2, a3, a4, a5, b0, b1, b2, b3, b4, b5⟩ := HX5.out
      go_wp2_with fail
      refine (HR3.out _ (HM.out.keep (show Below w.heap.size w _ from HB5.out) lt3.out)).mono ?_
      rintro e w6 ⟨rfl, hb6⟩
      have HX6 := Lib.hid (HX5.out.keep hb6)
      have HB06 : Aside0 (Below w.heap.size w w6) := ⟨HB5.out.trans (hb6.mono HB5.out.size)⟩
      clear hb6 a0 a1 a2 a3 a4 a5 b0 b1 b2 b3 b4 b5
      clear HB5 HB4 HX4 HX5 HR2 HR3
      have bad : e2 ≠ 0 ∨ e3 ≠ 0 → (e2 = 0 ∧ e3 = 20) ∨ (e2 = 20 ∧ e3 = 0) ∨ (e2 = 20 ∧ e3 = 20) := by
        have := H2E.out; have := H3E.out; omega
      by_cases ok : e2 = 0 ∧ e3 = 0
      · obtain ⟨o1, o2⟩ := ok
        have T := HT.out o1 o2
        obtain ⟨A, B, E, hA, hB, hE, hcase⟩ := sides_key p P Q T
        have HTT := Aside0.mk T
        have HE := Aside0.mk hE
        have HCase := Aside0.mk hcase
        have HOP := Lib.hid (fun W => of17 P HTT.out.l1 HTT.out.l2 W)
        have HOQ := Lib.hid (fun W => of17 Q HTT.out.h1 HTT.out.h2 W)
        have HCP := Lib.hid (fun W => compare_any (putN 0 P) p (sv_one P HTT.out.l1 HTT.out.l2).2 HP.out W)
        have HCQ := Lib.hid (fun W => compare_any (putN 0 Q) p (sv_one Q HTT.out.h1 HTT.out.h2).2 HP.out W)
        rw [hA] at HCP
        rw [hB] at HCQ
        generalize putN 0 P = SP at *
        generalize putN 0 Q = SQ at *
        subst o1 o2
        clear T hcase hA hB hE HT bad H2E H3E
        have X6 := HX6.out
        obtain ⟨a0, a1, a2, a3, a4, a5, b0, b1, b2, b3, b4, b5⟩ := X6
        have hz6 : w.heap.size + 1 + 1 < w6.heap.size := World.block_lt_of_cell? w6 ⟨w.heap.size + 1 + 1, 0, none⟩ HX6.out.c0
        go_upto_region 15 with (go_at_call 11; refine (num11 _ _).mono ?_; rintro e W ⟨rfl, rfl⟩)
        go_cut [16] (fun t wx => t = .int .i64 A ∧ Six wx (w.heap.size + 1 + 1) p ∧ Aside0 (Below w.heap.size w wx))
        case first =>
          go_region_with (first | (go_at_call 17; refine (HOP.out _).mono ?_; rintro e W ⟨rfl, hb⟩; obtain ⟨hc, hf, hzk⟩ := kept_to hb (w.heap.size + 1 + 1 + 1) (by first | omega | (simp <;> omega)); have hs7 : w6.heap.size ≤ W.heap.size := (by have := hb.size; (try simp at this); omega); have HBo := Lib.hid hb; clear hb) | (go_at_call 15; refine (HCP.out _).mono ?_; rintro e W2 ⟨rfl, hb⟩; have HBc := Lib.hid hb; clear hb))
          all_goals go_wp2_with fail
          all_goals go_meet
          all_goals exact ⟨rfl, HX6.out.keep (by repeat (first | with_reducible exact Below.refl _ _ | ((with_reducible refine Below.setCell ?_ ?hp _); case hp => (first | omega | (simp <;> omega))) | ((with_reducible refine Below.alloc ?_ ?hp _); case hp => (first | omega | (simp <;> omega))) | (with_reducible refine Below.drew ?_) | ((with_reducible refine Below.trans ?_ (HBc.out.mono ?hm)); case hm => (first | omega | (simp <;> omega))) | ((with_reducible refine Below.trans ?_ (HBo.out.mono ?hm)); case hm => (first | omega | (simp <;> omega))))), ⟨by repeat (first | with_reducible exact Below.refl _ _ | ((with_reducible refine Below.setCell ?_ ?hp _); case hp => (first | omega | (simp <;> omega))) | ((with_reducible refine Below.alloc ?_ ?hp _); case hp => (first | omega | (simp <;> omega))) | (with_reducible refine Below.drew ?_) | ((with_reducible refine Below.trans ?_ (HBc.out.mono ?hm)); case hm => (first | omega | (simp <;> omega))) | ((with_reducible refine Below.trans ?_ (HBo.out.mono ?hm)); case hm => (first | omega | (simp <;> omega))) | ((with_reducible refine Below.trans ?_ (HB06.out.mono ?hm)); case hm => (first | omega | (simp <;> omega))))⟩⟩
        case rest =>
          obtain ⟨rfl, X7, HB7⟩ := hcut
          clear a0 a1 a2 a3 a4 a5 b0 b1 b2 b3 b4 b5 HX6 HB06 hz6 HOP HCP
          have HX7 := Lib.hid X7
          obtain ⟨a0, a1, a2, a3, a4, a5, b0, b1, b2, b3, b4, b5⟩ := X7
          have hz7 : w.heap.size + 1 + 1 < wc.heap.size := World.block_lt_of_cell? wc ⟨w.heap.size + 1 + 1, 0, none⟩ HX7.out.c0
          go_upto_region 16 with (fail)
          go_cut [17] (fun t wx => t = .int .i64 B ∧ Six wx (w.heap.size + 1 + 1) p ∧ Aside0 (Below w.heap.size w wx))
          case first =>
            go_region_with (first | (go_at_call 17; refine (HOQ.out _).mono ?_; rintro e W ⟨rfl, hb⟩; obtain ⟨hc, hf, hzk⟩ := kept_to hb (w.heap.size + 1 + 1 + 1) (by first | omega | (simp <;> omega)); have hs7 : wc.heap.size ≤ W.heap.size := (by have := hb.size; (try simp at this); omega); have HBo := Lib.hid hb; clear hb) | (go_at_call 15; refine (HCQ.out _).mono ?_; rintro e W2 ⟨rfl, hb⟩; have HBc := Lib.hid hb; clear hb))
            all_goals go_wp2_with fail
            all_goals go_meet
            all_goals exact ⟨rfl, HX7.out.keep (by repeat (first | with_reducible exact Below.refl _ _ | ((with_reducible refine Below.setCell ?_ ?hp _); case hp => (first | omega | (simp <;> omega))) | ((with_reducible refine Below.alloc ?_ ?hp _); case hp => (first | omega | (simp <;> omega))) | (with_reducible refine Below.drew ?_) | ((with_reducible refine Below.trans ?_ (HBc.out.mono ?hm)); case hm => (first | omega | (simp <;> omega))) | ((with_reducible refine Below.trans ?_ (HBo.out.mono ?hm)); case hm => (first | omega | (simp <;> omega))))), ⟨by repeat (first | with_reducible exact Below.refl _ _ | ((with_reducible refine Below.setCell ?_ ?hp _); case hp => (first | omega | (simp <;> omega))) | ((with_reducible refine Below.alloc ?_ ?hp _); case hp => (first | omega | (simp <;> omega))) | (with_reducible refine Below.drew ?_) | ((with_reducible refine Below.trans ?_ (HBc.out.mono ?hm)); case hm => (first | omega | (simp <;> omega))) | ((with_reducible refine Below.trans ?_ (HBo.out.mono ?hm)); case hm => (first | omega | (simp <;> omega))) | ((with_reducible refine Below.trans ?_ (HB7.out.mono ?hm)); case hm => (first | omega | (simp <;> omega))))⟩⟩

          case rest =>
            obtain ⟨rfl, X8, HB8⟩ := hcut
            clear a0 a1 a2 a3 a4 a5 b0 b1 b2 b3 b4 b5 HX7 HB7 hz7 HOQ HCQ
            obtain ⟨v0, hv0⟩ : ∃ x, x = overN p 1 0 := ⟨_, rfl⟩
            obtain ⟨v1, hv1⟩ : ∃ x, x = overN p 1 1 := ⟨_, rfl⟩
            have HV0 := Lib.hid (fun W hW => round_any p HP.out 0 (by decide) W hW)
            have HV1 := Lib.hid (fun W hW => round_any p HP.out 1 (by decide) W hW)
            have n0 : v0.2 = 0 ∧ ((FloatKind.f32.format.order v0.1 P != some Ordering.eq) = false ∨ ((FloatKind.f32.format.order v0.1 P != some Ordering.eq) = true ∧ (FloatKind.f32.format.order v0.1 Q != some Ordering.eq) = false)) := by
              have T := HTT.out
              have o := over_ok p 1 0 HP.out (by decide) T.e0
              rw [hv0, ord_ne _ _ ⟨o.1, o.2.1⟩ ⟨T.l1, T.l2⟩, ord_ne _ _ ⟨o.1, o.2.1⟩ ⟨T.h1, T.h2⟩]
              refine ⟨T.e0, ?_⟩
              by_cases c : fvI (overN p 1 0).1 = fvI P
              · left; rw [decide_eq_true c]; rfl
              · right
                have := T.even.resolve_left c
                exact ⟨by rw [decide_eq_false c]; rfl, by rw [decide_eq_true this]; rfl⟩
            have n1 : v1.2 = 0 ∧ ((FloatKind.f32.format.order v1.1 P != some Ordering.eq) = false ∨ ((FloatKind.f32.format.order v1.1 P != some Ordering.eq) = true ∧ (FloatKind.f32.format.order v1.1 Q != some Ordering.eq) = false)) := by
              have T := HTT.out
              have o := over_ok p 1 1 HP.out (by decide) T.e1
              rw [hv1, ord_ne _ _ ⟨o.1, o.2.1⟩ ⟨T.l1, T.l2⟩, ord_ne _ _ ⟨o.1, o.2.1⟩ ⟨T.h1, T.h2⟩]
              refine ⟨T.e1, ?_⟩
              by_cases c : fvI (overN p 1 1).1 = fvI P
              · left; rw [decide_eq_true c]; rfl
              · right
                have := T.zero.resolve_left c
                exact ⟨by rw [decide_eq_false c]; rfl, by rw [decide_eq_true this]; rfl⟩
            rw [← hv0] at HV0
            rw [← hv1] at HV1
            obtain ⟨V0, z0⟩ := v0
            obtain ⟨V1, z1⟩ := v1
            simp only at HV0 HV1 n0 n1
            obtain ⟨rfl, n0⟩ := n0
            obtain ⟨rfl, n1⟩ := n1
            have N0 := Aside0.mk n0
            have N1 := Aside0.mk n1
            have HQQ : Aside0 ((FloatKind.f32.format.order Q Q == some Ordering.eq) = true) := ⟨by rw [ord_eq Q Q ⟨HTT.out.h1, HTT.out.h2⟩ ⟨HTT.out.h1, HTT.out.h2⟩]; simp⟩
            have hrk : -4294967296 < rankI P ∧ rankI P < 4294967295 := by
              have := HTT.out.l1; unfold rankI; split <;> omega
            have HRk := Lib.hid (fun W => rank19 P HTT.out.l1 W)
            have HOR := Lib.hid (fun W => ofRank18 (rankI P + 1) (by omega) (by omega) W)
            have HBP := Lib.hid (fun W => bits20 P W)
            have HFQ := Lib.hid (fun W => float21 (Q : Int) (by omega) W)
            rw [Int.toNat_natCast] at HFQ
            have HX8 := Lib.hid X8
            have HP31 := HCase.out
            generalize rankI P = RK at *
            obtain ⟨OR, hOR⟩ : ∃ x, x = ofRank (RK + 1) := ⟨_, rfl⟩
            rw [← hOR] at HOR HP31
            obtain ⟨O1, O2⟩ := OR
            simp only at HOR HP31
            have HCase2 := Aside0.mk HP31
            have hrk1 := hrk.1
            have hrk2 := hrk.2
            clear hv0 hv1 n0 n1 hOR hrk HP31
            obtain ⟨a0, a1, a2, a3, a4, a5, b0, b1, b2, b3, b4, b5⟩ := X8
            rcases HCase2.out with ⟨c1, c2, c3⟩ | ⟨c1, c2, c3, c4, c5, c6⟩
            · as_aux_lemma =>
              subst c1 c2
              have hE := HE.out
              rw [c3] at hE
              clear c3
              go_wp2_with fail
              refine (HV0.out _ (HM.out.keep (show Below w.heap.size w _ from HB8.out) lt3.out)).mono ?_
              rintro e w9 ⟨rfl, hb9⟩
              have HX9 := Lib.hid (HX8.out.keep hb9)
              have HB9 : Aside0 (Below w.heap.size w w9) := ⟨HB8.out.trans (hb9.mono HB8.out.size)⟩
              clear hb9 a0 a1 a2 a3 a4 a5 b0 b1 b2 b3 b4 b5
              obtain ⟨a0, a1, a2, a3, a4, a5, b0, b1, b2, b3, b4, b5⟩ := HX9.out
              go_wp2_with fail
              refine (HV1.out _ (HM.out.keep (show Below w.heap.size w _ from HB9.out) lt3.out)).mono ?_
              rintro e w10 ⟨rfl, hb10⟩
              have HB10 : Aside0 (Below w.heap.size w w10) := ⟨HB9.out.trans (hb10.mono HB9.out.size)⟩
              clear hb10 a0 a1 a2 a3 a4 a5 b0 b1 b2 b3 b4 b5 HX8 HX9 HB8 HB9 HV0 HV1
              go_upto_region 21 with (fail)
              go_cut [165] (fun t wx => t = .bool false ∧ w10 = wx)
              case first =>
                rcases N0.out with h1 | ⟨h1, h2⟩
                · rcases N1.out with h3 | ⟨h3, h4⟩
                  all_goals
                    go_wp2_with (go_at_call 11; refine (num11 _ _).mono ?_; rintro e W ⟨rfl, rfl⟩)
                    go_meet
                    exact ⟨rfl, rfl⟩
                · rcases N1.out with h3 | ⟨h3, h4⟩
                  all_goals
                    go_wp2_with (go_at_call 11; refine (num11 _ _).mono ?_; rintro e W ⟨rfl, rfl⟩)
                    go_meet
                    exact ⟨rfl, rfl⟩
              case rest =>
                obtain ⟨rfl, rfl⟩ := hcut
                go_wp2_with (first | (go_at_call 11; refine (num11 _ _).mono ?_; rintro e W ⟨rfl, rfl⟩) | (go_at_call 20; refine (HBP.out _).mono ?_; rintro e W ⟨rfl, rfl⟩) | (go_at_call 19; refine (HRk.out _).mono ?_; rintro e W ⟨rfl, rfl⟩) | (go_at_call 18; refine (HOR.out _).mono ?_; rintro e W ⟨rfl, rfl⟩) | (go_at_call 21; refine (HFQ.out _).mono ?_; rintro e W ⟨rfl, rfl⟩))
                go_ret
                exact ⟨rfl, HB10.out⟩
            · as_aux_lemma =>
              subst c1 c2
              have hE := HE.out
              rw [c3] at hE
              have hP1 : ¬ (P : Int) = 2147483648 := by omega
              have hP2 : ((P : Int) == 2147483648) = false := by rw [beq_eq_false_iff_ne]; omega
              have hQQ := HQQ.out
              subst c5 c6
              clear c3 c4
              go_wp2_with fail
              refine (HV0.out _ (HM.out.keep (show Below w.heap.size w _ from HB8.out) lt3.out)).mono ?_
              rintro e w9 ⟨rfl, hb9⟩
              have HX9 := Lib.hid (HX8.out.keep hb9)
              have HB9 : Aside0 (Below w.heap.size w w9) := ⟨HB8.out.trans (hb9.mono HB8.out.size)⟩
              clear hb9 a0 a1 a2 a3 a4 a5 b0 b1 b2 b3 b4 b5
              obtain ⟨a0, a1, a2, a3, a4, a5, b0, b1, b2, b3, b4, b5⟩ := HX9.out
              go_wp2_with fail
              refine (HV1.out _ (HM.out.keep (show Below w.heap.size w _ from HB9.out) lt3.out)).mono ?_
              rintro e w10 ⟨rfl, hb10⟩
              have HB10 : Aside0 (Below w.heap.size w w10) := ⟨HB9.out.trans (hb10.mono HB9.out.size)⟩
              clear hb10 a0 a1 a2 a3 a4 a5 b0 b1 b2 b3 b4 b5 HX8 HX9 HB8 HB9 HV0 HV1
              go_upto_region 21 with (fail)
              go_cut [165] (fun t wx => t = .bool false ∧ w10 = wx)
              case first =>
                rcases N0.out with h1 | ⟨h1, h2⟩
                · rcases N1.out with h3 | ⟨h3, h4⟩
                  all_goals
                    go_wp2_with (go_at_call 11; refine (num11 _ _).mono ?_; rintro e W ⟨rfl, rfl⟩)
                    go_meet
                    exact ⟨rfl, rfl⟩
                · rcases N1.out with h3 | ⟨h3, h4⟩
                  all_goals
                    go_wp2_with (go_at_call 11; refine (num11 _ _).mono ?_; rintro e W ⟨rfl, rfl⟩)
                    go_meet
                    exact ⟨rfl, rfl⟩
              case rest =>
                obtain ⟨rfl, rfl⟩ := hcut
                go_wp2_with (first | (go_at_call 11; refine (num11 _ _).mono ?_; rintro e W ⟨rfl, rfl⟩) | (go_at_call 20; refine (HBP.out _).mono ?_; rintro e W ⟨rfl, rfl⟩) | (go_at_call 19; refine (HRk.out _).mono ?_; rintro e W ⟨rfl, rfl⟩) | (go_at_call 18; refine (HOR.out _).mono ?_; rintro e W ⟨rfl, rfl⟩) | (go_at_call 21; refine (HFQ.out _).mono ?_; rintro e W ⟨rfl, rfl⟩))
                go_ret
                exact ⟨rfl, HB10.out⟩
      · rcases bad (by omega) with ⟨h1, h2⟩ | ⟨h1, h2⟩ | ⟨h1, h2⟩
        all_goals
          subst h1 h2
          clear ok bad
          go_wp2_with (go_at_call 11; refine (num11 _ _).mono ?_; rintro e W ⟨rfl, rfl⟩)
          go_ret
          exact ⟨rfl, HB06.out⟩
end Go.Proofs.YtmnojohcfalodaaDoor
