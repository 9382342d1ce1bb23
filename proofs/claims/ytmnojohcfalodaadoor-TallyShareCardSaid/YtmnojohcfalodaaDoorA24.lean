/-
  TallyShare, by a walk.
-/
import Derived.Test.YtmnojohcfalodaaDoorA22
import Derived.Test.YtmnojohcfalodaaDoorA15
import Derived.Deep.DeepCutAuto
import Derived.Deep.CutBlock
import Derived.Deep.RegionHeld3
namespace Go.Proofs.YtmnojohcfalodaaDoor
set_option linter.unusedVariables false
set_option linter.unusedSimpArgs false
open Go.RowKit Go.Proofs.YtmnojohcfalodaaDoorW.PrintWords Go.Proofs.YtmnojohcfalodaaDoorW.PrintLast Go.Proofs.YtmnojohcfalodaaDoorW.PrintMore
def Fin32 (u : Nat) : Prop := u < 4294967296 ∧ u % 2147483648 < 2139095040
theorem ord_val (u v : Nat) (hu : Fin32 u) (hv : Fin32 v) : FloatKind.f32.format.order u v = some (compare (fvI u) (fvI v)) := order_fin u v hu.1 hv.1 hu.2 hv.2
theorem ord_eq (u v : Nat) (hu : Fin32 u) (hv : Fin32 v) : (FloatKind.f32.format.order u v == some Ordering.eq) = decide (fvI u = fvI v) := by
  rw [ord_val u v hu hv, Bool.eq_iff_iff]
  simp
theorem ord_ne (u v : Nat) (hu : Fin32 u) (hv : Fin32 v) : (FloatKind.f32.format.order u v != some Ordering.eq) = !decide (fvI u = fvI v) := by
  rw [bne, ord_eq u v hu hv]
theorem ord_gt (u v : Nat) (hu : Fin32 u) (hv : Fin32 v) : (FloatKind.f32.format.order u v == some Ordering.gt) = decide (fvI v < fvI u) := by
  rw [ord_val u v hu hv, Bool.eq_iff_iff]
  simp [Int.compare_eq_gt]
theorem share_key (n k P Q : Nat) (hk : k ≤ 1099511627776) (T : TwoOk n k P Q) : ∃ (A B : Int) (E : Bool), cmpI (sv (putN 0 P * k % M384)) (sv n) = A ∧ cmpI (sv (putN 0 Q * k % M384)) (sv n) = B ∧ (FloatKind.f32.format.order P Q == some Ordering.eq) = E ∧ ((A = 0 ∧ B = 0 ∧ E = true) ∨ (A = -1 ∧ B = 1 ∧ E = false ∧ (ofRank (rankI P + 1)).2 = 0 ∧ (ofRank (rankI P + 1)).1 = Q ∧ ((FloatKind.f32.format.order P 0 == some Ordering.eq) = false ∨ ((FloatKind.f32.format.order P 0 == some Ordering.eq) = true ∧ Q = 1)))) := by
  refine ⟨_, _, _, rfl, rfl, rfl, ?_⟩
  rw [sv_times P k T.l1 T.l2 hk, sv_times Q k T.h1 T.h2 hk, ord_eq P Q ⟨T.l1, T.l2⟩ ⟨T.h1, T.h2⟩, ord_eq P 0 ⟨T.l1, T.l2⟩ ⟨by decide, by decide⟩, show fvI 0 = 0 by decide]
  have h1 := T.below
  have h2 := T.above
  have h3 := T.both
  have h4 := T.same
  have h5 := T.next
  have h6 := T.nextz
  generalize fvI P * k = FP at *
  generalize fvI Q * k = FQ at *
  unfold cmpI
  by_cases c : FP = sv n
  · left
    have := h3.1 c
    refine ⟨?_, ?_, decide_eq_true (h4.2 c)⟩
    · rw [if_neg (by omega), if_neg (by omega)]
    · rw [if_neg (by omega), if_neg (by omega)]
  · right
    obtain ⟨g1, g2, g3⟩ := h5 c
    have c2 : FQ ≠ sv n := fun h => c (h3.2 h)
    refine ⟨?_, ?_, decide_eq_false (fun h => c (h4.1 h)), g2, g3, ?_⟩
    · rw [if_pos (by omega)]
    · rw [if_neg (by omega), if_pos (by omega)]
    · by_cases z : fvI P = 0
      · exact .inr ⟨decide_eq_true z, h6 c z⟩
      · exact .inl (decide_eq_false z)
theorem held_of {w w' : World} {b n : Nat} (h : Six w b n) (hb : Below w.heap.size w w') : w'.cell? ⟨b, 0, none⟩ = some (.int .u64 (wd n 0 : Nat)) ∧ w'.cell? ⟨b, 1, none⟩ = some (.int .u64 (wd n 1 : Nat)) ∧ w'.cell? ⟨b, 2, none⟩ = some (.int .u64 (wd n 2 : Nat)) ∧ w'.cell? ⟨b, 3, none⟩ = some (.int .u64 (wd n 3 : Nat)) ∧ w'.cell? ⟨b, 4, none⟩ = some (.int .u64 (wd n 4 : Nat)) ∧ w'.cell? ⟨b, 5, none⟩ = some (.int .u64 (wd n 5 : Nat)) ∧ Below w.heap.size w w' := by
  have h2 := h.keep hb
  exact ⟨h2.c0, h2.c1, h2.c2, h2.c3, h2.c4, h2.c5, hb⟩
theorem held_call {w w1 w' : World} {b n : Nat} (h : Six w b n) (hb1 : Below w.heap.size w w1) (hb : Below w1.heap.size w1 w') : w'.cell? ⟨b, 0, none⟩ = some (.int .u64 (wd n 0 : Nat)) ∧ w'.cell? ⟨b, 1, none⟩ = some (.int .u64 (wd n 1 : Nat)) ∧ w'.cell? ⟨b, 2, none⟩ = some (.int .u64 (wd n 2 : Nat)) ∧ w'.cell? ⟨b, 3, none⟩ = some (.int .u64 (wd n 3 : Nat)) ∧ w'.cell? ⟨b, 4, none⟩ = some (.int .u64 (wd n 4 : Nat)) ∧ w'.cell? ⟨b, 5, none⟩ = some (.int .u64 (wd n 5 : Nat)) ∧ Below w.heap.size w w' := held_of h (hb1.trans (hb.mono hb1.size))
set_option maxRecDepth 100000 in
set_option maxHeartbeats 16000000 in
theorem share_any (n : Nat) (hn : n < M384) (N : Nat) (hN : N < 18446744073709551616) (w : World) (hM : Modes w) :
    Calls Tryd.prog 5 #[SV n, .int .u64 N] w fun e w' => e = .returned (.bool true) ∧ Below w.heap.size w w' := by
  have HM := Aside0.mk hM
  have lt3 := Aside0.mk hM.lt
  have HNn := Aside0.mk hn
  obtain ⟨k, hk⟩ : ∃ k, k = 1 + N % 1099511627776 := ⟨_, rfl⟩
  have HK0 : Aside0 (0 < k) := ⟨by omega⟩
  have HK1 : Aside0 (k ≤ 1099511627776) := ⟨by omega⟩
  have hke : IntKind.u64.wrap (1 + (N : Int) % 1099511627776) = (k : Int) := by rw [IntKind.wrap_u64]; omega
  have hkt : Int.tmod (N : Int) 1099511627776 = (N : Int) % 1099511627776 := by rw [Int.tmod_eq_emod_of_nonneg (by omega)]
  have hk63 : (k : Int) ≤ 1099511627776 := by omega
  clear hk hN hM hn
  obtain ⟨r2, hr2⟩ : ∃ x, x = overN n k 2 := ⟨_, rfl⟩
  obtain ⟨r3, hr3⟩ : ∃ x, x = overN n k 3 := ⟨_, rfl⟩
  obtain ⟨r1, hr1⟩ : ∃ x, x = overN n 1 0 := ⟨_, rfl⟩
  have hk64 : k < 18446744073709551616 := by omega
  have HR2 := Lib.hid (fun W hW => over_any n HNn.out k HK0.out hk64 2 (by decide) W hW)
  have HR3 := Lib.hid (fun W hW => over_any n HNn.out k HK0.out hk64 3 (by decide) W hW)
  have HR1 := Lib.hid (fun W hW => over_any n HNn.out 1 (by decide) (by decide) 0 (by decide) W hW)
  have HR0 := Lib.hid (fun W hW => round_any n HNn.out 0 (by decide) W hW)
  have h2e := over_err n k 2 HK0.out
  have h3e := over_err n k 3 HK0.out
  have HT := Aside0.mk (two_ok n k HNn.out HK0.out)
  rw [← hr2] at HR2 h2e HT
  rw [← hr3] at HR3 h3e HT
  rw [← hr1] at HR1 HR0
  obtain ⟨P, e2⟩ := r2
  obtain ⟨Q, e3⟩ := r3
  obtain ⟨V, ev⟩ := r1
  simp only at HR2 HR3 HR1 HR0 h2e h3e HT
  have H2E := Aside0.mk h2e
  have H3E := Aside0.mk h3e
  have HAw := Lib.hid (fun W hW => awake_any W hW)
  clear h2e h3e hr2 hr3 hr1 hk64
  go_enter Tryd.func5, Tryd.ntmps5
  go_wp2_with fail
  clear hke hkt
  refine (HR2.out _ (HM.out.keep (show Below w.heap.size w _ from by repeat (first | with_reducible exact Below.refl _ _ | ((with_reducible refine Below.setCell ?_ ?hp _); case hp => (first | omega | (simp <;> omega))) | ((with_reducible refine Below.alloc ?_ ?hp _); case hp => (first | omega | (simp <;> omega))) | (with_reducible refine Below.drew ?_))) lt3.out)).mono ?_
  rintro e w1 ⟨rfl, hb1⟩
  obtain ⟨hc1, hf1, hz1⟩ := kept_to hb1 (w.heap.size + 2) (by simp)
  have HX1 : Aside0 (Six w1 (w.heap.size + 1) n) := ⟨by constructor <;> simp [go_sem, *]⟩
  have HB0 := Lib.hid hb1
  have HB1 : Aside0 (Below w.heap.size w w1) := ⟨by repeat (first | with_reducible exact Below.refl _ _ | ((with_reducible refine Below.setCell ?_ ?hp _); case hp => (first | omega | (simp <;> omega))) | ((with_reducible refine Below.alloc ?_ ?hp _); case hp => (first | omega | (simp <;> omega))) | (with_reducible refine Below.drew ?_) | ((with_reducible refine Below.trans ?_ (HB0.out.mono ?hm)); case hm => (first | omega | (simp <;> omega))))⟩
  clear hb1 hc1 hf1 hz1 HB0
  obtain ⟨a0, a1, a2, a3, a4, a5, b0, b1, b2, b3, b4, b5⟩ := HX1.out
  go_wp2_with fail
  refine (HR3.out _ (HM.out.keep (show Below w.heap.size w _ from HB1.out) lt3.out)).mono ?_
  rintro e w2 ⟨rfl, hb2⟩
  have HX2 := Aside0.mk (HX1.out.keep hb2)
  have HB2 : Aside0 (Below w.heap.size w w2) := ⟨HB1.out.trans (hb2.mono HB1.out.size)⟩
  clear hb2 a0 a1 a2 a3 a4 a5 b0 b1 b2 b3 b4 b5 HX1 HB1 HR3
  obtain ⟨a0, a1, a2, a3, a4, a5, b0, b1, b2, b3, b4, b5⟩ := HX2.out
  go_wp2_with fail
  refine (HR1.out _ (HM.out.keep (show Below w.heap.size w _ from HB2.out) lt3.out)).mono ?_
  rintro e w3 ⟨rfl, hb3⟩
  have HX3 := Aside0.mk (HX2.out.keep hb3)
  have HB3 : Aside0 (Below w.heap.size w w3) := ⟨HB2.out.trans (hb3.mono HB2.out.size)⟩
  clear hb3 a0 a1 a2 a3 a4 a5 b0 b1 b2 b3 b4 b5 HX2 HB2 HR1
  obtain ⟨a0, a1, a2, a3, a4, a5, b0, b1, b2, b3, b4, b5⟩ := HX3.out
  go_wp2_with fail
  refine (HR0.out _ (HM.out.keep (show Below w.heap.size w _ from HB3.out) lt3.out)).mono ?_
  rintro e w4 ⟨rfl, hb4⟩
  have HX4 := Aside0.mk (HX3.out.keep hb4)
  have HB4 : Aside0 (Below w.heap.size w w4) := ⟨HB3.out.trans (hb4.mono HB3.out.size)⟩
  clear hb4 a0 a1 a2 a3 a4 a5 b0 b1 b2 b3 b4 b5 HX3 HB3 HR0
  obtain ⟨a0, a1, a2, a3, a4, a5, b0, b1, b2, b3, b4, b5⟩ := HX4.out
  have bad : e2 ≠ 0 ∨ e3 ≠ 0 → (e2 = 0 ∧ e3 = 20) ∨ (e2 = 20 ∧ e3 = 0) ∨ (e2 = 20 ∧ e3 = 20) := by
    have := H2E.out; have := H3E.out; omega
  by_cases ok : e2 = 0 ∧ e3 = 0
  · obtain ⟨o1, o2⟩ := ok
    have T := HT.out o1 o2
    obtain ⟨A, B, E, hA, hB, hE, hcase⟩ := share_key n k P Q HK1.out T
    have HTT := Aside0.mk T
    have HE := Aside0.mk hE
    have HCase := Aside0.mk hcase
    have hk63' : k < 9223372036854775808 := by have := HK1.out; omega
    have HOP := Lib.hid (fun W => of17 P HTT.out.l1 HTT.out.l2 W)
    have HOQ := Lib.hid (fun W => of17 Q HTT.out.h1 HTT.out.h2 W)
    have HTP := Lib.hid (fun W => times23 (putN 0 P) (sv_one P HTT.out.l1 HTT.out.l2).2 k hk63' W)
    have HTQ := Lib.hid (fun W => times23 (putN 0 Q) (sv_one Q HTT.out.h1 HTT.out.h2).2 k hk63' W)
    have HCP := Lib.hid (fun W => compare_any (putN 0 P * k % M384) n (Nat.mod_lt _ (by decide)) HNn.out W)
    have HCQ := Lib.hid (fun W => compare_any (putN 0 Q * k % M384) n (Nat.mod_lt _ (by decide)) HNn.out W)
    rw [hA] at HCP
    rw [hB] at HCQ
    generalize putN 0 P * k % M384 = TP at *
    generalize putN 0 Q * k % M384 = TQ at *
    generalize putN 0 P = SP at *
    generalize putN 0 Q = SQ at *
    subst o1 o2
    clear T hcase hA hB hE HT bad H2E H3E hk63'
    go_wp2_with (first | (go_at_call 11; refine (num11 _ _).mono ?_; rintro e W ⟨rfl, rfl⟩) | (go_at_call 20; refine (bits20 _ _).mono ?_; rintro e W ⟨rfl, rfl⟩) | (go_at_call 10; refine (HAw.out _ (HM.out.keep (show Below w.heap.size w _ from HB4.out) lt3.out)).mono ?_; rintro e w5 ⟨rfl, hb5⟩; have HX5 := Aside0.mk (HX4.out.keep hb5); have HB5 : Aside0 (Below w.heap.size w w5) := ⟨HB4.out.trans (hb5.mono HB4.out.size)⟩; clear hb5))
    clear HX4 HB4 HAw a0 a1 a2 a3 a4 a5 b0 b1 b2 b3 b4 b5
    obtain ⟨a0, a1, a2, a3, a4, a5, b0, b1, b2, b3, b4, b5⟩ := HX5.out
    have hz6 : w.heap.size + 1 < w5.heap.size := World.block_lt_of_cell? w5 ⟨w.heap.size + 1, 0, none⟩ HX5.out.c0
    have hkw : IntKind.i64.wrap (k : Int) = (k : Int) := by rw [IntKind.wrap_i64]; omega
    go_upto_region 11 with (fail)
    go_cut [15] (fun t wx => t = .int .i64 A ∧ Six wx (w.heap.size + 1) n ∧ Aside0 (Below w.heap.size w wx))
    case first =>
      go_region_held3 (fun w' => w'.cell? ⟨w.heap.size + 1, 0, none⟩ = some (.int .u64 (wd n 0 : Nat)) ∧ w'.cell? ⟨w.heap.size + 1, 1, none⟩ = some (.int .u64 (wd n 1 : Nat)) ∧ w'.cell? ⟨w.heap.size + 1, 2, none⟩ = some (.int .u64 (wd n 2 : Nat)) ∧ w'.cell? ⟨w.heap.size + 1, 3, none⟩ = some (.int .u64 (wd n 3 : Nat)) ∧ w'.cell? ⟨w.heap.size + 1, 4, none⟩ = some (.int .u64 (wd n 4 : Nat)) ∧ w'.cell? ⟨w.heap.size + 1, 5, none⟩ = some (.int .u64 (wd n 5 : Nat)) ∧ Below w5.heap.size w5 w') (first | with_reducible exact held_of HX5.out (Below.drew (Below.refl _ _)) | (go_split_ands; with_reducible exact held_call HX5.out (by with_reducible assumption) hbz) | with_reducible exact held_of HX5.out (by with_reducible assumption) | (go_split_ands; with_reducible exact held_of HX5.out (by with_reducible assumption))) (first | (go_at_call 17; (with_reducible refine (HOP.out _).mono ?_); rintro e W ⟨rfl, hbz⟩) | (go_at_call 23; (with_reducible refine (HTP.out _).mono ?_); rintro e W ⟨rfl, hbz⟩) | (go_at_call 15; (with_reducible refine (HCP.out _).mono ?_); rintro e W ⟨rfl, hbz⟩))
      go_split_ands
      have hbf : Below w5.heap.size w5 _ := (by with_reducible assumption)
      have HBF := Aside0.mk hbf
      go_wp2_with fail
      go_meet
      exact ⟨rfl, HX5.out.keep HBF.out, ⟨HB5.out.trans (HBF.out.mono HB5.out.size)⟩⟩
    case rest =>
      obtain ⟨rfl, X7, HB7⟩ := hcut
      clear a0 a1 a2 a3 a4 a5 b0 b1 b2 b3 b4 b5 HX5 HB5 hz6 HOP HCP HTP
      have HX7 := Lib.hid X7
      obtain ⟨a0, a1, a2, a3, a4, a5, b0, b1, b2, b3, b4, b5⟩ := X7
      have hz7 : w.heap.size + 1 < wc.heap.size := World.block_lt_of_cell? wc ⟨w.heap.size + 1, 0, none⟩ HX7.out.c0
      go_upto_region 12 with (fail)
      go_cut [16] (fun t wx => t = .int .i64 B ∧ Six wx (w.heap.size + 1) n ∧ Aside0 (Below w.heap.size w wx))
      case first =>
        go_region_held3 (fun w' => w'.cell? ⟨w.heap.size + 1, 0, none⟩ = some (.int .u64 (wd n 0 : Nat)) ∧ w'.cell? ⟨w.heap.size + 1, 1, none⟩ = some (.int .u64 (wd n 1 : Nat)) ∧ w'.cell? ⟨w.heap.size + 1, 2, none⟩ = some (.int .u64 (wd n 2 : Nat)) ∧ w'.cell? ⟨w.heap.size + 1, 3, none⟩ = some (.int .u64 (wd n 3 : Nat)) ∧ w'.cell? ⟨w.heap.size + 1, 4, none⟩ = some (.int .u64 (wd n 4 : Nat)) ∧ w'.cell? ⟨w.heap.size + 1, 5, none⟩ = some (.int .u64 (wd n 5 : Nat)) ∧ Below wc.heap.size wc w') (first | with_reducible exact held_of HX7.out (Below.drew (Below.refl _ _)) | (go_split_ands; with_reducible exact held_call HX7.out (by with_reducible assumption) hbz) | with_reducible exact held_of HX7.out (by with_reducible assumption) | (go_split_ands; with_reducible exact held_of HX7.out (by with_reducible assumption))) (first | (go_at_call 17; (with_reducible refine (HOQ.out _).mono ?_); rintro e W ⟨rfl, hbz⟩) | (go_at_call 23; (with_reducible refine (HTQ.out _).mono ?_); rintro e W ⟨rfl, hbz⟩) | (go_at_call 15; (with_reducible refine (HCQ.out _).mono ?_); rintro e W ⟨rfl, hbz⟩))
        go_split_ands
        have hbf : Below wc.heap.size wc _ := (by with_reducible assumption)
        have HBF := Aside0.mk hbf
        go_wp2_with fail
        go_meet
        exact ⟨rfl, HX7.out.keep HBF.out, ⟨HB7.out.trans (HBF.out.mono HB7.out.size)⟩⟩
      case rest =>
        obtain ⟨rfl, X8, HB8⟩ := hcut
        clear a0 a1 a2 a3 a4 a5 b0 b1 b2 b3 b4 b5 HX7 HB7 hz7 HOQ HCQ HTQ X8
        have HQQ : Aside0 ((FloatKind.f32.format.order Q Q == some Ordering.eq) = true) := ⟨by rw [ord_eq Q Q ⟨HTT.out.h1, HTT.out.h2⟩ ⟨HTT.out.h1, HTT.out.h2⟩]; simp⟩
        have hrk : -4294967296 < rankI P ∧ rankI P < 4294967295 := by
          have := HTT.out.l1; unfold rankI; split <;> omega
        have HRk := Lib.hid (fun W => rank19 P HTT.out.l1 W)
        have HOR := Lib.hid (fun W => ofRank18 (rankI P + 1) (by omega) (by omega) W)
        have HBP := Lib.hid (fun W => bits20 P W)
        have HFQ := Lib.hid (fun W => float21 (Q : Int) (by omega) W)
        rw [Int.toNat_natCast] at HFQ
        have HP31 := HCase.out
        generalize rankI P = RK at *
        obtain ⟨OR, hOR⟩ : ∃ x, x = ofRank (RK + 1) := ⟨_, rfl⟩
        rw [← hOR] at HOR HP31
        obtain ⟨O1, O2⟩ := OR
        simp only at HOR HP31
        have HCase2 := Aside0.mk HP31
        have hrk1 := hrk.1
        have hrk2 := hrk.2
        clear hOR hrk HP31
        rcases HCase2.out with ⟨c1, c2, c3⟩ | ⟨c1, c2, c3, c5, c6, c7⟩
        · as_aux_lemma =>
          subst c1 c2
          have hE := HE.out
          rw [c3] at hE
          clear c3
          go_wp2_with fail
          go_ret
          exact ⟨rfl, HB8.out⟩
        · rcases c7 with c8 | ⟨c8, c9⟩
          · as_aux_lemma =>
            subst c1 c2
            have hE := HE.out
            rw [c3] at hE
            have hQQ := HQQ.out
            subst c5 c6
            clear c3
            go_wp2_with (first | (go_at_call 11; refine (num11 _ _).mono ?_; rintro e W ⟨rfl, rfl⟩) | (go_at_call 20; refine (HBP.out _).mono ?_; rintro e W ⟨rfl, rfl⟩) | (go_at_call 19; refine (HRk.out _).mono ?_; rintro e W ⟨rfl, rfl⟩) | (go_at_call 18; refine (HOR.out _).mono ?_; rintro e W ⟨rfl, rfl⟩) | (go_at_call 21; refine (HFQ.out _).mono ?_; rintro e W ⟨rfl, rfl⟩))
            go_ret
            exact ⟨rfl, HB8.out⟩
          · as_aux_lemma =>
            subst c1 c2
            have hE := HE.out
            rw [c3] at hE
            have hQQ := HQQ.out
            have HF1 := Lib.hid (fun W => float21 (1 : Int) (by omega) W)
            subst c9
            clear c3 c5 c6
            go_wp2_with (first | (go_at_call 11; refine (num11 _ _).mono ?_; rintro e W ⟨rfl, rfl⟩) | (go_at_call 20; refine (HBP.out _).mono ?_; rintro e W ⟨rfl, rfl⟩) | (go_at_call 19; refine (HRk.out _).mono ?_; rintro e W ⟨rfl, rfl⟩) | (go_at_call 18; refine (HOR.out _).mono ?_; rintro e W ⟨rfl, rfl⟩) | (go_at_call 21; refine (HF1.out _).mono ?_; rintro e W ⟨rfl, rfl⟩))
            go_ret
            exact ⟨rfl, HB8.out⟩
  · rcases bad (by omega) with ⟨h1, h2⟩ | ⟨h1, h2⟩ | ⟨h1, h2⟩
    all_goals
      subst h1 h2
      clear ok bad HT H2E H3E
      go_wp2_with (first | (go_at_call 11; refine (num11 _ _).mono ?_; rintro e W ⟨rfl, rfl⟩) | (go_at_call 20; refine (bits20 _ _).mono ?_; rintro e W ⟨rfl, rfl⟩) | (go_at_call 10; refine (HAw.out _ (HM.out.keep (show Below w.heap.size w _ from HB4.out) lt3.out)).mono ?_; rintro e w5 ⟨rfl, hb5⟩; have HX5 := Aside0.mk (HX4.out.keep hb5); have HB5 : Aside0 (Below w.heap.size w w5) := ⟨HB4.out.trans (hb5.mono HB4.out.size)⟩; clear hb5))
      go_ret
      exact ⟨rfl, HB5.out⟩
end Go.Proofs.YtmnojohcfalodaaDoor
