/-
  TallyOrder, by a walk.
-/
import Derived.Test.YtmnojohcfalodaaDoorA20
import Derived.Test.YtmnojohcfalodaaDoorNc
import Derived.Test.YtmnojohcfalodaaDoorNb
import Derived.Test.YtmnojohcfalodaaDoorA2
namespace Go.Proofs.YtmnojohcfalodaaDoor
open Go.RowKit Go.Proofs.YtmnojohcfalodaaDoorW.PrintWords Go.Proofs.YtmnojohcfalodaaDoorW.PrintLast Go.Proofs.YtmnojohcfalodaaDoorW.PrintMore PTallyOrder
def u32s (l : List Int) : Prop := ∀ x ∈ l, 0 ≤ x ∧ x < 4294967296
theorem okF_of (l : List Int) (h : u32s l) : ∀ x ∈ l.filter isFin, okF x := by
  intro x hx
  obtain ⟨h1, h2⟩ := List.mem_filter.1 hx
  obtain ⟨h3, h4⟩ := h x h1
  refine ⟨h3, h4, ?_⟩
  obtain ⟨n, rfl⟩ := Int.eq_ofNat_of_zero_le h3
  have h5 : ¬ Int.tmod ((n : Int) / 8388608) 256 = 255 := by simpa [isFin] using h2
  intro h6
  apply h5
  rw [show (n : Int) / 8388608 = ((n / 8388608 : Nat) : Int) from rfl, show Int.tmod ((n / 8388608 : Nat) : Int) 256 = ((n / 8388608 % 256 : Nat) : Int) from rfl]
  rw [Int.toNat_natCast] at h6
  rw [h6]; rfl
theorem finite_calls (A0 : Option Addr) (c0 : Nat) (l0 : List Int) (w : World) (hr0 : Kd.C (Kd.int .u32) w A0 l0.length l0) (hc0 : l0.length ≤ c0) (hl : l0.length < 35184372088832) :
    Calls Tryd.prog 7 #[.slice A0 l0.length c0] w fun e w' => ∃ A c, e = .returned (.slice A (l0.filter isFin).length c) ∧ (l0.filter isFin).length ≤ c ∧ Kd.C (Kd.int .u32) w' A (l0.filter isFin).length (l0.filter isFin) ∧ Below w.heap.size w w' := by
  refine (sluicelaw02_finite.calls (l0.length + 1) A0 c0 l0 (l0.filter isFin) w hr0 hc0 ?_).mono ?_
  · have h := finite_l0 l0.length l0 [] 0 (by omega) (by omega) (by simpa using hl) hl
    rw [List.nil_append, List.drop_zero] at h
    exact h
  · rintro e w' ⟨v, rfl, hR, hB⟩
    obtain ⟨A, c, rfl, hle, hC⟩ := Kd.R_reads hR
    exact ⟨A, c, rfl, hle, hC, hB⟩
theorem floats_calls (A0 : Option Addr) (c0 : Nat) (l0 : List Int) (w : World) (hr0 : Kd.C (Kd.int .u32) w A0 l0.length l0) (hc0 : l0.length ≤ c0) (hp : ∀ x ∈ l0, okF x) (hlen : l0.length < 35184372088832) :
    Calls Tryd.prog 9 #[.slice A0 l0.length c0] w fun e w' => ∃ A c, e = .returned (.slice A l0.length c) ∧ FK.C w' A l0.length l0 ∧ Below w.heap.size w w' := by
  refine (floats_any A0 c0 l0 w hr0 hc0 (fun x hx => (hp x hx).1) hlen).mono ?_
  rintro e w' ⟨v, rfl, hR, hB⟩
  obtain ⟨A, c, rfl, hle, hC⟩ := Kd.R_reads hR
  exact ⟨A, c, rfl, hC, hB⟩
theorem order_calls (A0 : Option Addr) (c0 : Nat) (l0 : List Int) (A1 : Option Addr) (c1 : Nat) (l1 : List Int) (w : World) (hr0 : Kd.C (Kd.int .u32) w A0 l0.length l0) (hc0 : l0.length ≤ c0) (hr1 : Kd.C (Kd.int .i64) w A1 l1.length l1) (hc1 : l1.length ≤ c1) (hl : l0.length < 35184372088832) :
    Calls Tryd.prog 12 #[.slice A0 l0.length c0, .slice A1 l1.length c1] w fun e w' => ∃ A c o, o.Perm l0 ∧ e = .returned (.slice A o.length c) ∧ o.length ≤ c ∧ Kd.C (Kd.int .u32) w' A o.length o ∧ Below w.heap.size w w' := by
  obtain ⟨r, h1, h2⟩ := order_l0 l0.length l1 l0 [] 0 (Nat.le_refl _) (by simpa using hl) (by omega)
  refine (sluicelaw02_order.calls (l0.length + 1) A0 c0 l0 A1 c1 l1 r w hr0 hc0 hr1 hc1 ?_).mono ?_
  · unfold sluicelaw02_order.f
    simp only [Option.bind_some, List.length_nil, Nat.zero_add, List.nil_append]
    rw [if_pos hl]
    exact h1
  · rintro e w' ⟨v, rfl, hR, hB⟩
    obtain ⟨A, c, rfl, hle, hC⟩ := Kd.R_reads hR
    exact ⟨A, c, r, h2, rfl, hle, hC, hB⟩
theorem size_of_cut (cut : Int) : ∃ sz : Nat, wrap64 (1 + wrap64 (Int.tmod (IntKind.u64.wrap cut) 7)) = (sz : Int) ∧ 1 ≤ sz ∧ sz ≤ 7 := by
  have e2 : 0 ≤ IntKind.u64.wrap cut := by rw [IntKind.wrap_u64]; omega
  obtain ⟨a, ha⟩ := Int.eq_ofNat_of_zero_le e2
  rw [ha, show Int.tmod (a : Int) 7 = ((a % 7 : Nat) : Int) from rfl]
  refine ⟨1 + a % 7, ?_, by omega, by omega⟩
  unfold wrap64
  omega
set_option maxRecDepth 100000 in
set_option maxHeartbeats 8000000 in
theorem tallyOrder_any (A0 : Option Addr) (c0 : Nat) (l0 : List Int) (A1 : Option Addr) (c1 : Nat) (l1 : List Int) (cut : Int) (w : World) (hr0 : Kd.C (Kd.int .u32) w A0 l0.length l0) (hc0 : l0.length ≤ c0) (h32 : u32s l0) (hl : l0.length < 35184372088832) (hr1 : Kd.C (Kd.int .i64) w A1 l1.length l1) (hc1 : l1.length ≤ c1) (hM : Modes w) :
    Calls Tryd.prog 3 #[.slice A0 l0.length c0, .slice A1 l1.length c1, .int .i64 cut] w fun e w' => e = .returned (.bool true) ∧ Below w.heap.size w w' := by
  have HR0 := Aside0.mk hr0
  have HR1 := Aside0.mk hr1
  have HC0 := Aside0.mk hc0
  have HC1 := Aside0.mk hc1
  have HL := Aside0.mk hl
  have HM := Aside0.mk hM
  have lt3 := Aside0.mk hM.lt
  obtain ⟨us, hus⟩ : ∃ us, us = l0.filter isFin := ⟨_, rfl⟩
  have hok : ∀ x ∈ us, okF x := by rw [hus]; exact okF_of l0 h32
  have hul : us.length < 35184372088832 := by rw [hus]; exact Nat.lt_of_le_of_lt (List.length_filter_le _ _) hl
  have HF := Aside0.mk (fun W h => finite_calls A0 c0 l0 W h HC0.out HL.out)
  rw [← hus] at HF
  have HOK := Aside0.mk hok
  have HUL := Aside0.mk hul
  clear hr0 hr1 hc0 hc1 hl hM h32 hok hul hus
  go_enter Tryd.func3, Tryd.ntmps3
  go_wp2_with fail
  refine (HF.out _ (Kd.C_below HR0.out (by repeat (first | with_reducible exact Below.refl _ _ | ((with_reducible refine Below.setCell ?_ ?hp _); case hp => (first | omega | (simp <;> omega))) | ((with_reducible refine Below.alloc ?_ ?hp _); case hp => (first | omega | (simp <;> omega))) | (with_reducible refine Below.drew ?_))))).mono ?_
  rintro e w1 ⟨A7, c7, rfl, hc7, hC7, hb1⟩
  have HB1 := Aside0.mk hb1
  have HC7 := Aside0.mk hC7
  have Hc7 := Aside0.mk hc7
  have hz1 := hb1.size
  clear hb1 hC7 hc7
  go_wp2_with fail
  refine (floats_calls A7 c7 us _ HC7.out Hc7.out HOK.out HUL.out).mono ?_
  rintro e w2 ⟨A2, c2, rfl, hC2, hb2⟩
  have HB2 := Aside0.mk hb2
  have HC2 := Aside0.mk hC2
  have hz2 := hb2.size
  clear hb2 hC2
  go_wp2_with fail
  obtain ⟨S, hS⟩ : ∃ S, S = sumN 0 us := ⟨_, rfl⟩
  have hSl : Aside0 (S < M384) := ⟨by rw [hS]; exact sumN_lt _ _ (by decide)⟩
  have HS := Aside0.mk hS
  have HOf := of_any A2 c2 us w2 HC2.out HOK.out HUL.out
  rw [← hS] at HOf
  refine HOf.mono ?_
  rintro e w3 ⟨rfl, hb3⟩
  have HB3 := Aside0.mk hb3
  have hz3 := hb3.size
  clear hb3 HOf hS
  have HN := Lib.hid (fun W => num11 0 W)
  have HAw := Lib.hid (fun W hW => awake_any W hW)
  go_wp2_with (first | (go_at_call 11; refine (HN.out _).mono ?_; rintro e W ⟨rfl, rfl⟩) | (go_at_call 10; refine (HAw.out _ (HM.out.keep (show Below w.heap.size w _ from by repeat (first | with_reducible exact Below.refl _ _ | ((with_reducible refine Below.setCell ?_ ?hp _); case hp => (first | omega | (simp <;> omega))) | ((with_reducible refine Below.alloc ?_ ?hp _); case hp => (first | omega | (simp <;> omega))) | (with_reducible refine Below.drew ?_) | ((with_reducible refine Below.trans ?_ (HB3.out.mono ?hm)); case hm => (first | omega | (simp <;> omega))) | ((with_reducible refine Below.trans ?_ (HB2.out.mono ?hm)); case hm => (first | omega | (simp <;> omega))) | ((with_reducible refine Below.trans ?_ (HB1.out.mono ?hm)); case hm => (first | omega | (simp <;> omega))))) lt3.out)).mono ?_; rintro e w4 ⟨rfl, hb⟩; obtain ⟨hc4, hf4, hz4⟩ := kept_to hb (w3.heap.size + 1) (by first | omega | (simp <;> omega)); have HB4 := Lib.hid hb; clear hb))
  have HOr := order_calls A7 c7 us A1 c1 l1 w4 (Kd.C_below HC7.out (by repeat (first | with_reducible exact Below.refl _ _ | ((with_reducible refine Below.setCell ?_ ?hp _); case hp => (first | omega | (simp <;> omega))) | ((with_reducible refine Below.alloc ?_ ?hp _); case hp => (first | omega | (simp <;> omega))) | (with_reducible refine Below.drew ?_) | ((with_reducible refine Below.trans ?_ (HB4.out.mono ?hm)); case hm => (first | omega | (simp <;> omega))) | ((with_reducible refine Below.trans ?_ (HB3.out.mono ?hm)); case hm => (first | omega | (simp <;> omega))) | ((with_reducible refine Below.trans ?_ (HB2.out.mono ?hm)); case hm => (first | omega | (simp <;> omega)))))) Hc7.out (Kd.C_below HR1.out (by repeat (first | with_reducible exact Below.refl _ _ | ((with_reducible refine Below.setCell ?_ ?hp _); case hp => (first | omega | (simp <;> omega))) | ((with_reducible refine Below.alloc ?_ ?hp _); case hp => (first | omega | (simp <;> omega))) | (with_reducible refine Below.drew ?_) | ((with_reducible refine Below.trans ?_ (HB4.out.mono ?hm)); case hm => (first | omega | (simp <;> omega))) | ((with_reducible refine Below.trans ?_ (HB3.out.mono ?hm)); case hm => (first | omega | (simp <;> omega))) | ((with_reducible refine Below.trans ?_ (HB2.out.mono ?hm)); case hm => (first | omega | (simp <;> omega))) | ((with_reducible refine Below.trans ?_ (HB1.out.mono ?hm)); case hm => (first | omega | (simp <;> omega)))))) HC1.out HUL.out
  refine HOr.mono ?_
  rintro e w5 ⟨A10, c10, o, hperm, rfl, hc10, hC10, hb5⟩
  clear HOr
  have HP := Aside0.mk hperm
  have HC10 := Aside0.mk hC10
  have Hc10 := Aside0.mk hc10
  obtain ⟨hc5, hf5, hz5⟩ := kept_to hb5 (w3.heap.size + 1) (by first | omega | (simp <;> omega))
  have HB5 := Aside0.mk hb5
  clear hperm hC10 hc10 hb5
  have HOO : Aside0 (∀ x ∈ o, okF x) := ⟨fun x hx => HOK.out x (HP.out.mem_iff.1 hx)⟩
  have HOL : Aside0 (o.length < 35184372088832) := ⟨by rw [HP.out.length_eq]; exact HUL.out⟩
  have X3 : Six w5 w3.heap.size S := by constructor <;> simp [*]
  have hz35 : w3.heap.size < w5.heap.size := World.block_lt_of_cell? w5 ⟨w3.heap.size, 0, none⟩ X3.c0
  clear hc4 hf4 hc5 hf5
  have HX3 := Aside0.mk X3
  clear X3
  go_wp2_with fail
  go_loopg [12] o.length (fun kq v12 w' => ∃ i : Nat, Aside0 (i + kq = o.length) ∧ v12 = .int .i64 i ∧ Six w' w3.heap.size S ∧ Six w' w5.heap.size (sumN 0 (o.take i)) ∧ Aside0 (Below w5.heap.size w5 w'))
  case atStart =>
    refine ⟨0, ⟨by omega⟩, rfl, ?_, ?_, ⟨by repeat (first | with_reducible exact Below.refl _ _ | ((with_reducible refine Below.setCell ?_ ?hp _); case hp => (first | omega | (simp <;> omega))) | ((with_reducible refine Below.alloc ?_ ?hp _); case hp => (first | omega | (simp <;> omega))) | (with_reducible refine Below.drew ?_))⟩⟩
    · exact HX3.out.keep (by repeat (first | with_reducible exact Below.refl _ _ | ((with_reducible refine Below.setCell ?_ ?hp _); case hp => (first | omega | (simp <;> omega))) | ((with_reducible refine Below.alloc ?_ ?hp _); case hp => (first | omega | (simp <;> omega))) | (with_reducible refine Below.drew ?_)))
    · constructor <;> simp [sumN, wd_zero]
  case round =>
    obtain ⟨j, HI, rfl, X, Y, HB⟩ := hrel
    have hz := World.block_lt_of_cell? _ ⟨w5.heap.size, 0, none⟩ Y.c0
    obtain ⟨T, hT⟩ : ∃ T, T = sumN 0 (o.take j) := ⟨_, rfl⟩
    rw [← hT] at Y
    have hTl : T < M384 := by rw [hT]; exact sumN_lt _ _ (by decide)
    by_cases hj : j < o.length
    · have p0 : (0 : Int) ≤ j := by omega
      have q0 : (j : Int) < o.length := by omega
      obtain ⟨ad, e1, hx⟩ := Kd.at_int HC10.out j p0 q0
      cases e1
      have hok := rd_ok o HOO.out j hj
      have hsn := sumN_snoc 0 o j hj
      obtain ⟨x, hxx⟩ : ∃ x : Nat, rd o (j : Int) = (x : Int) := ⟨(rd o (j : Int)).toNat, by have := hok.1; omega⟩
      rw [hxx, Int.toNat_natCast] at hx
      rw [hxx, Int.toNat_natCast, ← hT] at hsn
      have HSN := Aside0.mk hsn
      have hx32 : x < 4294967296 := by have := hok.2.1; omega
      replace hx := (HB.out.cell (World.block_lt_of_cell? w5 _ hx)).trans hx
      have c2 : decide ((j : Int) < o.length) = true := decide_eq_true q0
      have HC := Lib.hid (fun W => put_any T hTl x hx32 W)
      have LM := Aside0.mk hj
      have hw : wrap64 ((j : Int) + 1) = ((j + 1 : Nat) : Int) := by have := HOL.out; unfold wrap64; omega
      replace p0 := eq_true p0
      replace q0 := eq_true q0
      have HX := Lib.hid X
      have HY := Lib.hid Y
      obtain ⟨x0, x1, x2, x3, x4, x5, g0, g1, g2, g3, g4, g5⟩ := Y
      clear hxx hok hx32 hj X hsn hTl hT
      go_wp2_with fail
      go_region_with (go_at_call 13; refine (HC.out _).mono ?_; rintro e W ⟨rfl, hb⟩; obtain ⟨hc, hf, hz2⟩ := kept_to hb (w5.heap.size + 1) (by first | omega | (simp <;> omega)); have HB6 := Lib.hid hb; clear hb)
      all_goals go_wp2_with fail
      all_goals
        go_roundg (o.length - (j + 1))
        case measure => have := HI.out; have := LM.out; omega
        case rel =>
          refine ⟨j + 1, ⟨by have := LM.out; omega⟩, congrArg (Value.int .i64) hw, ?_, ?_, ⟨?_⟩⟩
          · exact six_far (by omega) (HX.out.keep (by repeat (first | with_reducible exact Below.refl _ _ | ((with_reducible refine Below.setCell ?_ ?hp _); case hp => (first | omega | (simp <;> omega))) | ((with_reducible refine Below.alloc ?_ ?hp _); case hp => (first | omega | (simp <;> omega))) | (with_reducible refine Below.drew ?_) | ((with_reducible refine Below.trans ?_ (HB6.out.mono ?hm)); case hm => (first | omega | (simp <;> omega))))))
          · rw [← HSN.out]; exact six_set (HY.out.keep (by repeat (first | with_reducible exact Below.refl _ _ | ((with_reducible refine Below.setCell ?_ ?hp _); case hp => (first | omega | (simp <;> omega))) | ((with_reducible refine Below.alloc ?_ ?hp _); case hp => (first | omega | (simp <;> omega))) | (with_reducible refine Below.drew ?_) | ((with_reducible refine Below.trans ?_ (HB6.out.mono ?hm)); case hm => (first | omega | (simp <;> omega))))))
          · repeat (first | with_reducible exact Below.refl _ _ | ((with_reducible refine Below.setCell ?_ ?hp _); case hp => (first | omega | (simp <;> omega))) | ((with_reducible refine Below.alloc ?_ ?hp _); case hp => (first | omega | (simp <;> omega))) | (with_reducible refine Below.drew ?_) | ((with_reducible refine Below.trans ?_ (HB6.out.mono ?hm)); case hm => (first | omega | (simp <;> omega))))
            exact HB.out
    · have c2 : decide ((j : Int) < o.length) = false := decide_eq_false (by omega)
      have hil : j = o.length := by have := HI.out; omega
      subst hil
      rw [List.take_length] at hT
      have hTS : T = S := by rw [hT, HS.out]; exact sumN_perm 0 HP.out
      subst hTS
      obtain ⟨sz, hsz, hs1, hs7⟩ := size_of_cut cut
      have hTl2 := Aside0.mk hTl
      have HX := Lib.hid X
      have HY := Lib.hid Y
      obtain ⟨wo, rfl⟩ : ∃ wo : World, wo = wr := ⟨_, rfl⟩
      have HBo := HB
      have hzo := hz
      clear HI hj hT X Y c2 hTl HB hz
      go_wp2_with fail
      clear hsz
      go_loopg [15] o.length (fun kq v15 w' => ∃ hI : Int, Aside0 (-7 ≤ hI ∧ hI ≤ o.length) ∧ Aside0 (hI.toNat ≤ kq) ∧ v15 = .int .i64 hI ∧ Six w' w3.heap.size T ∧ Six w' w5.heap.size T ∧ Six w' wo.heap.size (sumN 0 (o.drop hI.toNat)) ∧ Aside0 (Below wo.heap.size wo w'))
      case atStart =>
        refine ⟨o.length, ⟨by omega⟩, ⟨by omega⟩, rfl, ?_, ?_, ?_, ⟨by repeat (first | with_reducible exact Below.refl _ _ | ((with_reducible refine Below.setCell ?_ ?hp _); case hp => (first | omega | (simp <;> omega))) | ((with_reducible refine Below.alloc ?_ ?hp _); case hp => (first | omega | (simp <;> omega))) | (with_reducible refine Below.drew ?_))⟩⟩
        · exact HX.out.keep (by repeat (first | with_reducible exact Below.refl _ _ | ((with_reducible refine Below.setCell ?_ ?hp _); case hp => (first | omega | (simp <;> omega))) | ((with_reducible refine Below.alloc ?_ ?hp _); case hp => (first | omega | (simp <;> omega))) | (with_reducible refine Below.drew ?_)))
        · exact HY.out.keep (by repeat (first | with_reducible exact Below.refl _ _ | ((with_reducible refine Below.setCell ?_ ?hp _); case hp => (first | omega | (simp <;> omega))) | ((with_reducible refine Below.alloc ?_ ?hp _); case hp => (first | omega | (simp <;> omega))) | (with_reducible refine Below.drew ?_)))
        · constructor <;> simp [sumN, wd_zero]
      case round =>
        obtain ⟨hI, HI, HM, rfl, X, Y, Z, HB⟩ := hrel
        have hz := World.block_lt_of_cell? _ ⟨wo.heap.size, 0, none⟩ Z.c0
        by_cases hj : 0 < hI
        · obtain ⟨h, rfl⟩ : ∃ h : Nat, hI = (h : Int) := ⟨hI.toNat, by omega⟩
          rw [Int.toNat_natCast] at Z HM
          obtain ⟨lo, hlo⟩ : ∃ lo : Nat, lo = h - sz := ⟨_, rfl⟩
          have hho : h ≤ o.length := by have := HI.out; omega
          have hob := HOL.out
          have em : max (0 : Int) ((h : Int) - sz) = (lo : Int) := by omega
          have e2 : wrap64 ((h : Int) - sz) = (h : Int) - sz := by unfold wrap64; omega
          have c2 : decide ((0 : Int) < h) = true := decide_eq_true hj
          have hj2 : 0 < h := by omega
          have c3 : decide (0 < h) = true := decide_eq_true hj2
          obtain ⟨i0, hi0, _, hsz0, _⟩ := info_parts info37
          have hcut := cut_mid (P := Tryd.prog) 22 37 .i64 .i64 Tryd.underlying22 hi0 1 hsz0 A10 o.length c10 (lo : Int) (h : Int) (by omega) (by omega) (by omega) Hc10.out
          rw [Int.toNat_natCast, Int.toNat_natCast] at hcut
          obtain ⟨A26, hA26⟩ : ∃ A26, A26 = (if c10 = lo then A10 else A10.map (·.add (lo * 1))) := ⟨_, rfl⟩
          obtain ⟨c26, hc26⟩ : ∃ c26, c26 = c10 - lo := ⟨_, rfl⟩
          obtain ⟨p, hp⟩ : ∃ p, p = (o.take h).drop lo := ⟨_, rfl⟩
          have hpl : p.length = h - lo := by rw [hp, List.length_drop, List.length_take]; omega
          rw [← hA26, ← hc26, ← hpl] at hcut
          have HCp : Aside0 (Kd.C (Kd.int .u32) w5 A26 p.length p) := ⟨by rw [hA26, hp]; exact Kd.C_mid (k := Kd.int .u32) (lo := lo) (hi := h) (c := c10) HC10.out (by omega) hho Hc10.out⟩
          have Hcp : Aside0 (p.length ≤ c26) := ⟨by have := Hc10.out; omega⟩
          have Hok : Aside0 (∀ x ∈ p, okF x) := ⟨fun x hx => HOO.out x (List.mem_of_mem_take (List.mem_of_mem_drop (hp ▸ hx)))⟩
          have Hpl : Aside0 (p.length < 35184372088832) := ⟨by omega⟩
          obtain ⟨U, hU⟩ : ∃ U, U = sumN 0 p := ⟨_, rfl⟩
          obtain ⟨V, hV⟩ : ∃ V, V = sumN 0 (o.drop h) := ⟨_, rfl⟩
          have hUl : U < M384 := by rw [hU]; exact sumN_lt _ _ (by decide)
          have hVl : V < M384 := by rw [hV]; exact sumN_lt _ _ (by decide)
          have HSN : Aside0 ((U + V) % M384 = sumN 0 (o.drop lo)) := ⟨by rw [hU, hV, hp]; exact piece_sum o HOO.out lo h (by omega) hho⟩
          rw [← hV] at Z
          have HFl := Lib.hid (fun W hW => floats_calls A26 c26 p W hW Hcp.out Hok.out Hpl.out)
          have HOf := Lib.hid (fun A c W hW => of_any A c p W hW Hok.out Hpl.out)
          rw [← hU] at HOf
          have HMe := Lib.hid (fun W => merge_any U V hUl hVl W)
          have HLo : Aside0 (lo = h - sz) := ⟨hlo⟩
          have HJ : Aside0 ((0 : Int) < h) := ⟨hj⟩
          have HB5 : Aside0 (Below w5.heap.size w5 wr) := ⟨by refine Below.trans HBo.out (HB.out.mono ?_); omega⟩
          have HX6 := Lib.hid X
          have HY6 := Lib.hid Y
          have HZ6 := Lib.hid Z
          clear hU hV hp hpl hA26 hc26 hlo hj X Y Z hi0 hUl hVl
          go_wp2_with fail
          refine (HFl.out _ (Kd.C_below HCp.out (by repeat (first | with_reducible exact Below.refl _ _ | ((with_reducible refine Below.setCell ?_ ?hp _); case hp => (first | omega | (simp <;> omega))) | ((with_reducible refine Below.alloc ?_ ?hp _); case hp => (first | omega | (simp <;> omega))) | (with_reducible refine Below.drew ?_) | ((with_reducible refine Below.trans ?_ (HB5.out.mono ?hm)); case hm => (first | omega | (simp <;> omega))))))).mono ?_
          rintro e w6 ⟨A27, c27, rfl, hC6, hb6⟩
          have HB6 := Aside0.mk hb6
          have HC6 := Aside0.mk hC6
          have hz6 := hb6.size
          clear hb6 hC6
          go_wp2_with fail
          refine (HOf.out A27 c27 _ HC6.out).mono ?_
          rintro e w7 ⟨rfl, hb7⟩
          have HB7 := Aside0.mk hb7
          have hz7 := hb7.size
          clear hb7
          have HZ7 := Lib.hid ((HZ6.out.keep (show Below wr.heap.size wr w6 from by repeat (first | with_reducible exact Below.refl _ _ | ((with_reducible refine Below.setCell ?_ ?hp _); case hp => (first | omega | (simp <;> omega))) | ((with_reducible refine Below.alloc ?_ ?hp _); case hp => (first | omega | (simp <;> omega))) | (with_reducible refine Below.drew ?_) | ((with_reducible refine Below.trans ?_ (HB6.out.mono ?hm)); case hm => (first | omega | (simp <;> omega)))))).keep (show Below w6.heap.size w6 w7 from by repeat (first | with_reducible exact Below.refl _ _ | ((with_reducible refine Below.setCell ?_ ?hp _); case hp => (first | omega | (simp <;> omega))) | ((with_reducible refine Below.alloc ?_ ?hp _); case hp => (first | omega | (simp <;> omega))) | (with_reducible refine Below.drew ?_) | ((with_reducible refine Below.trans ?_ (HB7.out.mono ?hm)); case hm => (first | omega | (simp <;> omega))))))
          obtain ⟨z0, z1, z2, z3, z4, z5, y0, y1, y2, y3, y4, y5⟩ := HZ7.out
          have hlt7 : wo.heap.size < w7.heap.size := World.block_lt_of_cell? w7 ⟨wo.heap.size, 0, none⟩ z0
          have hne7 : ¬ wo.heap.size = w7.heap.size := by omega
          have HSZ := Aside0.mk (And.intro hz (And.intro hz6 hz7))
          clear hz hz6 hz7
          go_wp2_with (first | (go_at_call 11; refine (HN.out _).mono ?_; rintro e W ⟨rfl, rfl⟩) | (go_at_call 14; refine (HMe.out _).mono ?_; rintro e w8 ⟨rfl, hb⟩; obtain ⟨hc8, hf8, hz8⟩ := kept_to hb (w7.heap.size + 1) (by first | omega | (simp <;> omega)); have HB8 := Lib.hid hb; clear hb))
          go_roundg lo
          case measure => have := HM.out; have := HLo.out; have := HJ.out; omega
          case rel =>
            obtain ⟨hz, hz6, hz7⟩ := HSZ.out
            refine ⟨(h : Int) - sz, ⟨by have := HJ.out; have := HI.out; omega⟩, ⟨by have := HLo.out; omega⟩, rfl, ?_, ?_, ?_, ⟨?_⟩⟩
            · exact six_far (by omega) (HX6.out.keep (by repeat (first | with_reducible exact Below.refl _ _ | ((with_reducible refine Below.setCell ?_ ?hp _); case hp => (first | omega | (simp <;> omega))) | ((with_reducible refine Below.alloc ?_ ?hp _); case hp => (first | omega | (simp <;> omega))) | (with_reducible refine Below.drew ?_) | ((with_reducible refine Below.trans ?_ (HB8.out.mono ?hm)); case hm => (first | omega | (simp <;> omega))) | ((with_reducible refine Below.trans ?_ (HB7.out.mono ?hm)); case hm => (first | omega | (simp <;> omega))) | ((with_reducible refine Below.trans ?_ (HB6.out.mono ?hm)); case hm => (first | omega | (simp <;> omega))))))
            · exact six_far (by omega) (HY6.out.keep (by repeat (first | with_reducible exact Below.refl _ _ | ((with_reducible refine Below.setCell ?_ ?hp _); case hp => (first | omega | (simp <;> omega))) | ((with_reducible refine Below.alloc ?_ ?hp _); case hp => (first | omega | (simp <;> omega))) | (with_reducible refine Below.drew ?_) | ((with_reducible refine Below.trans ?_ (HB8.out.mono ?hm)); case hm => (first | omega | (simp <;> omega))) | ((with_reducible refine Below.trans ?_ (HB7.out.mono ?hm)); case hm => (first | omega | (simp <;> omega))) | ((with_reducible refine Below.trans ?_ (HB6.out.mono ?hm)); case hm => (first | omega | (simp <;> omega))))))
            · rw [show ((h : Int) - sz).toNat = lo from by have := HLo.out; omega, ← HSN.out]; exact six_set (HZ6.out.keep (by repeat (first | with_reducible exact Below.refl _ _ | ((with_reducible refine Below.setCell ?_ ?hp _); case hp => (first | omega | (simp <;> omega))) | ((with_reducible refine Below.alloc ?_ ?hp _); case hp => (first | omega | (simp <;> omega))) | (with_reducible refine Below.drew ?_) | ((with_reducible refine Below.trans ?_ (HB8.out.mono ?hm)); case hm => (first | omega | (simp <;> omega))) | ((with_reducible refine Below.trans ?_ (HB7.out.mono ?hm)); case hm => (first | omega | (simp <;> omega))) | ((with_reducible refine Below.trans ?_ (HB6.out.mono ?hm)); case hm => (first | omega | (simp <;> omega))))))
            · repeat (first | with_reducible exact Below.refl _ _ | ((with_reducible refine Below.setCell ?_ ?hp _); case hp => (first | omega | (simp <;> omega))) | ((with_reducible refine Below.alloc ?_ ?hp _); case hp => (first | omega | (simp <;> omega))) | (with_reducible refine Below.drew ?_) | ((with_reducible refine Below.trans ?_ (HB8.out.mono ?hm)); case hm => (first | omega | (simp <;> omega))) | ((with_reducible refine Below.trans ?_ (HB7.out.mono ?hm)); case hm => (first | omega | (simp <;> omega))) | ((with_reducible refine Below.trans ?_ (HB6.out.mono ?hm)); case hm => (first | omega | (simp <;> omega))))
              exact HB.out
        · have c2 : decide ((0 : Int) < hI) = false := decide_eq_false hj
          have h0 : hI.toNat = 0 := by omega
          rw [h0, List.drop_zero, sumN_perm 0 HP.out, ← HS.out] at Z
          have hq : ∀ W, (binOp .eql 27 (SV T) (SV T)).run Tryd.prog W = .ok (.bool true) W := fun W => by rw [run_eql_sum T T hTl2.out hTl2.out W]; simp
          obtain ⟨x0, x1, x2, x3, x4, x5, g0, g1, g2, g3, g4, g5⟩ := X
          obtain ⟨y0, y1, y2, y3, y4, y5, j0, j1, j2, j3, j4, j5⟩ := Y
          obtain ⟨z0, z1, z2, z3, z4, z5, k0, k1, k2, k3, k4, k5⟩ := Z
          clear h0 hj
          go_wp2_with fail
          go_ret
          refine ⟨rfl, ?_⟩
          refine Below.trans ?_ (HB.out.mono (by omega))
          refine Below.trans ?_ (HBo.out.mono (by omega))
          repeat (first | with_reducible exact Below.refl _ _ | ((with_reducible refine Below.setCell ?_ ?hp _); case hp => (first | omega | (simp <;> omega))) | ((with_reducible refine Below.alloc ?_ ?hp _); case hp => (first | omega | (simp <;> omega))) | (with_reducible refine Below.drew ?_) | ((with_reducible refine Below.trans ?_ (HB5.out.mono ?hm)); case hm => (first | omega | (simp <;> omega))) | ((with_reducible refine Below.trans ?_ (HB4.out.mono ?hm)); case hm => (first | omega | (simp <;> omega))) | ((with_reducible refine Below.trans ?_ (HB3.out.mono ?hm)); case hm => (first | omega | (simp <;> omega))) | ((with_reducible refine Below.trans ?_ (HB2.out.mono ?hm)); case hm => (first | omega | (simp <;> omega))) | ((with_reducible refine Below.trans ?_ (HB1.out.mono ?hm)); case hm => (first | omega | (simp <;> omega))))
end Go.Proofs.YtmnojohcfalodaaDoor
