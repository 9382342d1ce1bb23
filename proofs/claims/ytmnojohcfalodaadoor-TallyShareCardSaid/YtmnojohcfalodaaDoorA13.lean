/-
  floats, Add and Of, by walks.
-/
import Derived.Test.YtmnojohcfalodaaDoorA12
import Derived.Test.YtmnojohcfalodaaDoorA2
import Derived.Test.YtmnojohcfalodaaDoorPTallyOrderx0
namespace Go.Proofs.YtmnojohcfalodaaDoor
set_option linter.unusedVariables false
set_option linter.unusedSimpArgs false
open Go.RowKit Go.Proofs.YtmnojohcfalodaaDoorW.PrintWords Go.Proofs.YtmnojohcfalodaaDoorW.PrintLast Go.Proofs.YtmnojohcfalodaaDoorW.PrintMore
/-- rows of float32 numbers, told by their bits -/
def FK : Kd Int := Kd.scalar (fun i : Int => Value.float .f32 i.toNat) (fun _ => rfl)
theorem info43 : (Tryd.prog.info? 43).map (fun i => (i.zero, i.size, i.bytes)) = some (some (.float .f32 0), 1, 4) := by kernel_rfl
theorem frombits_i (u : Int) (h : 0 ≤ u) (w : World) : (callFunc 33 #[.int .u32 u]).run Tryd.prog w = .ok (.value (.float .f32 u.toNat)) w := by
  obtain ⟨n, rfl⟩ := Int.eq_ofNat_of_zero_le h
  exact float32frombits n w
theorem float21 (u : Int) (h : 0 ≤ u) (w : World) : Calls Tryd.prog 21 #[.int .u32 u] w fun e w' => e = .returned (.float .f32 u.toNat) ∧ w = w' := by
  have hr := frombits_i u h
  go_enter Tryd.func21, Tryd.ntmps21
  go_wp2
  go_ret
  exact ⟨rfl, rfl⟩
theorem bits20 (u : Nat) (w : World) : Calls Tryd.prog 20 #[.float .f32 u] w fun e w' => e = .returned (.int .u32 u) ∧ w = w' := by
  have hr := float32bits u
  go_enter Tryd.func20, Tryd.ntmps20
  go_wp2
  go_ret
  exact ⟨rfl, rfl⟩
theorem num11 (u : Int) (w : World) : Calls Tryd.prog 11 #[.int .i64 u] w fun e w' => e = .returned (.int .i64 u) ∧ w = w' := by
  go_enter Tryd.func11, Tryd.ntmps11
  go_wp2
  go_ret
  exact ⟨rfl, rfl⟩
theorem FK_at {w : World} {A : Option Addr} {n : Nat} {xs : List Int} (h : FK.C w A n xs) (i : Int) (h0 : 0 ≤ i) (h1 : i < n) : ∃ ad, A = some ad ∧ w.cell? (ad.add i.toNat) = some (.float .f32 (rd xs i).toNat) := by
  obtain ⟨ad, c, e, hl, hk, hc⟩ := Kd.C_get h 0 i h0 h1
  refine ⟨ad, e, ?_⟩
  have hk' : c = [Value.float .f32 (xs.getD i.toNat 0).toNat] := hk
  have := hc 0 _ (by rw [hk']; rfl)
  rw [show i.toNat * FK.sz + 0 = i.toNat from by show i.toNat * 1 + 0 = _; omega] at this
  exact this
theorem take_snoc (l : List Int) (i : Nat) (h : i < l.length) : l.take i ++ [rd l (i : Int)] = l.take (i + 1) := by
  rw [List.take_add_one, List.getElem?_eq_getElem h]
  simp [rd, List.getD_eq_getElem?_getD, List.getElem?_eq_getElem h]
theorem rd_nonneg (l : List Int) (h : ∀ x ∈ l, 0 ≤ x) (i : Nat) (hi : i < l.length) : 0 ≤ rd l (i : Int) := by
  simp only [rd, Int.toNat_natCast, List.getD_eq_getElem?_getD, List.getElem?_eq_getElem hi, Option.getD_some]
  exact h _ (List.getElem_mem hi)
set_option maxHeartbeats 8000000 in
set_option maxRecDepth 100000 in
theorem floats_any (A0 : Option Addr) (c0 : Nat) (l0 : List Int) (w : World) (hr0 : Kd.C (Kd.int .u32) w A0 l0.length l0) (hc0 : l0.length ≤ c0) (hp : ∀ x ∈ l0, 0 ≤ x) (hlen : l0.length < 35184372088832) :
    Calls Tryd.prog 9 #[.slice A0 l0.length c0] w fun e w' => ∃ v0_ : Value, e = .returned v0_ ∧ FK.R 43 w' w.heap.size (fun _ => True) v0_ l0 ∧ Below w.heap.size w w' := by
  have HR0 := Aside0.mk hr0
  clear hr0 hc0
  have HP := Aside0.mk hp
  have HL := Aside0.mk hlen
  clear hp hlen
  have HB := Aside0.mk (Below.refl w.heap.size w)
  go_enter Tryd.func9, Tryd.ntmps9
  go_wp2
  go_loopg [3, 4] l0.length (fun kq v3 v4 w' => ∃ i : Nat, Aside0 (i + kq = l0.length) ∧ v4 = .int .i64 i ∧ Aside0 (FK.R 43 w' w.heap.size (fun _ => True) v3 (l0.take i)) ∧ Aside0 (Below w.heap.size w w'))
  case atStart => exact ⟨0, ⟨by omega⟩, rfl, ⟨by rw [List.take_zero]; exact Kd.R_nil _ _ _ _ _⟩, ⟨by repeat (first | (with_reducible first | exact HB.out | apply below_alloc | apply pw_below_drewN | apply below_drew1) | exact HB.out)⟩⟩
  case round =>
    clear HB
    obtain ⟨i, HI, rfl, HO, HB⟩ := hrel
    by_cases hi : i < l0.length
    · have p0 : (0 : Int) ≤ i := by omega
      have q0 : (i : Int) < l0.length := by omega
      obtain ⟨ad, e1, hx⟩ := Kd.at_int HR0.out i p0 q0
      cases e1
      have hnn := rd_nonneg l0 HP.out i hi
      obtain ⟨x, hxx⟩ : ∃ x, rd l0 (i : Int) = x := ⟨_, rfl⟩
      have HX := Aside0.mk hxx
      have HT := Aside0.mk (take_snoc l0 i hi)
      rw [hxx] at hx hnn
      rw [Int.toNat_natCast] at hx
      replace hx := (HB.out.cell (World.block_lt_of_cell? w _ hx)).trans hx
      have c2 : decide ((i : Int) < l0.length) = true := decide_eq_true q0
      have HC := Lib.hid (fun W => float21 x hnn W)
      have LM := Aside0.mk hi
      have hw : wrap64 ((i : Int) + 1) = ((i + 1 : Nat) : Int) := by have := HL.out; unfold wrap64; omega
      replace p0 := eq_true p0
      replace q0 := eq_true q0
      clear hxx hnn hi
      go_wp2_with (first | (go_at_call 21; refine (HC.out _).mono ?_; rintro e W ⟨rfl, rfl⟩) | ((with_reducible refine gate_builtin (b := .append) (xs := #[.tmp 11, .tmp 17]) rfl ?_); at_builtin; refine Kd.R_append FK (w0 := w) w.heap.size rfl (.tmp 11) (.tmp 17) 31 43 (.float .f32 0) 4 rfl Tryd.underlying31 info43 rfl (by decide) (by omega) u3 (l0.take i) x [.float .f32 x.toNat] (fun _ => True) (fun _ => False) rfl rfl ?aP (fun _ hk => hk.elim) ?aF ?aO ?aB ?aS ?aL ?_; (case aP => exact rfl); (case aB => exact (by repeat (first | (with_reducible first | exact HB.out | apply below_alloc | apply pw_below_drewN | apply below_drew1) | exact HB.out))); (case aF => exact (fun _ _ => trivial)); (case aO => exact (by (with_reducible repeat (first | apply Kd.R_alloc | apply Kd.R_drewN | apply Kd.R_drew)); exact HO.out)); (case aS => exact (below_size (by repeat (first | (with_reducible first | exact HB.out | apply below_alloc | apply pw_below_drewN | apply below_drew1) | exact HB.out)))); (case aL => have := HL.out; rw [List.length_take]; omega); intro v1 w6 ho hb hg hat; have n0_ := Aside0.mk (hb); have n1_ := Aside0.mk (ho); clear HB; clear HO; have HB := n0_; have HO := n1_; clear n0_ n1_; clear ho hb hg hat))
      go_roundg (l0.length - (i + 1))
      case measure => have := HI.out; have := LM.out; omega
      case rel => exact ⟨i + 1, ⟨by have := LM.out; omega⟩, by first | rfl | exact congrArg (Value.int .i64) hw | (rw [hw]), ⟨by (with_reducible repeat (first | apply Kd.R_alloc | apply Kd.R_drewN | apply Kd.R_drew)); rw [← HT.out, HX.out]; exact HO.out⟩, ⟨by repeat (first | (with_reducible first | exact HB.out | apply below_alloc | apply pw_below_drewN | apply below_drew1) | exact HB.out)⟩⟩
    · have c2 : decide ((i : Int) < l0.length) = false := decide_eq_false (by omega)
      have hil : i = l0.length := by have := HI.out; omega
      subst hil
      have HO' := HO.out
      rw [List.take_length] at HO'
      clear HO
      have HO := Aside0.mk HO'
      clear HO' HI
      go_wp2
      go_ret
      exact ⟨_, rfl, by (with_reducible repeat (first | apply Kd.R_alloc | apply Kd.R_drewN | apply Kd.R_drew)); exact HO.out, by repeat (first | (with_reducible first | exact HB.out | apply below_alloc | apply pw_below_drewN | apply below_drew1) | exact HB.out)⟩
/-- a list of finite float32 numbers, told by their bits, added up -/
def sumN (s : Nat) (l : List Int) : Nat := l.foldl (fun a u => putN a u.toNat) s
def okF (u : Int) : Prop := 0 ≤ u ∧ u < 4294967296 ∧ u.toNat / 8388608 % 256 ≠ 255
theorem putN_lt (s u : Nat) (h : s < M384) : putN s u < M384 := by
  unfold putN
  split
  · exact Nat.mod_lt _ (by decide)
  · exact h
theorem sumN_lt (l : List Int) : ∀ s, s < M384 → sumN s l < M384 := by
  induction l with
  | nil => intro s h; exact h
  | cons x l ih => intro s h; exact ih _ (putN_lt s _ h)
theorem sumN_snoc (s : Nat) (l : List Int) (i : Nat) (h : i < l.length) : putN (sumN s (l.take i)) (rd l (i : Int)).toNat = sumN s (l.take (i + 1)) := by
  rw [← take_snoc l i h]
  simp [sumN, List.foldl_append]
theorem rd_ok (l : List Int) (h : ∀ x ∈ l, okF x) (i : Nat) (hi : i < l.length) : okF (rd l (i : Int)) := by
  simp only [rd, Int.toNat_natCast, List.getD_eq_getElem?_getD, List.getElem?_eq_getElem hi, Option.getD_some]
  exact h _ (List.getElem_mem hi)
structure Six (w : World) (b n : Nat) : Prop where
  c0 : w.cell? ⟨b, 0, none⟩ = some (.int .u64 (wd n 0 : Nat))
  c1 : w.cell? ⟨b, 1, none⟩ = some (.int .u64 (wd n 1 : Nat))
  c2 : w.cell? ⟨b, 2, none⟩ = some (.int .u64 (wd n 2 : Nat))
  c3 : w.cell? ⟨b, 3, none⟩ = some (.int .u64 (wd n 3 : Nat))
  c4 : w.cell? ⟨b, 4, none⟩ = some (.int .u64 (wd n 4 : Nat))
  c5 : w.cell? ⟨b, 5, none⟩ = some (.int .u64 (wd n 5 : Nat))
  f0 : w.frozen? ⟨b, 0, none⟩ = false
  f1 : w.frozen? ⟨b, 1, none⟩ = false
  f2 : w.frozen? ⟨b, 2, none⟩ = false
  f3 : w.frozen? ⟨b, 3, none⟩ = false
  f4 : w.frozen? ⟨b, 4, none⟩ = false
  f5 : w.frozen? ⟨b, 5, none⟩ = false
theorem Six.keep {w w' : World} {b n : Nat} (h : Six w b n) (hb : Below w.heap.size w w') : Six w' b n := by
  have hl : b < w.heap.size := World.block_lt_of_cell? w ⟨b, 0, none⟩ h.c0
  have e : ∀ i, w'.cell? ⟨b, i, none⟩ = w.cell? ⟨b, i, none⟩ := fun i => hb.cell (p := ⟨b, i, none⟩) hl
  have f : ∀ i, w'.frozen? ⟨b, i, none⟩ = w.frozen? ⟨b, i, none⟩ := fun i => hb.frozen (p := ⟨b, i, none⟩) hl
  exact ⟨by rw [e, h.c0], by rw [e, h.c1], by rw [e, h.c2], by rw [e, h.c3], by rw [e, h.c4], by rw [e, h.c5], by rw [f, h.f0], by rw [f, h.f1], by rw [f, h.f2], by rw [f, h.f3], by rw [f, h.f4], by rw [f, h.f5]⟩
def set6 (w : World) (b m : Nat) : World := (((((w.setCell ⟨b, 0, none⟩ (.int .u64 (wd m 0 : Nat))).setCell ⟨b, 1, none⟩ (.int .u64 (wd m 1 : Nat))).setCell ⟨b, 2, none⟩ (.int .u64 (wd m 2 : Nat))).setCell ⟨b, 3, none⟩ (.int .u64 (wd m 3 : Nat))).setCell ⟨b, 4, none⟩ (.int .u64 (wd m 4 : Nat))).setCell ⟨b, 5, none⟩ (.int .u64 (wd m 5 : Nat))
theorem six_set {w : World} {b n m : Nat} (h : Six w b n) : Six (set6 w b m) b m := by
  obtain ⟨x0, x1, x2, x3, x4, x5, g0, g1, g2, g3, g4, g5⟩ := h
  unfold set6
  constructor <;> simp [go_sem, *]
theorem six_far {w : World} {b b' n m : Nat} (hne : b' ≠ b) (h : Six w b' n) : Six (set6 w b m) b' n := by
  obtain ⟨x0, x1, x2, x3, x4, x5, g0, g1, g2, g3, g4, g5⟩ := h
  unfold set6
  constructor <;> simp [go_sem, *]
set_option maxHeartbeats 8000000 in
set_option maxRecDepth 100000 in
theorem add_any (s : Nat) (hs : s < M384) (A0 : Option Addr) (c0 : Nat) (l0 : List Int) (w : World) (hr0 : FK.C w A0 l0.length l0) (hp : ∀ x ∈ l0, okF x) (hlen : l0.length < 35184372088832) :
    Calls Tryd.prog 28 #[SV s, .slice A0 l0.length c0] w fun e w' => e = .returned (.tuple #[SV (sumN s l0), .int .i64 0]) ∧ Below w.heap.size w w' := by
  have HR0 := Aside0.mk hr0
  clear hr0
  have HP := Aside0.mk hp
  have HL := Aside0.mk hlen
  have HS := Aside0.mk hs
  clear hp hlen hs
  go_enter Tryd.func28, Tryd.ntmps28
  go_wp2
  go_loopg [7, 12] l0.length (fun kq v7 v12 w' => ∃ i : Nat, Aside0 (i + kq = l0.length) ∧ v12 = .int .i64 i ∧ Six w' w.heap.size s ∧ Six w' (w.heap.size + 1) 0 ∧ Aside0 (Below w.heap.size w w'))
  case atStart =>
    refine ⟨0, ⟨by omega⟩, rfl, ?_, ?_, ⟨by repeat (first | (with_reducible first | exact Below.refl _ _ | apply below_alloc | apply pw_below_drewN | apply below_drew1) | exact Below.refl _ _)⟩⟩
    · constructor <;> simp
    · constructor <;> simp [wd_zero]
  case round =>
    obtain ⟨i, HI, rfl, X, Y, HB⟩ := hrel
    have hz : w.heap.size + 1 < wr.heap.size := World.block_lt_of_cell? wr ⟨w.heap.size + 1, 0, none⟩ Y.c0
    by_cases hi : i < l0.length
    · have p0 : (0 : Int) ≤ i := by omega
      have q0 : (i : Int) < l0.length := by omega
      obtain ⟨ad, e1, hx⟩ := FK_at HR0.out i p0 q0
      cases e1
      have hok := rd_ok l0 HP.out i hi
      obtain ⟨x, hxx⟩ : ∃ x, (rd l0 (i : Int)).toNat = x := ⟨_, rfl⟩
      rw [hxx, Int.toNat_natCast] at hx
      have hx32 : x < 4294967296 := by have := hok.2.1; omega
      have hfin := hok.2.2
      rw [hxx] at hfin
      replace hx := (HB.out.cell (World.block_lt_of_cell? w _ hx)).trans hx
      have c2 : decide ((i : Int) < l0.length) = true := decide_eq_true q0
      have HC := Lib.hid (fun W => finite29 x hx32 W)
      rw [show (!(x / 8388608 % 256 == 255)) = true by simpa using hfin] at HC
      have hbt := float32bits x
      have LM := Aside0.mk hi
      have hw : wrap64 ((i : Int) + 1) = ((i + 1 : Nat) : Int) := by have := HL.out; unfold wrap64; omega
      replace p0 := eq_true p0
      replace q0 := eq_true q0
      have HX := Lib.hid X
      have HY := Lib.hid Y
      clear hxx hok hx32 hfin hi X Y
      go_wp2_with (go_at_call 29; refine (HC.out _).mono ?_; rintro e W ⟨rfl, rfl⟩)
      go_roundg (l0.length - (i + 1))
      case measure => have := HI.out; have := LM.out; omega
      case rel => exact ⟨i + 1, ⟨by have := LM.out; omega⟩, by first | rfl | exact congrArg (Value.int .i64) hw | (rw [hw]), HX.out.keep (by repeat (first | (with_reducible first | exact Below.refl _ _ | apply below_alloc | apply pw_below_drewN | apply below_drew1) | exact Below.refl _ _)), HY.out.keep (by repeat (first | (with_reducible first | exact Below.refl _ _ | apply below_alloc | apply pw_below_drewN | apply below_drew1) | exact Below.refl _ _)), ⟨by repeat (first | (with_reducible first | exact HB.out | apply below_alloc | apply pw_below_drewN | apply below_drew1) | exact HB.out)⟩⟩
    · have c2 : decide ((i : Int) < l0.length) = false := decide_eq_false (by omega)
      obtain ⟨x0, x1, x2, x3, x4, x5, g0, g1, g2, g3, g4, g5⟩ := X
      obtain ⟨y0, y1, y2, y3, y4, y5, h0, h1, h2, h3, h4, h5⟩ := Y
      have hw6 := HS.out
      have X : Six wr w.heap.size s := ⟨x0, x1, x2, x3, x4, x5, g0, g1, g2, g3, g4, g5⟩
      have Y : Six wr (w.heap.size + 1) 0 := ⟨y0, y1, y2, y3, y4, y5, h0, h1, h2, h3, h4, h5⟩
      clear x0 x1 x2 x3 x4 x5 g0 g1 g2 g3 g4 g5 y0 y1 y2 y3 y4 y5 h0 h1 h2 h3 h4 h5 HI c2
      go_wp2
      go_loopg [9, 24] l0.length (fun kq v7 v12 w' => ∃ i : Nat, Aside0 (i + kq = l0.length) ∧ v12 = .int .i64 i ∧ Six w' w.heap.size (sumN s (l0.take i)) ∧ Six w' (w.heap.size + 1) 0 ∧ Aside0 (Below w.heap.size w w'))
      case atStart =>
        refine ⟨0, ⟨by omega⟩, rfl, X, Y, HB⟩
      case round =>
        clear X Y hz HB hi
        obtain ⟨j, HI, rfl, X, Y, HB⟩ := hrel
        have hz := World.block_lt_of_cell? _ ⟨w.heap.size + 1, 0, none⟩ Y.c0
        obtain ⟨S, hS⟩ : ∃ S, S = sumN s (l0.take j) := ⟨_, rfl⟩
        rw [← hS] at X
        have hSl : S < M384 := by rw [hS]; exact sumN_lt _ _ HS.out
        by_cases hj : j < l0.length
        · have p0 : (0 : Int) ≤ j := by omega
          have q0 : (j : Int) < l0.length := by omega
          obtain ⟨ad, e1, hx⟩ := FK_at HR0.out j p0 q0
          cases e1
          have hok := rd_ok l0 HP.out j hj
          have hsn := sumN_snoc s l0 j hj
          obtain ⟨x, hxx⟩ : ∃ x, (rd l0 (j : Int)).toNat = x := ⟨_, rfl⟩
          rw [hxx, Int.toNat_natCast] at hx
          rw [hxx, ← hS] at hsn
          have HSN := Aside0.mk hsn
          have hx32 : x < 4294967296 := by have := hok.2.1; omega
          replace hx := (HB.out.cell (World.block_lt_of_cell? w _ hx)).trans hx
          have c2 : decide ((j : Int) < l0.length) = true := decide_eq_true q0
          have HC := Lib.hid (fun W => put_any S hSl x hx32 W)
          have hbt := float32bits x
          have LM := Aside0.mk hj
          have hw : wrap64 ((j : Int) + 1) = ((j + 1 : Nat) : Int) := by have := HL.out; unfold wrap64; omega
          replace p0 := eq_true p0
          replace q0 := eq_true q0
          have HX := Lib.hid X
          have HY := Lib.hid Y
          obtain ⟨x0, x1, x2, x3, x4, x5, g0, g1, g2, g3, g4, g5⟩ := X
          clear hxx hok hx32 hj Y hsn hSl hS
          go_wp2_with fail
          go_region_with (go_at_call 13; refine (HC.out _).mono ?_; rintro e W ⟨rfl, hb⟩; obtain ⟨hc, hf, hz2⟩ := kept_to hb (w.heap.size + 2) (by first | omega | (simp <;> omega)); have HB1 := Lib.hid hb; clear hb)
          all_goals go_wp2_with fail
          all_goals
            go_roundg (l0.length - (j + 1))
            case measure => have := HI.out; have := LM.out; omega
            case rel =>
              refine ⟨j + 1, ⟨by have := LM.out; omega⟩, congrArg (Value.int .i64) hw, ?_, ?_, ⟨?_⟩⟩
              · rw [← HSN.out]; exact six_set (HX.out.keep (by repeat (first | with_reducible exact Below.refl _ _ | ((with_reducible refine Below.setCell ?_ ?hp _); case hp => (first | omega | (simp <;> omega))) | ((with_reducible refine Below.alloc ?_ ?hp _); case hp => (first | omega | (simp <;> omega))) | (with_reducible refine Below.drew ?_) | ((with_reducible refine Below.trans ?_ (HB1.out.mono ?hm)); case hm => (first | omega | (simp <;> omega))))))
              · exact six_far (by omega) (HY.out.keep (by repeat (first | with_reducible exact Below.refl _ _ | ((with_reducible refine Below.setCell ?_ ?hp _); case hp => (first | omega | (simp <;> omega))) | ((with_reducible refine Below.alloc ?_ ?hp _); case hp => (first | omega | (simp <;> omega))) | (with_reducible refine Below.drew ?_) | ((with_reducible refine Below.trans ?_ (HB1.out.mono ?hm)); case hm => (first | omega | (simp <;> omega))))))
              · repeat (first | with_reducible exact Below.refl _ _ | ((with_reducible refine Below.setCell ?_ ?hp _); case hp => (first | omega | (simp <;> omega))) | ((with_reducible refine Below.alloc ?_ ?hp _); case hp => (first | omega | (simp <;> omega))) | (with_reducible refine Below.drew ?_) | ((with_reducible refine Below.trans ?_ (HB1.out.mono ?hm)); case hm => (first | omega | (simp <;> omega))))
                exact HB.out
        · have c2 : decide ((j : Int) < l0.length) = false := decide_eq_false (by omega)
          have hil : j = l0.length := by have := HI.out; omega
          subst hil
          rw [List.take_length] at hS
          subst hS
          have HX := Lib.hid X
          obtain ⟨x0, x1, x2, x3, x4, x5, g0, g1, g2, g3, g4, g5⟩ := X
          obtain ⟨y0, y1, y2, y3, y4, y5, h0, h1, h2, h3, h4, h5⟩ := Y
          clear HI hj hSl
          go_wp2_with fail
          refine bodyPost_ret (v := .tuple #[SV (sumN s l0), .int .i64 0]) (by simp [results, Tryd.results28, go_sem, *]) rfl ⟨rfl, ?_⟩
          repeat (first | with_reducible exact Below.refl _ _ | ((with_reducible refine Below.setCell ?_ ?hp _); case hp => (first | omega | (simp <;> omega))) | ((with_reducible refine Below.alloc ?_ ?hp _); case hp => (first | omega | (simp <;> omega))) | (with_reducible refine Below.drew ?_))
          exact HB.out
end Go.Proofs.YtmnojohcfalodaaDoor
