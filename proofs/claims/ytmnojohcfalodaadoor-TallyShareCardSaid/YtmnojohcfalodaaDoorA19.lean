/-
  Text, by a walk.
-/
import Derived.Test.YtmnojohcfalodaaDoorA18
import Derived.Test.YtmnojohcfalodaaDoorA16
import Derived.Test.YtmnojohcfalodaaDoorA10
import Derived.Test.YtmnojohcfalodaaDoorNa
import Derived.Deep.DeepCutAuto
import Derived.Deep.CutBlock
namespace Go.Proofs.YtmnojohcfalodaaDoor
set_option linter.unusedVariables false
set_option linter.unusedSimpArgs false
open Go.RowKit Go.Proofs.YtmnojohcfalodaaDoorW.PrintWords Go.Proofs.YtmnojohcfalodaaDoorW.PrintLast Go.Proofs.YtmnojohcfalodaaDoorW.PrintMore
/-- rows of bytes -/
def BK : Kd UInt8 := Kd.scalar (fun b : UInt8 => Value.int .u8 (b.toNat : Nat)) (fun _ => rfl)
theorem Six.keepB {w w' : World} {b n B : Nat} (h : Six w b n) (hb : Below B w w') (hB : b < B) : Six w' b n := by
  have e : ∀ i, w'.cell? ⟨b, i, none⟩ = w.cell? ⟨b, i, none⟩ := fun i => hb.cell (p := ⟨b, i, none⟩) hB
  have f : ∀ i, w'.frozen? ⟨b, i, none⟩ = w.frozen? ⟨b, i, none⟩ := fun i => hb.frozen (p := ⟨b, i, none⟩) hB
  exact ⟨by rw [e, h.c0], by rw [e, h.c1], by rw [e, h.c2], by rw [e, h.c3], by rw [e, h.c4], by rw [e, h.c5], by rw [f, h.f0], by rw [f, h.f1], by rw [f, h.f2], by rw [f, h.f3], by rw [f, h.f4], by rw [f, h.f5]⟩
theorem Six.lt {w : World} {b n : Nat} (h : Six w b n) : b < w.heap.size := World.block_lt_of_cell? w ⟨b, 0, none⟩ h.c0
theorem BK_at {w : World} {A : Option Addr} {n : Nat} {xs : List UInt8} (h : BK.C w A n xs) (i : Nat) (hi : i < n) : ∃ ad, A = some ad ∧ w.cell? (ad.add i) = some (.int .u8 ((xs.getD i 0).toNat : Nat)) := by
  obtain ⟨ad, c, e, hl, hk, hc⟩ := Kd.C_get h 0 (i : Int) (by omega) (by omega)
  refine ⟨ad, e, ?_⟩
  rw [Int.toNat_natCast] at hk hc
  have hk' : c = [Value.int .u8 ((xs.getD i 0).toNat : Nat)] := hk
  have := hc 0 _ (by rw [hk']; rfl)
  rw [show i * BK.sz + 0 = i from by show i * 1 + 0 = _; omega] at this
  exact this
theorem rev_take (l : List UInt8) (i : Nat) (h : i < l.length) : l.reverse.take i ++ [l.getD (l.length - 1 - i) 0] = l.reverse.take (i + 1) := by
  rw [List.take_add_one, List.getElem?_reverse h, List.getD_eq_getElem?_getD, List.getElem?_eq_getElem (by omega)]
  rfl
theorem idx_facts (len i : Nat) (hi : i < len) (hl : len ≤ 116) : ∃ q L1 : Nat, q = len - 1 - i ∧ wrap64 ((len : Int) - 1) = (L1 : Int) ∧ wrap64 ((L1 : Int) - i) = (q : Int) ∧ wrap64 ((i : Int) + 1) = ((i + 1 : Nat) : Int) ∧ (0 ≤ (q : Int)) = True ∧ ((q : Int) < len) = True ∧ q < len := by
  refine ⟨len - 1 - i, len - 1, rfl, ?_, ?_, ?_, eq_true ?_, eq_true ?_, ?_⟩
  · unfold wrap64; omega
  · unfold wrap64; omega
  · unfold wrap64; omega
  · omega
  · omega
  · omega
theorem byteCells_snoc (l : List UInt8) (x : UInt8) : Lib.byteCells (l ++ [x]) = Lib.byteCells l ++ [.int .u8 (x.toNat : Nat)] := by simp [Lib.byteCells]
theorem builder_move {T e : TypeId} {B b : Nat} {bs : List Value} {w w' : World} (h : Lib.IsBuilderF T e B b bs w) (hm : ∀ (k : Nat) (c : Array Value) (t : Nat) (fz : Nat × Nat), w.heap[k]? = some (Obj.cells c t fz) → t = T ∨ t = e → w'.heap[k]? = w.heap[k]?) : Lib.IsBuilderF T e B b bs w' := by
  have key : ∀ p, Lib.BuilderAtF T e B b p bs w → Lib.BuilderAtF T e B b p bs w' := by
    rintro p ⟨hB, v, hb, hown, hne⟩
    refine ⟨hB, v, (hm b _ _ _ hb (.inl rfl)).trans hb, ⟨hown.1, ?_⟩, hne⟩
    rcases hown.2 with hn | ⟨g, cap, cur, fz, hv, hbg, hg, rest⟩
    · exact .inl hn
    · exact .inr ⟨g, cap, cur, fz, hv, hbg, (hm g _ _ _ hg (.inr rfl)).trans hg, rest⟩
  exact h.elim (fun x => .inl (key _ x)) (fun x => .inr (key _ x))
theorem lt_of_some {w : World} {k : Nat} {o : Obj} (h : w.heap[k]? = some o) : k < w.heap.size := by
  rcases Nat.lt_or_ge k w.heap.size with h' | h'
  · exact h'
  · simp [Array.getElem?_eq_none h'] at h
theorem builder_below {T e : TypeId} {B b : Nat} {bs : List Value} {w w' : World} (h : Lib.IsBuilderF T e B b bs w) (hb : Below w.heap.size w w') : Lib.IsBuilderF T e B b bs w' :=
  builder_move h (fun k _ _ _ hk _ => hb.block k (lt_of_some hk))
theorem builder_fr {T e : TypeId} {B b r t : Nat} {bs : List Value} {w w' : World} (h : Lib.IsBuilderF T e B b bs w) (hF : Fr r w.heap.size w w') (hT : Typed w r t) (h1 : t ≠ T) (h2 : t ≠ e) : Lib.IsBuilderF T e B b bs w' :=
  builder_move h (fun k c t' fz hk ht => hF k (lt_of_some hk) (fun e1 => by
    subst e1
    obtain ⟨c2, h3⟩ := hT
    rw [hk] at h3
    injection h3 with h3
    injection h3 with _ h4 _
    rcases ht with rfl | rfl
    · exact h1 h4.symm
    · exact h2 h4.symm))
theorem typed_new (w : World) (c : Array Value) (t : Nat) : Typed (w.alloc (Obj.cells c t)) w.heap.size t := ⟨c, heap_alloc_new w _⟩
theorem six_others {w w' : World} {b n bb : Nat} (h : Six w b n) (hT : Typed w b 27) (hk : Lib.OthersKept 5 (some bb) w w') (hne : b ≠ bb) : Six w' b n ∧ Typed w' b 27 := by
  obtain ⟨c, hc⟩ := hT
  have hh : w'.heap[b]? = some (.cells c 27 (0, 0)) := hk b _ hc (by simpa using hne) (fun _ _ => by simp)
  have e : ∀ i, w'.cell? ⟨b, i, none⟩ = w.cell? ⟨b, i, none⟩ := fun i => by simp [World.cell?, hh, hc]
  have f : ∀ i, w'.frozen? ⟨b, i, none⟩ = w.frozen? ⟨b, i, none⟩ := fun i => by simp [World.frozen?, hh, hc]
  exact ⟨⟨by rw [e, h.c0], by rw [e, h.c1], by rw [e, h.c2], by rw [e, h.c3], by rw [e, h.c4], by rw [e, h.c5], by rw [f, h.f0], by rw [f, h.f1], by rw [f, h.f2], by rw [f, h.f3], by rw [f, h.f4], by rw [f, h.f5]⟩, ⟨c, hh⟩⟩
theorem below_alloc0 {b : Nat} {w : World} (h : b = w.heap.size) (o : Obj) : Below b w (w.alloc o) := (Below.refl b w).alloc (by omega) o
set_option maxRecDepth 100000 in
set_option maxHeartbeats 8000000 in
theorem text_any (n : Nat) (hn : n < M384) (w : World) :
    Calls Tryd.prog 26 #[SV n] w fun e w' => e = .returned (.string ⟨(textN n).toArray⟩) ∧ Below w.heap.size w w' := by
  have HA := Lib.hid (fun W => apart_any n hn W)
  have hml : magN n < M384 := magN_lt n hn
  obtain ⟨sg, hsg⟩ : ∃ sg, sg = decide (H383 ≤ n) := ⟨_, rfl⟩
  obtain ⟨m, hm⟩ : ∃ m, m = magN n := ⟨_, rfl⟩
  obtain ⟨h0, hh0⟩ : ∃ h, h = m / U149 := ⟨_, rfl⟩
  obtain ⟨r0, hr0⟩ : ∃ r, r = m % U149 := ⟨_, rfl⟩
  have HT : Aside0 (textN n = (if sg then [45] else []) ++ (headT h0 ++ restT r0)) := ⟨by unfold textN; rw [hsg, hh0, hr0, hm]; simp only [decide_eq_true_eq]⟩
  rw [← hm, ← hsg] at HA
  rw [← hm] at hml
  have HD := Lib.hid (fun W => down_any m 149 hml (by decide) W)
  rw [← U149_eq, ← hh0] at HD
  have HLo := Lib.hid (fun W => low50 m hml 149 (by decide) (by decide) W)
  rw [← U149_eq, ← hr0] at HLo
  obtain ⟨T, hT⟩ : ∃ T, T = textN n := ⟨_, rfl⟩
  rw [← hT] at HT ⊢
  have HH0 : Aside0 (h0 < M384) := ⟨by rw [hh0]; exact Nat.lt_of_le_of_lt (Nat.div_le_self _ _) hml⟩
  have HR0 : Aside0 (r0 < U149) := ⟨by rw [hr0]; exact Nat.mod_lt _ (by decide)⟩
  clear hsg hm hh0 hr0 hml hT hn
  go_enter Tryd.func26, Tryd.ntmps26
  go_wp2_with (first | (go_at_call 34; refine (HA.out _).mono ?_; rintro e w1 ⟨rfl, hb⟩; obtain ⟨hc, hf, hz⟩ := kept_to hb (w.heap.size + 1) (by first | omega | (simp <;> omega)); have HB1 := Lib.hid hb; clear hb) | (go_at_call 47; refine (HD.out _).mono ?_; rintro e w2 ⟨rfl, hb⟩; obtain ⟨hc2, hf2, hz2⟩ := kept_to hb (w1.heap.size + 1) (by first | omega | (simp <;> omega)); have HB2 := Lib.hid hb; clear hb))
  have HSz := Lib.hid (show w1.heap.size < w2.heap.size from by first | omega | (simp at *; omega))
  have HB0 := Aside0.mk (show Below w.heap.size w (w2.alloc (Obj.cells #[.int .u64 (wd h0 0 : Nat), .int .u64 (wd h0 1 : Nat), .int .u64 (wd h0 2 : Nat), .int .u64 (wd h0 3 : Nat), .int .u64 (wd h0 4 : Nat), .int .u64 (wd h0 5 : Nat)] 27)) from by
    repeat (first | with_reducible exact Below.refl _ _ | ((with_reducible refine Below.setCell ?_ ?hp _); case hp => (first | omega | (simp <;> omega))) | ((with_reducible refine Below.alloc ?_ ?hp _); case hp => (first | omega | (simp <;> omega))) | (with_reducible refine Below.drew ?_) | ((with_reducible refine Below.trans ?_ (HB2.out.mono ?hm)); case hm => (first | omega | (simp <;> omega))) | ((with_reducible refine Below.trans ?_ (HB1.out.mono ?hm)); case hm => (first | omega | (simp <;> omega)))))
  have HS5 : Six (w2.alloc (Obj.cells #[.int .u64 (wd h0 0 : Nat), .int .u64 (wd h0 1 : Nat), .int .u64 (wd h0 2 : Nat), .int .u64 (wd h0 3 : Nat), .int .u64 (wd h0 4 : Nat), .int .u64 (wd h0 5 : Nat)] 27)) w2.heap.size h0 := by constructor <;> simp
  have HS4 : Six (w2.alloc (Obj.cells #[.int .u64 (wd h0 0 : Nat), .int .u64 (wd h0 1 : Nat), .int .u64 (wd h0 2 : Nat), .int .u64 (wd h0 3 : Nat), .int .u64 (wd h0 4 : Nat), .int .u64 (wd h0 5 : Nat)] 27)) w1.heap.size m := by
    refine (show Six (w1.alloc (Obj.cells #[.int .u64 (wd m 0 : Nat), .int .u64 (wd m 1 : Nat), .int .u64 (wd m 2 : Nat), .int .u64 (wd m 3 : Nat), .int .u64 (wd m 4 : Nat), .int .u64 (wd m 5 : Nat)] 27)) w1.heap.size m from by constructor <;> simp).keepB (B := w1.heap.size + 1) ?_ (Nat.lt_succ_self _)
    repeat (first | with_reducible exact Below.refl _ _ | ((with_reducible refine Below.setCell ?_ ?hp _); case hp => (first | omega | (simp <;> omega))) | ((with_reducible refine Below.alloc ?_ ?hp _); case hp => (first | omega | (simp <;> omega))) | (with_reducible refine Below.drew ?_) | ((with_reducible refine Below.trans ?_ (HB2.out.mono ?hm)); case hm => (first | omega | (simp <;> omega))))
  go_loopg [6] 116 (fun kq v6 w' => ∃ (h : Nat) (ds : List UInt8), Aside0 (h < 10 ^ kq) ∧ Six w' w2.heap.size h ∧ Aside0 (Six w' w1.heap.size m) ∧ Aside0 (BK.R 5 w' (w2.heap.size + 1) (fun k => w2.heap.size < k) v6 ds) ∧ Aside0 (Below w.heap.size w w') ∧ Aside0 (ds ++ lowD h = lowD h0) ∧ Aside0 (h < M384))
  case atStart =>
    refine ⟨h0, [], ⟨Nat.lt_trans HH0.out (by decide)⟩, HS5, ⟨HS4⟩, ⟨Kd.R_nil _ _ _ _ _⟩, HB0, ⟨rfl⟩, HH0⟩
  case round =>
    clear HS4 HS5 HB0
    obtain ⟨h, ds, HK, X, HS4, HR, HB, HD2, HM⟩ := hrel
    have hq := run_neq_zero h HM.out
    have hz := X.lt
    have HX := Aside0.mk X
    obtain ⟨x0, x1, x2, x3, x4, x5, g0, g1, g2, g3, g4, g5⟩ := X
    by_cases h0z : h = 0
    · rw [show (!decide (h = 0)) = false by simp [h0z]] at hq
      have hds : Aside0 (ds = lowD h0) := ⟨by have := HD2.out; rw [h0z, lowD_zero, List.append_nil] at this; exact this⟩
      obtain ⟨A6, c6, e6⟩ := Kd.R_slice HR.out
      subst e6
      clear HD2 HK HX h0z HM HA HD
      obtain ⟨W0, hW0⟩ : ∃ W0, W0 = wr := ⟨_, rfl⟩
      subst hW0
      obtain ⟨bb, hbb⟩ : ∃ bb, bb = W0.heap.size := ⟨_, rfl⟩
      obtain ⟨pre, hpre⟩ : ∃ pre : List UInt8, pre = if sg then [45] else [] := ⟨_, rfl⟩
      rw [← hpre] at HT
      have HPre := Aside0.mk hpre
      have hpl0 : Aside0 (pre.length ≤ 1) := ⟨by rw [hpre]; split <;> simp⟩
      have HBB := Aside0.mk hbb
      clear hpre
      go_upto_if 27 with (fail)
      rw [← hbb]
      have HI0 := Aside0.mk (Lib.IsBuilderF.of (Lib.fresh_isBuilder 91 5 W0))
      rw [← hbb] at HI0
      clear hbb
      go_cut [28] (fun _ wx => Aside0 (Lib.IsBuilderF 91 5 bb bb (Lib.byteCells pre) wx) ∧ Aside0 (Below bb W0 wx))
      case first =>
        cases sg
        · have e0 := HPre.out
          rw [if_neg (by decide)] at e0
          subst e0
          go_wp2_with fail
          go_meet
          exact ⟨HI0, ⟨below_alloc0 HBB.out _⟩⟩
        · have e0 := HPre.out
          rw [if_pos rfl] at e0
          subst e0
          go_wp2_with (go_at_call 49; refine (writeByte_any bb bb [] 45 _ HI0.out (by decide) (by rw [HBB.out]; simp)).mono ?_; rintro e W ⟨rfl, h1, h2, h3⟩; have H1 := Aside0.mk h1; have H2 := Aside0.mk h2; clear h1 h2 h3)
          go_meet
          exact ⟨⟨.inr H1.out⟩, ⟨(below_alloc0 HBB.out _).trans H2.out⟩⟩
      case rest =>
        obtain ⟨HI, HB7⟩ := hcut
        clear HI0 HPre
        obtain ⟨LL, hLL⟩ : ∃ LL : List UInt8, LL = pre ++ (if ds = [] then [48] else []) := ⟨_, rfl⟩
        have HLL := Aside0.mk hLL
        have HSB : Aside0 (bb ≤ wc.heap.size) := ⟨by have := HB7.out.size; rw [HBB.out]; exact this⟩
        have hpl : Aside0 (pre.length ≤ 1) := hpl0
        clear hLL
        go_upto_if 31 with (fail)
        go_cut [32] (fun _ wx => Aside0 (Lib.IsBuilderF 91 5 bb bb (Lib.byteCells LL) wx) ∧ Aside0 (Below bb W0 wx))
        case first =>
          cases ds with
          | nil =>
            have e0 := HLL.out
            rw [if_pos rfl] at e0
            subst e0
            go_wp2_with (go_at_call 49; refine (writeByte_any bb bb (Lib.byteCells pre) 48 _ HI.out (by rw [Lib.byteCells_length]; have := hpl.out; omega) HSB.out).mono ?_; rintro e W ⟨rfl, h1, h2, h3⟩; have H1 := Aside0.mk h1; have H2 := Aside0.mk h2; clear h1 h2 h3)
            go_meet
            exact ⟨⟨.inr (by have := H1.out; simpa [Lib.byteCells] using this)⟩, ⟨HB7.out.trans H2.out⟩⟩
          | cons d0 ds0 =>
            have e0 := HLL.out
            rw [if_neg (by simp), List.append_nil] at e0
            subst e0
            have t1 : (((d0 :: ds0).length : Nat) : Int) ≠ 0 := by simp; omega
            have t2 : ((((d0 :: ds0).length : Nat) : Int) == 0) = false := beq_eq_false_iff_ne.2 t1
            clear t1
            go_wp2_with fail
            go_meet
            exact ⟨HI, HB7⟩
        case rest =>
          have hLl : Aside0 (LL.length ≤ 2) := ⟨by
            have h1 := hpl.out
            rw [HLL.out, List.length_append]
            split <;> simp <;> omega⟩
          clear HI HB7 hpl hpl0
          obtain ⟨HI, HB7⟩ := hcut
          have hdl : Aside0 (ds.length ≤ 116) := ⟨by rw [hds.out]; exact lowD_len 116 h0 (Nat.lt_trans HH0.out (by decide))⟩
          have HC := Aside0.mk (Kd.R_reads' HR.out).2.2
          go_wp2_with fail
          go_loopg [8, 35] ds.length (fun kq v8 v35 w' => ∃ (i : Nat), Aside0 (i + kq = ds.length) ∧ v35 = .int .i64 i ∧ Aside0 (Lib.IsBuilderF 91 5 bb bb (Lib.byteCells (LL ++ ds.reverse.take i)) w') ∧ Aside0 (Below bb W0 w'))
          case atStart =>
            exact ⟨0, ⟨by omega⟩, rfl, ⟨by rw [List.take_zero, List.append_nil]; exact HI.out⟩, HB7⟩
          case round =>
            clear HI HB7
            obtain ⟨i, HI1, rfl, HI, HB7⟩ := hrel
            by_cases hi : i < ds.length
            · obtain ⟨q, L1, hq2, hw1, hw2, hw3, p0, q0, hql⟩ := idx_facts ds.length i hi hdl.out
              obtain ⟨ad, e1, hx⟩ := BK_at HC.out q hql
              cases e1
              have hsn := rev_take ds i hi
              rw [← hq2] at hsn
              obtain ⟨x, hx1⟩ : ∃ x, x = ds.getD q 0 := ⟨_, rfl⟩
              rw [← hx1] at hx hsn
              have HSN := Aside0.mk hsn
              have hadl : (ad.add q).block < bb := by rw [HBB.out]; exact World.block_lt_of_cell? W0 (ad.add q) hx
              replace hx := (HB7.out.cell (p := ad.add q) hadl).trans hx
              have c2 : decide (i < ds.length) = true := decide_eq_true hi
              have LI := Aside0.mk hi
              have hS7 : Aside0 (bb ≤ wr.heap.size) := ⟨by have := HB7.out.size; rw [HBB.out]; exact this⟩
              clear hsn hx1 hq2 hi hadl hql
              go_wp2_with (go_at_call 49; refine (writeByte_any bb bb _ _ _ HI.out (by rw [Lib.byteCells_length, List.length_append, List.length_take]; have := hLl.out; have := hdl.out; have := LI.out; omega) hS7.out).mono ?_; rintro e W ⟨rfl, h1, h2, h3⟩; have H1 := Aside0.mk h1; have H2 := Aside0.mk h2; clear h1 h2 h3)
              go_roundg (ds.length - (i + 1))
              case measure => have := HI1.out; have := LI.out; omega
              case rel => exact ⟨i + 1, ⟨by have := LI.out; omega⟩, congrArg (Value.int .i64) hw3, ⟨.inr (by rw [← HSN.out, ← List.append_assoc, byteCells_snoc]; exact H1.out)⟩, ⟨HB7.out.trans H2.out⟩⟩
            · have c2 : decide (i < ds.length) = false := decide_eq_false hi
              have hil : i = ds.length := by have := HI1.out; omega
              have HTT : Aside0 (LL ++ ds.reverse.take i = pre ++ headT h0) := ⟨by
                rw [hil, ← List.length_reverse, List.take_length, HLL.out, List.append_assoc, hds.out]
                unfold headT
                by_cases hz0 : h0 = 0
                · rw [hz0, lowD_zero]; rfl
                · rw [if_neg (fun e => hz0 ((lowD_nil h0).1 e)), if_neg hz0]; rfl⟩
              have hTTl : Aside0 ((pre ++ headT h0).length ≤ 118) := ⟨by
                rw [← HTT.out, List.length_append, List.length_take, List.length_reverse]
                have := hLl.out; have := hdl.out; omega⟩
              have HI2 : Aside0 (Lib.IsBuilderF 91 5 bb bb (Lib.byteCells (pre ++ headT h0)) wr) := ⟨by rw [← HTT.out]; exact HI.out⟩
              have h1b : Aside0 (w1.heap.size < bb) := ⟨by rw [HBB.out]; exact HS4.out.lt⟩
              obtain ⟨y0, y1, y2, y3, y4, y5, k0, k1, k2, k3, k4, k5⟩ := HS4.out.keepB HB7.out h1b.out
              have HT2 : Aside0 (T = (pre ++ headT h0) ++ restT r0) := ⟨by rw [HT.out, List.append_assoc]⟩
              have hS7 : Aside0 (bb < wr.heap.size) := ⟨HI2.out.elim (fun h => h.lt) (fun h => h.lt)⟩
              generalize pre ++ headT h0 = TT at *
              clear hil hi HI1 HI HTT HT hLl hdl HC HR hds HLL HS4 hq
              go_wp2_with (go_at_call 50; refine (HLo.out _).mono ?_; rintro e w5 ⟨rfl, hb⟩; have HB5 := Aside0.mk hb; have hS5 := hb.size; clear hb)
              have hbr : Aside0 (bb < w5.heap.size) := ⟨by have := hS7.out; omega⟩
              have HB9 := Aside0.mk (show Below bb W0 (w5.alloc (Obj.cells #[.int .u64 (wd r0 0 : Nat), .int .u64 (wd r0 1 : Nat), .int .u64 (wd r0 2 : Nat), .int .u64 (wd r0 3 : Nat), .int .u64 (wd r0 4 : Nat), .int .u64 (wd r0 5 : Nat)] 27)) from by
                refine Below.alloc ?_ (Nat.le_of_lt hbr.out) _
                exact HB7.out.trans (HB5.out.mono (Nat.le_of_lt hS7.out)))
              have HI9 := Aside0.mk ((builder_below HI2.out HB5.out).alloc (Obj.cells #[.int .u64 (wd r0 0 : Nat), .int .u64 (wd r0 1 : Nat), .int .u64 (wd r0 2 : Nat), .int .u64 (wd r0 3 : Nat), .int .u64 (wd r0 4 : Nat), .int .u64 (wd r0 5 : Nat)] 27))
              have HX9 : Six (w5.alloc (Obj.cells #[.int .u64 (wd r0 0 : Nat), .int .u64 (wd r0 1 : Nat), .int .u64 (wd r0 2 : Nat), .int .u64 (wd r0 3 : Nat), .int .u64 (wd r0 4 : Nat), .int .u64 (wd r0 5 : Nat)] 27)) w5.heap.size r0 := by constructor <;> simp
              have HY9 : Typed (w5.alloc (Obj.cells #[.int .u64 (wd r0 0 : Nat), .int .u64 (wd r0 1 : Nat), .int .u64 (wd r0 2 : Nat), .int .u64 (wd r0 3 : Nat), .int .u64 (wd r0 4 : Nat), .int .u64 (wd r0 5 : Nat)] 27)) w5.heap.size 27 := typed_new _ _ _
              clear HB7 HB5 HI2 y0 y1 y2 y3 y4 y5 k0 k1 k2 k3 k4 k5 hS5 hS7
              go_loopg [10] 149 (fun kq v10 w' => ∃ (i r : Nat) (out : List UInt8), Aside0 (i + kq = 149) ∧ v10 = .int .i64 i ∧ Six w' w5.heap.size r ∧ Aside0 (Typed w' w5.heap.size 27) ∧ Aside0 (Lib.IsBuilderF 91 5 bb bb (Lib.byteCells out) w') ∧ Aside0 (Below bb W0 w') ∧ Aside0 (T = out ++ (if i = 0 then restT r else fracD (149 - i) r)) ∧ Aside0 (r < U149) ∧ Aside0 (2 ^ i ∣ r) ∧ Aside0 (out.length ≤ 118 + 2 * i))
              case atStart =>
                exact ⟨0, r0, TT, ⟨rfl⟩, rfl, HX9, ⟨HY9⟩, HI9, HB9, HT2, HR0, ⟨by simp⟩, hTTl⟩
              case round =>
                clear HX9 HY9 HI9 HB9 HT2 hTTl HLo
                obtain ⟨i, r, out, HI1, rfl, X, HY, HI, HB7, HT, HRl, HDv, hol⟩ := hrel
                have hrM : r < M384 := Nat.lt_trans HRl.out (by decide)
                have hq := run_neq_zero r hrM
                have HX := Aside0.mk X
                obtain ⟨x0, x1, x2, x3, x4, x5, g0, g1, g2, g3, g4, g5⟩ := X
                have hsz : Aside0 (bb ≤ wr.heap.size) := ⟨by have := HB7.out.size; rw [HBB.out]; exact this⟩
                by_cases hr0 : r = 0
                · rw [show (!decide (r = 0)) = false by simp [hr0]] at hq
                  have hTo : T = out := by
                    rw [HT.out, hr0]
                    split
                    · simp [restT]
                    · have : fracD (149 - i) 0 = [] := by cases (149 - i) <;> simp [fracD]
                      rw [this, List.append_nil]
                  subst hTo
                  clear hr0
                  go_wp2_with (go_at_call 52; refine (Tryd.Builder_String_any_f bb bb T _ HI.out hsz.out).mono ?_; rintro e W ⟨rfl, h1⟩)
                  go_ret
                  refine ⟨rfl, ?_⟩
                  refine HB.out.trans ?_
                  have hww : w.heap.size ≤ bb := by rw [HBB.out]; exact HB.out.size
                  exact (HB7.out.mono hww).trans (h1.2.mono hww)
                · rw [show (!decide (r = 0)) = true by simp [hr0]] at hq
                  have hi : i < 149 := by
                    rcases Nat.lt_or_ge i 149 with h' | h'
                    · exact h'
                    · exfalso
                      have h1 : i = 149 := by have := HI1.out; omega
                      have h2 := HDv.out
                      have h3 := HRl.out
                      rw [h1, ← U149_eq] at h2
                      exact hr0 (Nat.eq_zero_of_dvd_of_lt h2 h3)
                  obtain ⟨out2, ho2⟩ : ∃ l : List UInt8, l = out ++ (if i = 0 then [46] else []) := ⟨_, rfl⟩
                  have HO2 := Aside0.mk ho2
                  have HT2 : Aside0 (T = out2 ++ fracD (149 - i) r) := ⟨by
                    rw [HT.out, ho2]
                    by_cases hi0 : i = 0
                    · rw [if_pos hi0, if_pos hi0]
                      unfold restT
                      rw [if_neg hr0, hi0, List.append_assoc]; rfl
                    · rw [if_neg hi0, if_neg hi0, List.append_nil]⟩
                  have hol2 : Aside0 (out2.length ≤ 119 + 2 * i) := ⟨by
                    rw [ho2, List.length_append]
                    have := hol.out
                    split <;> simp <;> omega⟩
                  have LI := Aside0.mk hi
                  have HR1 := Aside0.mk hr0
                  clear ho2 hi hr0
                  go_upto_if 56 with (fail)
                  go_cut [57] (fun _ wx => Aside0 (Lib.IsBuilderF 91 5 bb bb (Lib.byteCells out2) wx) ∧ Aside0 (Below bb W0 wx) ∧ Six wx w5.heap.size r ∧ Aside0 (Typed wx w5.heap.size 27))
                  case first =>
                    rcases Nat.eq_zero_or_pos i with hi0 | hi0
                    · have e0 := HO2.out
                      subst hi0
                      rw [if_pos rfl] at e0
                      subst e0
                      go_wp2_with (go_at_call 49; refine (writeByte_any bb bb (Lib.byteCells out) 46 _ HI.out (by rw [Lib.byteCells_length]; have := hol.out; omega) hsz.out).mono ?_; rintro e W ⟨rfl, h1, h2, h3⟩; have H1 := Aside0.mk h1; have H2 := Aside0.mk h2; have H3 := Aside0.mk h3; clear h1 h2 h3)
                      go_meet
                      have h6 := six_others HX.out HY.out H3.out (by have := hbr.out; omega)
                      exact ⟨⟨.inr (by rw [byteCells_snoc]; exact H1.out)⟩, ⟨HB7.out.trans H2.out⟩, h6.1, ⟨h6.2⟩⟩
                    · have e0 := HO2.out
                      rw [if_neg (by omega), List.append_nil] at e0
                      subst e0
                      have t1 : ((i : Int) == 0) = false := beq_eq_false_iff_ne.2 (by omega)
                      clear hi0
                      go_wp2_with fail
                      go_meet
                      exact ⟨HI, HB7, HX.out, HY⟩
                  case rest =>
                    clear HI HB7 HX HY x0 x1 x2 x3 x4 x5 g0 g1 g2 g3 g4 g5 hq hsz HO2 HT hol
                    obtain ⟨HI, HB7, X, HY⟩ := hcut
                    obtain ⟨r1, hr1⟩ : ∃ x, x = r * 10 := ⟨_, rfl⟩
                    have hr1l : r1 < M384 := by rw [hr1]; exact Nat.lt_of_lt_of_le (Nat.mul_lt_mul_of_pos_right HRl.out (by decide)) (by decide)
                    have HTm := Aside0.mk (times51 r hrM 10 (by decide) 0 (by decide) w5.heap.size _ X)
                    have e1 : (r * 10 + 0) % M384 = r1 := by rw [Nat.add_zero, ← hr1, Nat.mod_eq_of_lt hr1l]
                    obtain ⟨cc, hcc⟩ : ∃ x, x = (r * 10 + 0) / M384 := ⟨_, rfl⟩
                    rw [e1, ← hcc] at HTm
                    obtain ⟨d, hd⟩ : ∃ x, x = r1 / U149 := ⟨_, rfl⟩
                    obtain ⟨r2, hr2⟩ : ∃ x, x = r1 % U149 := ⟨_, rfl⟩
                    have hd10 : (d : Int) < 10 := by
                      have h1 : d < 10 := by
                        rw [hd, Nat.div_lt_iff_lt_mul (by decide), hr1, Nat.mul_comm 10]
                        exact Nat.mul_lt_mul_of_pos_right HRl.out (by decide)
                      omega
                    have HDn := Aside0.mk (fun W => down_any r1 149 hr1l (by decide) W)
                    rw [← U149_eq, ← hd] at HDn
                    have HLw := Aside0.mk (fun W => low50 r1 hr1l 149 (by decide) (by decide) W)
                    rw [← U149_eq, ← hr2] at HLw
                    have HT3 : Aside0 (T = (out2 ++ [digB d]) ++ fracD (149 - (i + 1)) r2) := ⟨by
                      rw [HT2.out, show 149 - i = (149 - (i + 1)) + 1 by have := LI.out; omega, List.append_assoc]
                      congr 1
                      rw [fracD, if_neg HR1.out, ← hr1, ← hd, ← hr2]; rfl⟩
                    have HR3 : Aside0 (r2 < U149) := ⟨by rw [hr2]; exact Nat.mod_lt _ (by decide)⟩
                    have HD3 : Aside0 (2 ^ (i + 1) ∣ r2) := ⟨by
                      rw [hr2, U149_eq]
                      refine (Nat.dvd_mod_iff (Nat.pow_dvd_pow 2 (by have := LI.out; omega))).2 ?_
                      rw [hr1, Nat.pow_succ]
                      exact Nat.mul_dvd_mul HDv.out (by decide)⟩
                    have hdb : ((digB d).toNat : Int) = 48 + d := by rw [digB_toNat d (by omega)]; omega
                    have hw0 : ((wd d 0 : Nat) : Int) = (d : Int) := by unfold wd; simp only [Nat.mul_zero, Nat.pow_zero, Nat.div_one]; omega
                    have hix := index0
                    have hw3 : wrap64 ((i : Int) + 1) = ((i + 1 : Nat) : Int) := by have := LI.out; unfold wrap64; omega
                    clear hr1 hd hr2 e1 hcc hrM hr1l HT2 HDv HRl
                    have hszc : Aside0 (w5.heap.size < wc.heap.size) := ⟨X.lt⟩
                    clear X
                    go_wp2_with (go_at_call 51; refine HTm.out.mono ?_; rintro e w8 ⟨rfl, g1, g2, g3, g4⟩; have G1 := Aside0.mk g1; have G4 := Aside0.mk (g4 27 HY.out); have GI := Aside0.mk (builder_fr HI.out g3 HY.out (by decide) (by decide)); have GB := Aside0.mk (HB7.out.trans (g2.mono (Nat.le_of_lt hbr.out))); obtain ⟨x0, x1, x2, x3, x4, x5, f0, f1, f2, f3, f4, f5⟩ := g1; clear g2 g3 g4)
                    have hsz8 := G1.out.lt
                    refine (HDn.out _).mono ?_
                    rintro e w9 ⟨rfl, hb⟩
                    have G9 := Aside0.mk (G1.out.keep hb)
                    have T9 := Aside0.mk (G4.out.below hb hsz8)
                    have I9 := Aside0.mk (builder_below GI.out hb)
                    have hsz9 : w5.heap.size < w9.heap.size := by have := hb.size; omega
                    have B9 := Aside0.mk (GB.out.trans (hb.mono (by have := hbr.out; omega)))
                    clear hb x0 x1 x2 x3 x4 x5 f0 f1 f2 f3 f4 f5
                    go_wp2_with fail
                    refine (writeByte_any bb bb (Lib.byteCells out2) (48 + d) _ I9.out (by rw [Lib.byteCells_length]; have := hol2.out; have := LI.out; omega) (by have := hbr.out; omega)).mono ?_
                    rintro e W10 ⟨rfl, h1, h2, h3⟩
                    have h6 := six_others G9.out T9.out h3 (by have := hbr.out; omega)
                    have G10 := Aside0.mk h6.1
                    have T10 := Aside0.mk h6.2
                    have I10 : Aside0 (Lib.IsBuilderF 91 5 bb bb (Lib.byteCells (out2 ++ [digB d])) W10) := ⟨.inr (by rw [byteCells_snoc, hdb]; exact h1)⟩
                    have B10 := Aside0.mk (B9.out.trans h2)
                    obtain ⟨x0, x1, x2, x3, x4, x5, f0, f1, f2, f3, f4, f5⟩ := h6.1
                    have hsz10 := T10.out.lt
                    clear h1 h2 h3 h6
                    go_wp2_with fail
                    refine (HLw.out _).mono ?_
                    rintro e w11 ⟨rfl, hb⟩
                    have G11 := Aside0.mk (G10.out.keep hb)
                    have T11 := Aside0.mk (T10.out.below hb hsz10)
                    have I11 := Aside0.mk (builder_below I10.out hb)
                    have B11 := Aside0.mk (B10.out.trans (hb.mono (by have := hbr.out; omega)))
                    obtain ⟨z0, z1, z2, z3, z4, z5, l0, l1, l2, l3, l4, l5⟩ := G10.out.keep hb
                    clear hb x0 x1 x2 x3 x4 x5 f0 f1 f2 f3 f4 f5
                    go_wp2_with fail
                    go_roundg (149 - (i + 1))
                    case measure => have := HI1.out; have := LI.out; omega
                    case rel =>
                      refine ⟨i + 1, r2, out2 ++ [digB d], ⟨by have := LI.out; omega⟩, congrArg (Value.int .i64) hw3, six_set G11.out, ⟨?_⟩, ⟨?_⟩, ⟨?_⟩, ⟨?_⟩, HR3, HD3, ⟨?_⟩⟩
                      · exact (((((T11.out.setCell _ _).setCell _ _).setCell _ _).setCell _ _).setCell _ _).setCell _ _
                      · exact builder_fr (r := w5.heap.size) I11.out ((((((Fr.refl _ _ _).setCell ⟨_, 0, none⟩ rfl _).setCell ⟨_, 1, none⟩ rfl _).setCell ⟨_, 2, none⟩ rfl _).setCell ⟨_, 3, none⟩ rfl _).setCell ⟨_, 4, none⟩ rfl _ |>.setCell ⟨_, 5, none⟩ rfl _) T11.out (by decide) (by decide)
                      · have hlb : bb ≤ w5.heap.size := Nat.le_of_lt hbr.out
                        exact (((((B11.out.setCell (p := ⟨_, 0, none⟩) hlb _).setCell (p := ⟨_, 1, none⟩) hlb _).setCell (p := ⟨_, 2, none⟩) hlb _).setCell (p := ⟨_, 3, none⟩) hlb _).setCell (p := ⟨_, 4, none⟩) hlb _).setCell (p := ⟨_, 5, none⟩) hlb _
                      · rw [if_neg (by omega)]; exact HT3.out
                      · rw [List.length_append]; have := hol2.out; simp; omega
    · rw [show (!decide (h = 0)) = true by simp [h0z]] at hq
      have HOv := Lib.hid (fun W hW => over48 h HM.out 10 (by decide) (by decide) w2.heap.size W hW)
      obtain ⟨d, hd⟩ : ∃ d, d = h % 10 := ⟨_, rfl⟩
      obtain ⟨h2, hh2⟩ : ∃ d, d = h / 10 := ⟨_, rfl⟩
      rw [← hd, ← hh2] at HOv
      have hd10 : (d : Int) < 10 := by omega
      have hDS : Aside0 ((ds ++ [digB d]) ++ lowD h2 = lowD h0) := ⟨by rw [← HD2.out, lowD_pos h h0z, ← hd, ← hh2]; simp⟩
      have hlen : Aside0 (ds.length + 1 ≤ 116) := ⟨by
        have e1 := congrArg List.length hDS.out
        have e2 := lowD_len 116 h0 (Nat.lt_trans HH0.out (by decide))
        simp only [List.length_append, List.length_cons, List.length_nil] at e1
        omega⟩
      have HK2 : Aside0 (gk ≠ 0 ∧ h2 < 10 ^ (gk - 1)) := ⟨by
        have h1 := HK.out
        cases gk with
        | zero => omega
        | succ k =>
          refine ⟨by omega, ?_⟩
          rw [Nat.pow_succ] at h1
          simp only [Nat.add_sub_cancel]
          omega⟩
      have HM2 : Aside0 (h2 < M384) := ⟨by rw [hh2]; exact Nat.lt_of_le_of_lt (Nat.div_le_self _ _) HM.out⟩
      have hdb : ((digB d).toNat : Int) = 48 + d := by rw [digB_toNat d (by omega)]; omega
      clear hd hh2 h0z
      have hzw : w.heap.size ≤ w2.heap.size := by have := HSz.out; omega
      have HSW := Aside0.mk hzw
      clear hzw
      go_wp2_with (first | (go_at_call 48; refine (HOv.out _ HX.out).mono ?_; rintro e w3 ⟨rfl, HS3, HB3, HF3⟩; have HR3 := Aside0.mk (Kd.R_step HR.out (fun k hk hlt => HF3 k hlt (by omega))); have h43 := Aside0.mk (HS4.out.keepB HB3 HSz.out); have hb3 := Aside0.mk (HB.out.trans (HB3.mono HSW.out)); have hs3 := Aside0.mk HS3; have hz3 := HS3.lt; clear HS3 HB3 HF3) | ((with_reducible refine gate_builtin (b := .append) (xs := #[.tmp 21, .tmp 25]) rfl ?_); at_builtin; refine Kd.R_append BK (w0 := w3) (w2.heap.size + 1) rfl (.tmp 21) (.tmp 25) 87 5 (.int .u8 0) 1 rfl Tryd.underlying87 info5 rfl (by decide) (by omega) u6 ds (digB d) [.int .u8 (48 + d)] (fun k => w2.heap.size < k) (fun _ => False) rfl rfl ?aP (fun _ hk => hk.elim) ?aF ?aO ?aB ?aS ?aL ?_; (case aP => (show [Value.int .u8 (48 + (d : Int))] = [Value.int .u8 ((digB d).toNat : Nat)]); rw [hdb]); (case aB => repeat (first | with_reducible exact Below.refl _ _ | ((with_reducible refine Below.setCell ?_ ?hp _); case hp => (first | omega | (simp <;> omega))) | ((with_reducible refine Below.alloc ?_ ?hp _); case hp => (first | omega | (simp <;> omega))) | (with_reducible refine Below.drew ?_))); (case aF => exact (fun k hk => by first | omega | (simp at hk; omega))); (case aO => exact (by (with_reducible repeat (first | apply Kd.R_alloc | apply Kd.R_drewN | apply Kd.R_drew)); exact HR3.out)); (case aS => first | omega | (simp; omega)); (case aL => have := hlen.out; omega); intro v1 w6 ho hb hg hat; have n0_ := Aside0.mk (hb); have n1_ := Aside0.mk (ho); clear ho hb hg hat))
      go_roundg (gk - 1)
      case measure => have := HK2.out.1; omega
      case rel =>
        refine ⟨h2, ds ++ [digB d], ⟨HK2.out.2⟩, ?_, ⟨?_⟩, ⟨?_⟩, ⟨?_⟩, hDS, HM2⟩
        · exact hs3.out.keepB n0_.out (Nat.lt_succ_self _)
        · exact h43.out.keepB n0_.out (by have := HSz.out; omega)
        · exact n1_.out
        · exact hb3.out.trans (n0_.out.mono (by have := HSW.out; omega))
end Go.Proofs.YtmnojohcfalodaaDoor
