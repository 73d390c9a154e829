/- The walks of the laws of intervals, out of the contracts of what they call. -/
import Derived.Test.YthfglfhenpigjaaItvWrap
import Derived.Deep.DeepCutAuto
import Derived.Deep.CutBlock
import Derived.Deep.RegionWith
import Derived.Test.YthfglfhenpigjaaRefTyp
namespace Go.Proofs.Ythfglfhenpigjaa.C
open Go.RowKit
set_option linter.unusedSimpArgs false
set_option linter.unusedVariables false
attribute [local go_sem] fieldItv0 fieldItv1

theorem wf16 {x : Int} (h : (Lit.int .i16 x).wf = true) : -32768 ≤ x ∧ x ≤ 32767 := by
  have : IntKind.min .i16 ≤ x ∧ x ≤ IntKind.max .i16 := by simpa [Lit.wf] using h
  simpa [IntKind.min, IntKind.max, IntKind.signed, IntKind.bits] using this
theorem wf64 {x : Int} (h : (Lit.int .i64 x).wf = true) : -9223372036854775808 ≤ x ∧ x ≤ 9223372036854775807 := by
  have : IntKind.min .i64 ≤ x ∧ x ≤ IntKind.max .i64 := by simpa [Lit.wf] using h
  simpa [IntKind.min, IntKind.max, IntKind.signed, IntKind.bits] using this
theorem wf32 {x : Int} (h : (Lit.int .i32 x).wf = true) : -2147483648 ≤ x ∧ x ≤ 2147483647 := by
  have : IntKind.min .i32 ≤ x ∧ x ≤ IntKind.max .i32 := by simpa [Lit.wf] using h
  simpa [IntKind.min, IntKind.max, IntKind.signed, IntKind.bits] using this
theorem wf8 {x : Int} (h : (Lit.int .i8 x).wf = true) : -128 ≤ x ∧ x ≤ 127 := by
  have : IntKind.min .i8 ≤ x ∧ x ≤ IntKind.max .i8 := by simpa [Lit.wf] using h
  simpa [IntKind.min, IntKind.max, IntKind.signed, IntKind.bits] using this
theorem awake14_c (w : World) : Calls Try.prog 13 #[] w fun e w' => e = .returned (.bool true) ∧ Below w.heap.size w w' := by
  have HW : ∀ W : World, Calls Try.prog 8 #[.int .i64 2, .agg #[.int .i64 256, .int .i64 257]] W fun e w' => e = .returned (.agg #[.int .i64 0, .int .i64 1]) ∧ Below W.heap.size W w' := by
    intro W
    have := itvWrap_c 2 256 257 W (by decide) (by decide) (by decide) (by decide)
    rw [show wrapI 2 256 257 = (0, 1) from by decide +kernel] at this
    exact this
  go_enter Try.func13, Try.ntmps13
  go_wp2_with (first | (go_at_call 8; refine (HW _).mono ?_; rintro e w' ⟨rfl, hb⟩; have hbz := hb.size; (try simp at hbz)) | (go_at_call 17; refine (itvEmpty_c _ _ _).mono ?_; rintro e w' ⟨rfl, hb⟩; have hbz := hb.size; (try simp at hbz)))
  go_ret
  exact ⟨rfl, (by repeat' (first | exact Below.refl _ _ | (refine Below.alloc ?_ ?_ _) | (refine Below.setCell ?_ ?_ _) | (refine Below.drew ?_) | (refine below_next ?_ ?_ (by assumption)) | omega | (simp; done) | (simp; omega)))⟩
theorem span_c (a b : Int) (w : World) (ha : -32768 ≤ a) (ha2 : a ≤ 32767) (hb0 : -32768 ≤ b) (hb2 : b ≤ 32767) : Calls Try.prog 14 #[.int .i16 a, .int .i16 b] w fun e w' => e = .returned (.agg #[.int .i64 a, .int .i64 (a + b)]) ∧ Below w.heap.size w w' := by
  go_enter Try.func14, Try.ntmps14
  go_wp2
  exact bodyPost_ret (v := .agg #[.int .i64 a, .int .i64 (a + b)]) (by simp [results, Try.results14, go_sem, *]) rfl ⟨rfl, (by repeat' (first | exact Below.refl _ _ | (refine Below.alloc ?_ ?_ _) | (refine Below.setCell ?_ ?_ _) | (refine Below.drew ?_) | (refine below_next ?_ ?_ (by assumption)) | omega | (simp; done) | (simp; omega)))⟩
theorem toldI_bd (a b : Int) (h : -100000 ≤ a ∧ a ≤ 100000) (k : -100000 ≤ b ∧ b ≤ 100000) : -100000 ≤ (toldI a b).1 ∧ (toldI a b).1 ≤ 100000 := by
  unfold toldI; split <;> simp <;> omega
theorem narrow1 (a b c d e f : Int) (h1 : leI a b e f = true) (h2 : leI c d e f = true) : leI (joinI a b c d).1 (joinI a b c d).2 e f = true := by
  simp only [leI, decide_eq_true_eq] at *
  unfold joinI toldI
  by_cases k1 : b < a
  · rw [if_pos k1]
    by_cases k2 : d < c
    · rw [if_pos k2]; simp
    · rw [if_neg k2]; simp; omega
  · rw [if_neg k1]
    by_cases k2 : d < c
    · rw [if_pos k2, if_neg k1]; simp; omega
    · rw [if_neg k2]; simp; omega
theorem narrow2 (a b c d e f : Int) (h1 : leI e f a b = true) (h2 : leI e f c d = true) : leI e f (meetI a b c d).1 (meetI a b c d).2 = true := by
  simp only [leI, decide_eq_true_eq] at *
  unfold meetI toldI
  by_cases k0 : f < e
  · exact .inl k0
  · rw [if_neg (by omega), if_neg (by omega)]
    right; simp; omega
theorem narrow3 (a b c d : Int) : leI (meetI a b c d).1 (meetI a b c d).2 (joinI a b c d).1 (joinI a b c d).2 = true := by
  simp only [leI, decide_eq_true_eq]
  unfold meetI joinI toldI
  by_cases k1 : b < a
  · simp [k1]
  by_cases k2 : d < c
  · simp [k2]
  simp only [k1, k2, or_self, if_false]
  by_cases k : min b d < max a c
  · rw [if_pos k]; simp
  · rw [if_neg k]; right; simp; omega
set_option maxHeartbeats 1600000 in
theorem itvNarrow_c (a b c d e f : Int) (w : World) (h0 : -32768 ≤ a ∧ a ≤ 32767) (h1 : -32768 ≤ b ∧ b ≤ 32767) (h2 : -32768 ≤ c ∧ c ≤ 32767) (h3 : -32768 ≤ d ∧ d ≤ 32767) (h4 : -32768 ≤ e ∧ e ≤ 32767) (h5 : -32768 ≤ f ∧ f ≤ 32767) :
    Calls Try.prog 4 #[.int .i16 a, .int .i16 b, .int .i16 c, .int .i16 d, .int .i16 e, .int .i16 f] w fun e w' => e = .returned (.bool true) ∧ Below w.heap.size w w' := by
  have S1 := fun W => span_c a b W h0.1 h0.2 h1.1 h1.2
  have S2 := fun W => span_c c d W h2.1 h2.2 h3.1 h3.2
  have S3 := fun W => span_c e f W h4.1 h4.2 h5.1 h5.2
  obtain ⟨x0, hx0⟩ : ∃ x, x = a := ⟨_, rfl⟩
  obtain ⟨x1, hx1⟩ : ∃ x, x = a + b := ⟨_, rfl⟩
  obtain ⟨y0, hy0⟩ : ∃ x, x = c := ⟨_, rfl⟩
  obtain ⟨y1, hy1⟩ : ∃ x, x = c + d := ⟨_, rfl⟩
  obtain ⟨z0, hz0⟩ : ∃ x, x = e := ⟨_, rfl⟩
  obtain ⟨z1, hz1⟩ : ∃ x, x = e + f := ⟨_, rfl⟩
  have T1 : ∀ W : World, Calls Try.prog 14 #[.int .i16 a, .int .i16 b] W fun e w' => e = .returned (.agg #[.int .i64 x0, .int .i64 x1]) ∧ Below W.heap.size W w' := by rw [hx0, hx1]; exact S1
  have T2 : ∀ W : World, Calls Try.prog 14 #[.int .i16 c, .int .i16 d] W fun e w' => e = .returned (.agg #[.int .i64 y0, .int .i64 y1]) ∧ Below W.heap.size W w' := by rw [hy0, hy1]; exact S2
  have T3 : ∀ W : World, Calls Try.prog 14 #[.int .i16 e, .int .i16 f] W fun e w' => e = .returned (.agg #[.int .i64 z0, .int .i64 z1]) ∧ Below W.heap.size W w' := by rw [hz0, hz1]; exact S3
  clear S1 S2 S3 hx0 hx1 hy0 hy1 hz0 hz1 h0 h1 h2 h3 h4 h5
  have N1 := narrow1 x0 x1 y0 y1 z0 z1
  have N2 := narrow2 x0 x1 y0 y1 z0 z1
  have N3 := narrow3 x0 x1 y0 y1
  obtain ⟨j, hj⟩ : ∃ j, joinI x0 x1 y0 y1 = j := ⟨_, rfl⟩
  obtain ⟨m, hm⟩ : ∃ j, meetI x0 x1 y0 y1 = j := ⟨_, rfl⟩
  have J := itvJoin_c x0 x1 y0 y1
  have M := itvMeet_c x0 x1 y0 y1
  rw [hj] at N1 N3 J
  rw [hm] at N2 N3 M
  clear hj hm
  go_enter Try.func4, Try.ntmps4
  go_wp2_with fail
  refine (T1 _).mono ?_
  rintro e w1 ⟨rfl, hb1⟩
  go_wp2_with fail
  refine (T2 _).mono ?_
  rintro e w2 ⟨rfl, hb2⟩
  go_wp2_with fail
  refine (T3 _).mono ?_
  rintro e w3 ⟨rfl, hb3⟩
  have HB : Hid (Below w.heap.size w w3) := below_next (below_next hb1 (by have := hb1.size; omega) hb2) (by have := hb1.size; have := hb2.size; omega) hb3
  have HS : w.heap.size ≤ w3.heap.size := HB.out.size
  clear hb1 hb2 hb3
  go_wp2_with fail
  refine at_world (fun W => Hid (Below w.heap.size w W) ∧ w3.heap.size + 2 < W.heap.size ∧ (∀ o, W.cell? ⟨w3.heap.size, o, none⟩ = [Value.int .i64 x0, Value.int .i64 x1][o]?) ∧ (∀ o, W.cell? ⟨w3.heap.size + 1, o, none⟩ = [Value.int .i64 y0, Value.int .i64 y1][o]?) ∧ (∀ o, W.cell? ⟨w3.heap.size + 1 + 1, o, none⟩ = [Value.int .i64 z0, Value.int .i64 z1][o]?)) ⟨?_, (by simp), (by intro o; simp [go_sem]), (by intro o; simp [go_sem]), (by intro o; simp [go_sem])⟩ ?_
  · exact ((((HB.out).alloc HS _).alloc (by simp; omega) _).alloc (by simp; omega) _)
  rintro W ⟨HW, hs, k1, k2, k3⟩
  clear HB
  -- the first test
  have RJ : ∀ (W : World), Calls Try.prog 15 #[.agg #[.int .i64 x0, .int .i64 x1], .agg #[.int .i64 y0, .int .i64 y1]] W fun e w' => e = .returned (.agg #[.int .i64 (j.1), .int .i64 (j.2)]) ∧ Below W.heap.size W w' := J
  have RM : ∀ (W : World), Calls Try.prog 16 #[.agg #[.int .i64 x0, .int .i64 x1], .agg #[.int .i64 y0, .int .i64 y1]] W fun e w' => e = .returned (.agg #[.int .i64 (m.1), .int .i64 (m.2)]) ∧ Below W.heap.size W w' := M
  clear J M
  go_upto_region 2 with (fail)
  go_cut [40] (fun v wc => v = .bool false ∧ Hid (Below W.heap.size W wc))
  case first =>
    have q1 := fun (x : WIn (Below W.heap.size W)) (o : Nat) => (x.h.cell (p := ⟨w3.heap.size, o, none⟩) (by simp; omega)).trans (k1 o)
    have q2 := fun (x : WIn (Below W.heap.size W)) (o : Nat) => (x.h.cell (p := ⟨w3.heap.size + 1, o, none⟩) (by simp; omega)).trans (k2 o)
    have q3 := fun (x : WIn (Below W.heap.size W)) (o : Nat) => (x.h.cell (p := ⟨w3.heap.size + 1 + 1, o, none⟩) (by simp; omega)).trans (k3 o)
    by_cases g1 : leI x0 x1 z0 z1 = true
    · have L1 := itvLe_c x0 x1 z0 z1
      rw [g1] at L1
      by_cases g2 : leI y0 y1 z0 z1 = true
      · have L2 := itvLe_c y0 y1 z0 z1
        have L3 := itvLe_c j.1 j.2 z0 z1
        rw [g2] at L2
        rw [N1 g1 g2] at L3
        clear N1 N2 N3 g1 g2
        go_wp2_with fail
        refine region_in (Below W.heap.size W) (by kernel_rfl) (by kernel_rfl) (Below.refl _ _).drew (fun inst => ?_)
        repeat (go_big_quiet_step (first | (go_at_call_of 11 (Value.int .i64 x1); exact call_grow (Nat.le_refl _) (L1 _)) | (go_at_call_of 11 (Value.int .i64 y1); exact call_grow (Nat.le_refl _) (L2 _)) | (go_at_call_of 11 (Value.int .i64 j.1); exact call_grow (Nat.le_refl _) (L3 _)) | exact call_grow (Nat.le_refl _) (RJ _)))
        refine wpQuiet_nil ?_
        intro wc hbc
        (try go_wp2_with fail)
        go_meet
        case rel => exact ⟨rfl, hbc⟩
      · have L2 := itvLe_c y0 y1 z0 z1
        rw [Bool.eq_false_iff.mpr g2] at L2
        clear N1 N2 N3 g1 g2
        go_wp2_with fail
        refine region_in (Below W.heap.size W) (by kernel_rfl) (by kernel_rfl) (Below.refl _ _).drew (fun inst => ?_)
        repeat (go_big_quiet_step (first | (go_at_call_of 11 (Value.int .i64 x1); exact call_grow (Nat.le_refl _) (L1 _)) | exact call_grow (Nat.le_refl _) (L2 _)))
        refine wpQuiet_nil ?_
        intro wc hbc
        (try go_wp2_with fail)
        go_meet
        case rel => exact ⟨rfl, hbc⟩
    · have L1 := itvLe_c x0 x1 z0 z1
      rw [Bool.eq_false_iff.mpr g1] at L1
      clear N1 N2 N3 g1
      go_wp2_with fail
      refine region_in (Below W.heap.size W) (by kernel_rfl) (by kernel_rfl) (Below.refl _ _).drew (fun inst => ?_)
      repeat (go_big_quiet_step (first | exact call_grow (Nat.le_refl _) (L1 _)))
      refine wpQuiet_nil ?_
      intro wc hbc
      (try go_wp2_with fail)
      go_meet
      case rel => exact ⟨rfl, hbc⟩
  case rest =>
    obtain ⟨rfl, hbc⟩ := hcut
    have hbc := hbc.out
    have HW2 : Hid (Below w.heap.size w wc) := HW.out.trans (hbc.mono HW.out.size)
    have k4 := fun (o : Nat) => (hbc.cell (p := ⟨w3.heap.size, o, none⟩) (by simp; omega)).trans (k1 o)
    have k5 := fun (o : Nat) => (hbc.cell (p := ⟨w3.heap.size + 1, o, none⟩) (by simp; omega)).trans (k2 o)
    have k6 := fun (o : Nat) => (hbc.cell (p := ⟨w3.heap.size + 1 + 1, o, none⟩) (by simp; omega)).trans (k3 o)
    have hs2 : w3.heap.size + 2 < wc.heap.size := by have := hbc.size; omega
    clear k1 k2 k3 HW hs hbc
    revert HW2 k4 k5 k6 hs2
    generalize wc = W
    intro HW k1 k2 k3 hs
    go_upto_region 4 with (fail)
    go_cut [56] (fun v wc => v = .bool false ∧ Hid (Below W.heap.size W wc))
    case first =>
      have q1 := fun (x : WIn (Below W.heap.size W)) (o : Nat) => (x.h.cell (p := ⟨w3.heap.size, o, none⟩) (by simp; omega)).trans (k1 o)
      have q2 := fun (x : WIn (Below W.heap.size W)) (o : Nat) => (x.h.cell (p := ⟨w3.heap.size + 1, o, none⟩) (by simp; omega)).trans (k2 o)
      have q3 := fun (x : WIn (Below W.heap.size W)) (o : Nat) => (x.h.cell (p := ⟨w3.heap.size + 1 + 1, o, none⟩) (by simp; omega)).trans (k3 o)
      by_cases g1 : leI z0 z1 x0 x1 = true
      · have L1 := itvLe_c z0 z1 x0 x1
        rw [g1] at L1
        by_cases g2 : leI z0 z1 y0 y1 = true
        · have L2 := itvLe_c z0 z1 y0 y1
          have L3 := itvLe_c z0 z1 m.1 m.2
          rw [g2] at L2
          rw [N2 g1 g2] at L3
          clear N1 N2 N3 g1 g2
          go_wp2_with fail
          refine region_in (Below W.heap.size W) (by kernel_rfl) (by kernel_rfl) (Below.refl _ _).drew (fun inst => ?_)
          repeat (go_big_quiet_step (first | (go_at_call_of 11 (Value.int .i64 x1); exact call_grow (Nat.le_refl _) (L1 _)) | (go_at_call_of 11 (Value.int .i64 y1); exact call_grow (Nat.le_refl _) (L2 _)) | (go_at_call_of 11 (Value.int .i64 m.1); exact call_grow (Nat.le_refl _) (L3 _)) | exact call_grow (Nat.le_refl _) (RM _)))
          refine wpQuiet_nil ?_
          intro wc hbc
          (try go_wp2_with fail)
          go_meet
          case rel => exact ⟨rfl, hbc⟩
        · have L2 := itvLe_c z0 z1 y0 y1
          rw [Bool.eq_false_iff.mpr g2] at L2
          clear N1 N2 N3 g1 g2
          go_wp2_with fail
          refine region_in (Below W.heap.size W) (by kernel_rfl) (by kernel_rfl) (Below.refl _ _).drew (fun inst => ?_)
          repeat (go_big_quiet_step (first | (go_at_call_of 11 (Value.int .i64 x1); exact call_grow (Nat.le_refl _) (L1 _)) | exact call_grow (Nat.le_refl _) (L2 _)))
          refine wpQuiet_nil ?_
          intro wc hbc
          (try go_wp2_with fail)
          go_meet
          case rel => exact ⟨rfl, hbc⟩
      · have L1 := itvLe_c z0 z1 x0 x1
        rw [Bool.eq_false_iff.mpr g1] at L1
        clear N1 N2 N3 g1
        go_wp2_with fail
        refine region_in (Below W.heap.size W) (by kernel_rfl) (by kernel_rfl) (Below.refl _ _).drew (fun inst => ?_)
        repeat (go_big_quiet_step (first | exact call_grow (Nat.le_refl _) (L1 _)))
        refine wpQuiet_nil ?_
        intro wc hbc
        (try go_wp2_with fail)
        go_meet
        case rel => exact ⟨rfl, hbc⟩
    case rest =>
      obtain ⟨rfl, hbc⟩ := hcut
      have hbc := hbc.out
      have HW2 : Hid (Below w.heap.size w wc) := HW.out.trans (hbc.mono HW.out.size)
      have k4 := fun (o : Nat) => (hbc.cell (p := ⟨w3.heap.size, o, none⟩) (by simp; omega)).trans (k1 o)
      have k5 := fun (o : Nat) => (hbc.cell (p := ⟨w3.heap.size + 1, o, none⟩) (by simp; omega)).trans (k2 o)
      have k6 := fun (o : Nat) => (hbc.cell (p := ⟨w3.heap.size + 1 + 1, o, none⟩) (by simp; omega)).trans (k3 o)
      have hs2 : w3.heap.size + 2 < wc.heap.size := by have := hbc.size; omega
      clear k1 k2 k3 HW hs hbc
      revert HW2 k4 k5 k6 hs2
      generalize wc = W
      intro HW k1 k2 k3 hs
      have q1 := fun (x : WIn (Below W.heap.size W)) (o : Nat) => (x.h.cell (p := ⟨w3.heap.size, o, none⟩) (by simp; omega)).trans (k1 o)
      have q2 := fun (x : WIn (Below W.heap.size W)) (o : Nat) => (x.h.cell (p := ⟨w3.heap.size + 1, o, none⟩) (by simp; omega)).trans (k2 o)
      have q3 := fun (x : WIn (Below W.heap.size W)) (o : Nat) => (x.h.cell (p := ⟨w3.heap.size + 1 + 1, o, none⟩) (by simp; omega)).trans (k3 o)
      have L := itvLe_c m.1 m.2 j.1 j.2
      rw [N3] at L
      clear N1 N2 N3
      go_wp2_with fail
      refine region_in (Below W.heap.size W) (by kernel_rfl) (by kernel_rfl) (Below.refl _ _).drew (fun inst => ?_)
      repeat (go_big_quiet_step (first | (go_at_call 11; exact call_grow (Nat.le_refl _) (L _)) | (go_at_call 15; exact call_grow (Nat.le_refl _) (RJ _)) | (go_at_call 16; exact call_grow (Nat.le_refl _) (RM _)) | (go_at_call 13; exact call_grow (Nat.le_refl _) (awake14_c _))))
      refine wpQuiet_nil ?_
      intro wd hbd
      go_wp2
      go_ret
      exact ⟨rfl, HW.out.trans (hbd.mono HW.out.size)⟩
end Go.Proofs.Ythfglfhenpigjaa.C
