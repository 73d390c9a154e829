/- ZoneNone: walk. -/
import Derived.Test.YtnopjijhbflfdaaZAround
import Derived.Test.YtnopjijhbflfdaaZAwake
namespace Go.Proofs.Ytnopjijhbflfdaa.C
open Go.RowKit
set_option linter.unusedSimpArgs false
set_option linter.unusedVariables false
theorem rowc_nil (w : World) (f : Nat → Int) : RowC w none 0 f := ⟨by omega, fun h => absurd h (by omega)⟩
theorem ints_nil (w : World) : Calls Try.prog 16 #[.slice none 0 0, .slice none 0 0] w fun e w' => e = .returned (.bool true) ∧ Below w.heap.size w w' := by
  have := ints_c none none 0 0 0 (fun _ => 0) (fun _ => 0) w (rowc_nil w _) (rowc_nil w _)
  rwa [decide_eq_true (fun j hj => rfl)] at this
set_option maxRecDepth 100000 in
set_option maxHeartbeats 6400000 in
theorem zoneNone_c (av : Option Addr) (lv cv : Nat) (zv : List Int) (ak : Option Addr) (lk ck : Nat) (zk : List Int) (i j c : Int) (w : World) (hv : IntRow w .i16 av lv zv) (hk : IntRow w .u8 ak lk zk)
    (hi : 0 ≤ i ∧ i ≤ 255) (hj : 0 ≤ j ∧ j ≤ 255) (hc : 0 ≤ c ∧ c ≤ 255) :
    Calls Try.prog 4 #[.slice av lv cv, .slice ak lk ck, .int .u8 i, .int .u8 j, .int .u8 c] w (BoolPost true w) := by
  have AR := around_c av lv cv zv ak lk ck zk w hv hk
  clear hv hk
  go_enter Try.func4, Try.ntmps4
  go_upto_region 2 with (go_at_call 14; refine AR.mono ?_; rintro e w1 ⟨hb, k, f, A, c0, base, B, R, C, cap, M, hk6, rfl, hcap, hom, hbase, hrow, hA, hf, hkeeps, hfit⟩)
  have H1 := Lib.hid (And.intro hom (And.intro hbase (And.intro hrow (And.intro hA (And.intro hf hfit)))))
  refine at_world (fun W => Hid (Below w.heap.size w W ∧ Below w1.heap.size w1 W ∧ w1.heap.size < W.heap.size) ∧ (∀ o, W.cell? ⟨w1.heap.size, o, none⟩ = [Value.slice (some ⟨B, 0, none⟩) (k + 1) cap][o]?)) ⟨Lib.hid ⟨hb.alloc hb.size _, (Below.refl _ _).alloc (Nat.le_refl _) _, by simp⟩, by intro o; simp [go_sem]⟩ ?_
  clear AR hb hcap hom hbase hrow hA hf hkeeps hfit
  intro W1 ⟨HB, k1⟩
  by_cases h2 : k < 2
  · have g1 : decide ((k : Int) < 2) = true := decide_eq_true (by omega)
    have g1' : decide (k < 2) = true := decide_eq_true (by omega)
    clear h2 k1
    go_wp2_with (go_at_call 11; refine (awake16_c _).mono ?_; rintro e w' ⟨rfl, hb⟩)
    go_ret
    exact ⟨rfl, below_next HB.out.1 HB.out.1.size hb⟩
  have g1 : decide ((k : Int) < 2) = false := decide_eq_false (by omega)
  have g1' : decide (k < 2) = false := decide_eq_false (by omega)
  have hk2 : 2 ≤ k := by omega
  clear h2
  obtain ⟨a, ha⟩ : ∃ a : Nat, i % ((k : Int) + 1) = (a : Int) := ⟨(i % ((k : Int) + 1)).toNat, by have := Int.emod_nonneg i (b := (k : Int) + 1) (by omega); omega⟩
  obtain ⟨b, hb⟩ : ∃ b : Nat, j % ((k : Int) + 1) = (b : Int) := ⟨(j % ((k : Int) + 1)).toNat, by have := Int.emod_nonneg j (b := (k : Int) + 1) (by omega); omega⟩
  have hak : a < k + 1 := by have := Int.emod_lt_of_pos i (b := (k : Int) + 1) (by omega); omega
  have hbk : b < k + 1 := by have := Int.emod_lt_of_pos j (b := (k : Int) + 1) (by omega); omega
  have ei : wrap64 i = i := by unfold wrap64; omega
  have ej : wrap64 j = j := by unfold wrap64; omega
  have ec : wrap64 c = c := by unfold wrap64; omega
  go_upto_region 4 with fail
  refine region_in (Below W1.heap.size W1) (by kernel_rfl) (by kernel_rfl) (Below.refl _ _).drew (fun inst => ?_)
  iterate 14 (go_big_quiet_step (fail))
  refine wpQuiet_nil ?_
  intro wd hbd
  have HD := Lib.hid hbd
  have k2 := fun o => (hbd.cell (p := ⟨w1.heap.size, o, none⟩) HB.out.2.2).trans (k1 o)
  (try simp only [ha, hb])
  clear ha hb ei ej hbd inst k1 g1 g1'
  by_cases eab : a = b
  · have g2 : ((a : Int) == (b : Int)) = true := by simp; omega
    clear k2 eab
    go_wp2_with (go_at_call 11; refine (awake16_c _).mono ?_; rintro e w' ⟨rfl, hb⟩)
    go_ret
    exact ⟨rfl, below_next (below_next HB.out.1 HB.out.1.size HD.out) (Nat.le_trans HB.out.1.size HD.out.size) hb⟩
  have g2 : ((a : Int) == (b : Int)) = false := by simp; omega
  obtain ⟨n, hn⟩ : ∃ n, k + 1 = n := ⟨_, rfl⟩
  have HOM : Hid (OM wd base B R C n M) := Lib.hid (by rw [← hn]; exact (H1.out.1.below HB.out.2.1).below HD.out)
  have HN := Lib.hid hn
  obtain ⟨v, hv⟩ : ∃ v, c % 9 = v := ⟨_, rfl⟩
  have hv1 : 0 ≤ v ∧ v ≤ 8 := by omega
  have c1 := HOM.out.outer a (by omega)
  have f1 := HOM.out.frz a b (by omega) (by omega)
  have c2 : ∃ x, wd.cell? ⟨R a, b, none⟩ = some x := ⟨_, HOM.out.inner a b (by omega) (by omega)⟩
  obtain ⟨x2, c2⟩ := c2
  have ha0 : (0 : Int) ≤ (a : Int) := by omega
  have ha1 : (a : Int) < (n : Int) := by omega
  have hb0 : (0 : Int) ≤ (b : Int) := by omega
  have hb1 : (b : Int) < (n : Int) := by omega
  have ha2 : (a : Int) < (k : Int) + 1 := by omega
  have hb2 : (b : Int) < (k : Int) + 1 := by omega
  have HAB := Lib.hid eab
  simp only [hn] at k2
  clear eab hn
  go_upto_region 8 with fail
  have hne : w1.heap.size ≠ B ∧ (∀ i, i < n → R i ≠ w1.heap.size) := ⟨by have := H1.out.1.hB.2; omega, fun i hi => by have := (H1.out.1.hR i (by have := HN.out; omega)).2.1; omega⟩
  have HNE := Lib.hid hne
  refine at_world (fun W => Hid (OM W base B R C n (Z.upd M a b v) ∧ Kept R n wd W) ∧ (∀ o, W.cell? ⟨w1.heap.size, o, none⟩ = [Value.slice (some ⟨B, 0, none⟩) n cap][o]?)) ⟨Lib.hid ⟨by simpa [hv] using HOM.out.set (show a < n by have := HN.out; omega) (show b < n by have := HN.out; omega) v, by simpa [hv] using (Kept.refl R n wd).setCell (show a < n by have := HN.out; omega) b (.int .i64 v)⟩, fun o => by rw [World.cell?_setCell_far _ _ _ _ (hne.2 a (by have := HN.out; omega))]; exact k2 o⟩ ?_
  clear hne k2 c1 f1 c2 HOM x2
  intro W2 ⟨H2, k2⟩
  have hbn : b < n := by have := HN.out; omega
  have han : a < n := by have := HN.out; omega
  have hn7 : n ≤ 7 := by have := HN.out; omega
  have c1 := H2.out.1.outer b hbn
  have f1 := H2.out.1.frz b a hbn han
  obtain ⟨x2, c2⟩ : ∃ x, W2.cell? ⟨R b, a, none⟩ = some x := ⟨_, H2.out.1.inner b a hbn han⟩
  go_upto_region 9 with fail
  refine at_world (fun W => Hid (OM W base B R C n (Z.upd (Z.upd M a b v) b a (-1 - v)) ∧ Kept R n wd W) ∧ (∀ o, W.cell? ⟨w1.heap.size, o, none⟩ = [Value.slice (some ⟨B, 0, none⟩) n cap][o]?)) ⟨Lib.hid ⟨by simpa [hv] using H2.out.1.set hbn han (-1 - v), by simpa [hv] using H2.out.2.setCell hbn a (.int .i64 (-1 - v))⟩, fun o => by rw [World.cell?_setCell_far _ _ _ _ (HNE.out.2 b hbn)]; exact k2 o⟩ ?_
  clear k2 c1 f1 c2 H2 x2 W2 hv ec
  intro W3 ⟨H3, k3⟩
  have HFIT : Hid (Z.Fit (Z.upd (Z.upd M a b v) b a (-1 - v)) n) := Lib.hid ((Z.Fit.upd (by rw [← HN.out]; exact H1.out.2.2.2.2.2) (by omega) (by omega)).upd (by omega) (by omega))
  obtain ⟨M3, hM3⟩ : ∃ M3, Z.upd (Z.upd M a b v) b a (-1 - v) = M3 := ⟨_, rfl⟩
  have e1 : M3 b a = -1 - v := by rw [← hM3, Z.upd_same]
  have e2 : M3 a b = v := by rw [← hM3, Z.upd_other _ _ _ _ (fun q => HAB.out q.1), Z.upd_same]
  rw [hM3] at H3 HFIT
  have HNO : Hid (Z.okM (Z.closeM (Z.clampM M3) n) n = false) := Lib.hid (Z.close_none' HFIT.out han hbn (by omega) (by omega) (by omega))
  have HHAS : Hid (hasZ f k M3 n = false) := Lib.hid (hasZ_false (fun q => by
    have q1 := q.2 a b han hbn (by omega)
    have q2 := q.2 b a hbn han (by omega)
    omega))
  have HROW : Hid (RowC W3 A k f) := Lib.hid (((H1.out.2.2.1.below HB.out.2.1).below HD.out).kept H3.out.2 (fun ad h => (H1.out.2.2.2.1 ad h).2) (fun i hi => (H3.out.1.hR i hi).1))
  have HW : Hid (Below w.heap.size w W3) := Lib.hid (H3.out.2.below (base := w.heap.size) (fun i hi => by have := (H3.out.1.hR i hi).1; have := H1.out.2.1; omega) (below_next HB.out.1 HB.out.1.size HD.out) (Nat.le_trans HB.out.1.size HD.out.size))
  have hs3 : w1.heap.size < W3.heap.size := by have := HB.out.2.2; have := HD.out.size; have := H3.out.2.size; omega
  have K3 := Lib.hid k3
  clear hM3 e1 e2 HAB
  go_upto_region 10 with (go_at_call 12; refine (zclose_c ⟨B, 0, none⟩ n cap M3 _ (by omega) (by omega) H3.out.1.rm).mono ?_; rintro e w5 ⟨hb5, ⟨ok, B', R', C', cap', rfl, hcap5, hom5⟩ | ⟨ok, rfl⟩⟩)
  · rw [HNO.out] at ok; cases ok
  have k5 := fun o => (hb5.cell (p := ⟨w1.heap.size, o, none⟩) hs3).trans (k3 o)
  refine at_world (fun W => Hid (Below w.heap.size w W ∧ RM W ⟨B, 0, none⟩ n M3 ∧ RowC W A k f ∧ w5.heap.size < W.heap.size ∧ w1.heap.size < W.heap.size) ∧ (∀ o, W.cell? ⟨w1.heap.size, o, none⟩ = [Value.slice (some ⟨B, 0, none⟩) n cap][o]?) ∧ (∀ o, W.cell? ⟨w5.heap.size, o, none⟩ = [Value.slice none 0 0][o]?)) ⟨Lib.hid ⟨(below_next HW.out HW.out.size hb5).alloc (by have := HW.out.size; have := hb5.size; omega) _, (H3.out.1.rm.below hb5).below ((Below.refl _ _).alloc (Nat.le_refl _) _), (HROW.out.below hb5).below ((Below.refl _ _).alloc (Nat.le_refl _) _), by simp, by have := hb5.size; simp; omega⟩, fun o => (((Below.refl _ _).alloc (Nat.le_refl _) _).cell (p := ⟨w1.heap.size, o, none⟩) (by have := hb5.size; show w1.heap.size < _; omega)).trans (k5 o), by intro o; simp [go_sem]⟩ ?_
  obtain ⟨b5, hb5e⟩ : ∃ b, w5.heap.size = b := ⟨_, rfl⟩
  simp only [hb5e]
  clear k3 k5 hb5 ok H3 HROW HW hs3 K3 hb5e w5 W3 HNO
  intro W6 ⟨H6, k6, k7⟩
  have HAS := fun W (hb : Below W6.heap.size W6 W) => zhas_c ⟨B, 0, none⟩ n cap M3 A k c0 f W (by omega) (by omega) (H6.out.2.1.below hb) (H6.out.2.2.1.below hb) (by omega) (fun j hj => by have := H1.out.2.2.2.2.1 j hj; omega)
  rw [HHAS.out] at HAS
  go_wp2_with (first | (go_at_call 15; refine (HAS _ (Below.refl _ _)).mono ?_; rintro e w7 ⟨rfl, hb7⟩) | (go_at_call 16; refine (ints_nil _).mono ?_; rintro e w8 ⟨rfl, hb8⟩) | (go_at_call 11; refine (awake16_c _).mono ?_; rintro e w9 ⟨rfl, hb9⟩))
  go_ret
  exact ⟨rfl, below_next (below_next (below_next H6.out.1 H6.out.1.size hb7) (Nat.le_trans H6.out.1.size hb7.size) hb8) (Nat.le_trans (Nat.le_trans H6.out.1.size hb7.size) hb8.size) hb9⟩
end Go.Proofs.Ytnopjijhbflfdaa.C
