/- ZonePairs: walk. Printed by wip/gen_zpairs.py. -/
import Derived.Test.YtnopjijhbflfdaaZPairs
import Derived.Test.YtnopjijhbflfdaaZRBoth
import Derived.Test.YtnopjijhbflfdaaZTop2
import Derived.Test.YtnopjijhbflfdaaZAwake
namespace Go.Proofs.Ytnopjijhbflfdaa.C
open Go.RowKit
set_option linter.unusedSimpArgs false
set_option linter.unusedVariables false
theorem IntRow.rowc3 {w : World} {A : Option Addr} {n : Nat} {zs : List Int} (h : IntRow w .i64 A n zs) : RowC w A n (fun j => zs.getD j 0) :=
  ⟨by have := h.2.1; unfold maxLen at this; omega, fun h0 => by obtain ⟨ad, e, _, hc⟩ := h.2.2.2 h0; exact ⟨ad, e, hc⟩⟩
/-- Of bounds that may be: what closed makes of two alike is alike. -/
theorem close_alike3 {m m' : Z.M} {n : Nat} (h : Z.Fit m n) (ha : Z.Alike m m' n) : Z.Alike (Z.closeM m n) (Z.rCloseM m' n) n := by
  refine Z.fw_alike (fun i j hi hj => ?_) (Z.diagM_fit h) n (Nat.le_refl _)
  have := h i j hi hj
  have e := ha i j hi hj
  unfold Z.diagM Z.rInit
  rw [if_pos (And.intro hi hj)]
  by_cases e : i = j
  · rw [if_pos ⟨e, hi⟩, if_pos e]; omega
  · rw [if_neg (fun q => e q.1), if_neg e]; omega
theorem op_alike (op : Int → Int → Int) {m m1 m2 : Z.M} {n : Nat} (h : Z.Alike m m1 n) : Z.Alike (opM op m m2) (opM op m1 m2) n := fun i j hi hj => by unfold opM; rw [h i j hi hj]
theorem wid_alike {m m1 m2 T T' : Z.M} {n : Nat} (h : Z.Alike m m1 n) (ht : Z.Alike T T' n) : Z.Alike (widM m m2 T) (widM m1 m2 T') n := fun i j hi hj => by unfold widM; rw [h i j hi hj, ht i j hi hj]
theorem close_alike4 {m : Z.M} {n : Nat} (h : Z.Fit m n) : Z.Alike (Z.closeM m n) (Z.rCloseM m n) n := close_alike3 h (Z.Alike.refl m n)
/-- What a making with a yes or a no came to. -/
def MadeAt (M : Z.M) (n : Nat) (A : Option Addr) (nv : Nat) (ok : Bool) (w : World) : Prop :=
  Z.okM M n = ok ∧ ((ok = true ∧ ∃ B, A = some ⟨B, 0, none⟩ ∧ nv = n ∧ RM w ⟨B, 0, none⟩ n M) ∨ (ok = false ∧ A = none ∧ nv = 0))
theorem MadeAt.below {M : Z.M} {n nv : Nat} {A : Option Addr} {ok : Bool} {w w' : World} (h : MadeAt M n A nv ok w) (hb : Below w.heap.size w w') : MadeAt M n A nv ok w' :=
  ⟨h.1, h.2.imp (fun ⟨a, B, b, c, d⟩ => ⟨a, B, b, c, d.below hb⟩) id⟩
def MadePost (w : World) (n : Nat) (M : Z.M) (e : Ending) (w' : World) : Prop := Below w.heap.size w w' ∧ ∃ ok A nv cv, e = .returned (.tuple #[.agg #[.slice A nv cv], .bool ok]) ∧ (ok = false → cv = 0) ∧ MadeAt M n A nv ok w'
theorem NewM2.made {w : World} {n : Nat} {M : Z.M} {e : Ending} {w' : World} (h : NewM2 w n M e w') : MadePost w n M e w' := by
  obtain ⟨hb, ⟨ok, B, R, C, cap, rfl, hc, hom⟩ | ⟨ok, rfl⟩⟩ := h
  · exact ⟨hb, true, _, _, _, rfl, by simp, ok, .inl ⟨rfl, B, rfl, rfl, hom.rm⟩⟩
  · exact ⟨hb, false, _, _, _, rfl, fun _ => rfl, ok, .inr ⟨rfl, rfl, rfl⟩⟩
theorem sameMade_c {M M' : Z.M} {n nv nv' cv cv' : Nat} {A A' : Option Addr} {ok ok' : Bool} {w : World} (hn : n ≤ 1000) (ha : Z.Alike M M' n) (h : MadeAt M n A nv ok w) (h' : MadeAt M' n A' nv' ok' w) (hc : ok = false → cv = 0) (hc' : ok' = false → cv' = 0) :
    Calls Try.prog 13 #[.agg #[.slice A nv cv], .agg #[.slice A' nv' cv']] w (BoolPost true w) := by
  obtain ⟨q, h⟩ := h
  obtain ⟨q', h'⟩ := h'
  rw [Z.ok_alike ha, q'] at q
  subst q
  rcases h with ⟨rfl, B, rfl, rfl, hm⟩ | ⟨rfl, rfl, rfl⟩
  · rcases h' with ⟨_, B', rfl, rfl, hm'⟩ | ⟨q, _⟩
    · have := sameZone_c ⟨B, 0, none⟩ ⟨B', 0, none⟩ _ cv cv' M M' w hn hm hm'
      rw [Z.alikeB_true ha] at this
      exact this
    · cases q
  · rcases h' with ⟨q, _⟩ | ⟨_, rfl, rfl⟩
    · cases q
    · rw [hc rfl, hc' rfl]
      exact sameNil_c w
set_option maxRecDepth 100000 in
set_option maxHeartbeats 12800000 in
theorem zonePairs_c (A1 : Option Addr) (n cap1 : Nat) (L1 : Nat → Nat) (m1 : Z.M) (A2 : Option Addr) (n2 cap2 : Nat) (L2 : Nat → Nat) (m2 : Z.M) (at_ : Option Addr) (lt ct : Nat) (zt : List Int) (w : World) (h1 : GM w A1 n L1 m1) (h2 : GM w A2 n2 L2 m2) (ht : IntRow w .i64 at_ lt zt) :
    Calls Try.prog 7 #[.agg #[.slice A1 n cap1], .agg #[.slice A2 n2 cap2], .slice at_ lt ct] w (BoolPost true w) := by
  have H1 := Lib.hid h1
  have H2 := Lib.hid h2
  have hnm := h1.1
  have RT := ht.rowc3
  clear ht h1 h2
  obtain ⟨ts, hts⟩ : ∃ f : Nat → Int, (fun j => zt.getD j 0) = f := ⟨_, rfl⟩
  rw [hts] at RT
  have HT := Lib.hid RT
  clear RT hts
  have PR := fun W (hb : Below w.heap.size w W) => pairs_c A1 n cap1 L1 m1 A2 n2 cap2 L2 m2 W (H1.out.below hb) (H2.out.below hb)
  by_cases h7 : lt ≤ 7
  · have H7 := Lib.hid h7
    by_cases hq : lt + 1 = n
    · have g : ((lt : Int) + 1 != (n : Int)) = false := by simp; omega
      have HQ := Lib.hid hq
      clear hq
      go_enter Try.func7, Try.ntmps7
      go_upto_region 1 with fail
      refine at_world (fun W => Hid (Below w.heap.size w W) ∧ W.cell? ⟨w.heap.size, 0, none⟩ = some (Value.slice A1 n cap1) ∧ W.cell? ⟨w.heap.size + 1, 0, none⟩ = some (Value.slice A2 n2 cap2)) ⟨Lib.hid (by repeat' (first | exact Below.refl _ _ | (refine Below.alloc ?_ ?_ _) | (refine Below.setCell ?_ ?_ _) | (refine Below.drew ?_) | (refine below_next ?_ ?_ (by assumption)) | omega | (simp; done) | (simp; omega))), by simp [go_sem], by simp [go_sem]⟩ ?_
      intro W0 ⟨HB, k0, k1⟩
      go_upto_region 3 with (first | (go_at_call 26; refine (PR _ HB.out).mono ?_; clear PR; rintro e w' ⟨⟨_ | _, rfl, hp⟩, hb⟩; all_goals (replace hp := Lib.hid hp; have hbz := hb.size; replace k0 := cell_later hb k0; replace k1 := cell_later hb k1; replace HB := Lib.hid (below_next HB.out HB.out.size hb); clear hb hbz)) | (go_at_call 21; refine (types_c at_ lt ct ts _ (HT.out.below HB.out)).mono ?_; rintro e w' ⟨rfl, b, rfl, h7⟩; cases b; all_goals skip) | (go_at_call 11; refine (awake16_c _).mono ?_; rintro e w' ⟨rfl, hb⟩; replace HB := Lib.hid (below_next HB.out HB.out.size hb); clear hb))
      · go_wp2_with (go_at_call 11; refine (awake16_c _).mono ?_; rintro e w' ⟨rfl, hb⟩; replace HB := Lib.hid (below_next HB.out HB.out.size hb); clear hb)
        go_ret
        exact ⟨rfl, HB.out⟩
      · go_wp2_with (go_at_call 11; refine (awake16_c _).mono ?_; rintro e w' ⟨rfl, hb⟩; replace HB := Lib.hid (below_next HB.out HB.out.size hb); clear hb)
        go_ret
        exact ⟨rfl, HB.out⟩
      have hp2 := hp.out (by simp)
      clear hp
      obtain ⟨rfl, h8, cl1, cl2⟩ := hp2
      have hn1 := cl1.1
      have h100 : n ≤ 100 := by omega
      have h1000 : n ≤ 1000 := by omega
      obtain ⟨a1, rfl, hrm1⟩ := H1.out.rm hn1 cl1.2.1
      obtain ⟨a2, rfl, hrm2⟩ := H2.out.rm hn1 cl2.2.1
      have HM1 := Lib.hid hrm1
      have HM2 := Lib.hid hrm2
      have HF1 := Lib.hid cl1.2.2
      have HF2 := Lib.hid cl2.2.2
      have AJ := Lib.hid (op_alike max (m2 := m2) (Z.clamp_le HF1.out))
      have AM := Lib.hid (close_alike3 (minM_fit HF2.out) (op_alike min (m2 := m2) (Z.clamp_le HF1.out)))
      have AW := Lib.hid (close_alike3 (widM_fit (Z.clampM_fit m1 n) (Z.closeM_fit (topM_fit ts lt n))) (wid_alike (m2 := m2) (Z.clamp_le HF1.out) (close_alike4 (topM_fit ts lt n))))
      clear cl1 cl2 hrm1 hrm2 H1 H2 g h8
      refine at_world (fun W => Hid (Below w.heap.size w W) ∧ W.cell? ⟨w.heap.size, 0, none⟩ = some (Value.slice (some a1) n cap1) ∧ W.cell? ⟨w.heap.size + 1, 0, none⟩ = some (Value.slice (some a2) n cap2)) ⟨HB, k0, k1⟩ ?_
      clear HB k0 k1
      intro W3 ⟨HB, k0, k1⟩
      go_upto_region 4 with (go_at_call 27; refine (zmeet_c a1 a2 n cap1 cap2 m1 m2 _ hn1 h1000 (HM1.out.below HB.out) (HM2.out.below HB.out) HF2.out).mono ?_; rintro e w' hp; obtain ⟨hb, ok3, V3, nv3, cv3, rfl, hc3, hmd3⟩ := NewM2.made hp; clear hp)
      have HC3 := Lib.hid hc3
      refine at_world (fun W => Hid (Below w.heap.size w W) ∧ Hid (MadeAt (Z.closeM (opM min (Z.clampM m1) m2) n) n V3 nv3 ok3 W) ∧ W.cell? ⟨w.heap.size, 0, none⟩ = some (Value.slice (some a1) n cap1) ∧ W.cell? ⟨w.heap.size + 1, 0, none⟩ = some (Value.slice (some a2) n cap2) ∧ W.cell? ⟨w'.heap.size, 0, none⟩ = some (Value.slice V3 nv3 cv3)) ⟨Lib.hid ((below_next HB.out HB.out.size hb).alloc (by have := HB.out.size; have := hb.size; omega) _), Lib.hid (hmd3.below ((Below.refl _ _).alloc (Nat.le_refl _) _)), cell_later ((Below.refl _ _).alloc (Nat.le_refl _) _) (cell_later hb k0), cell_later ((Below.refl _ _).alloc (Nat.le_refl _) _) (cell_later hb k1), by simp [go_sem]⟩ ?_
      obtain ⟨b3, hbe⟩ : ∃ b, w'.heap.size = b := ⟨_, rfl⟩
      simp only [hbe]
      clear k0 k1 hb HB hc3 hmd3 hbe w'
      intro W4 ⟨HB, HN3, k0, k1, k3⟩
      go_upto_region 5 with (go_at_call 28; refine (rmeet_c a1 a2 n cap1 cap2 m1 m2 _ hn1 h100 (HM1.out.below HB.out) (HM2.out.below HB.out) HF1.out HF2.out).mono ?_; rintro e w' hp; obtain ⟨hb, ok4, V4, nv4, cv4, rfl, hc4, hmd4⟩ := NewM2.made hp; clear hp)
      have HC4 := Lib.hid hc4
      have okE : ok3 = ok4 := by rw [← hmd4.1, ← HN3.out.1]; exact Z.ok_alike AM.out
      refine at_world (fun W => Hid (Below w.heap.size w W) ∧ Hid (MadeAt (Z.closeM (opM min (Z.clampM m1) m2) n) n V3 nv3 ok3 W) ∧ Hid (MadeAt (Z.rCloseM (opM min m1 m2) n) n V4 nv4 ok4 W) ∧ W.cell? ⟨w.heap.size, 0, none⟩ = some (Value.slice (some a1) n cap1) ∧ W.cell? ⟨w.heap.size + 1, 0, none⟩ = some (Value.slice (some a2) n cap2) ∧ W.cell? ⟨b3, 0, none⟩ = some (Value.slice V3 nv3 cv3) ∧ W.cell? ⟨w'.heap.size, 0, none⟩ = some (Value.slice V4 nv4 cv4)) ⟨Lib.hid ((below_next HB.out HB.out.size hb).alloc (by have := HB.out.size; have := hb.size; omega) _), Lib.hid ((HN3.out.below hb).below ((Below.refl _ _).alloc (Nat.le_refl _) _)), Lib.hid (hmd4.below ((Below.refl _ _).alloc (Nat.le_refl _) _)), cell_later ((Below.refl _ _).alloc (Nat.le_refl _) _) (cell_later hb k0), cell_later ((Below.refl _ _).alloc (Nat.le_refl _) _) (cell_later hb k1), cell_later ((Below.refl _ _).alloc (Nat.le_refl _) _) (cell_later hb k3), by simp [go_sem]⟩ ?_
      obtain ⟨b4, hbe⟩ : ∃ b, w'.heap.size = b := ⟨_, rfl⟩
      simp only [hbe]
      clear k0 k1 k3 hb HB hc4 hmd4 HN3 hbe w'
      intro W5 ⟨HB, HN3, HN4, k0, k1, k3, k4⟩
      subst okE
      go_upto_region 6 with (go_at_call 29; refine (zwiden_c a1 a2 n cap1 cap2 m1 m2 at_ lt ct ts _ HQ.out h100 (HM1.out.below HB.out) (HM2.out.below HB.out) (HT.out.below HB.out)).mono ?_; rintro e w' hp; obtain ⟨hb, ok5, V5, nv5, cv5, rfl, hc5, hmd5⟩ := NewM2.made hp; clear hp)
      have HC5 := Lib.hid hc5
      refine at_world (fun W => Hid (Below w.heap.size w W) ∧ Hid (MadeAt (Z.closeM (opM min (Z.clampM m1) m2) n) n V3 nv3 ok3 W) ∧ Hid (MadeAt (Z.rCloseM (opM min m1 m2) n) n V4 nv4 ok3 W) ∧ Hid (MadeAt (Z.closeM (widM (Z.clampM m1) m2 (Z.closeM (topM ts lt) n)) n) n V5 nv5 ok5 W) ∧ W.cell? ⟨w.heap.size, 0, none⟩ = some (Value.slice (some a1) n cap1) ∧ W.cell? ⟨w.heap.size + 1, 0, none⟩ = some (Value.slice (some a2) n cap2) ∧ W.cell? ⟨b3, 0, none⟩ = some (Value.slice V3 nv3 cv3) ∧ W.cell? ⟨b4, 0, none⟩ = some (Value.slice V4 nv4 cv4) ∧ W.cell? ⟨w'.heap.size, 0, none⟩ = some (Value.slice V5 nv5 cv5)) ⟨Lib.hid ((below_next HB.out HB.out.size hb).alloc (by have := HB.out.size; have := hb.size; omega) _), Lib.hid ((HN3.out.below hb).below ((Below.refl _ _).alloc (Nat.le_refl _) _)), Lib.hid ((HN4.out.below hb).below ((Below.refl _ _).alloc (Nat.le_refl _) _)), Lib.hid (hmd5.below ((Below.refl _ _).alloc (Nat.le_refl _) _)), cell_later ((Below.refl _ _).alloc (Nat.le_refl _) _) (cell_later hb k0), cell_later ((Below.refl _ _).alloc (Nat.le_refl _) _) (cell_later hb k1), cell_later ((Below.refl _ _).alloc (Nat.le_refl _) _) (cell_later hb k3), cell_later ((Below.refl _ _).alloc (Nat.le_refl _) _) (cell_later hb k4), by simp [go_sem]⟩ ?_
      obtain ⟨b5, hbe⟩ : ∃ b, w'.heap.size = b := ⟨_, rfl⟩
      simp only [hbe]
      clear k0 k1 k3 k4 hb HB hc5 hmd5 HN3 HN4 hbe w'
      intro W6 ⟨HB, HN3, HN4, HN5, k0, k1, k3, k4, k5⟩
      go_upto_region 7 with (go_at_call 30; refine (rwiden_c a1 a2 n cap1 cap2 m1 m2 at_ lt ct ts _ HQ.out h100 (HM1.out.below HB.out) (HM2.out.below HB.out) (HT.out.below HB.out) HF1.out).mono ?_; rintro e w' hp; obtain ⟨hb, ok6, V6, nv6, cv6, rfl, hc6, hmd6⟩ := NewM2.made hp; clear hp)
      have HC6 := Lib.hid hc6
      have okE : ok5 = ok6 := by rw [← hmd6.1, ← HN5.out.1]; exact Z.ok_alike AW.out
      refine at_world (fun W => Hid (Below w.heap.size w W) ∧ Hid (MadeAt (Z.closeM (opM min (Z.clampM m1) m2) n) n V3 nv3 ok3 W) ∧ Hid (MadeAt (Z.rCloseM (opM min m1 m2) n) n V4 nv4 ok3 W) ∧ Hid (MadeAt (Z.closeM (widM (Z.clampM m1) m2 (Z.closeM (topM ts lt) n)) n) n V5 nv5 ok5 W) ∧ Hid (MadeAt (Z.rCloseM (widM m1 m2 (Z.rCloseM (topM ts lt) n)) n) n V6 nv6 ok6 W) ∧ W.cell? ⟨w.heap.size, 0, none⟩ = some (Value.slice (some a1) n cap1) ∧ W.cell? ⟨w.heap.size + 1, 0, none⟩ = some (Value.slice (some a2) n cap2) ∧ W.cell? ⟨b3, 0, none⟩ = some (Value.slice V3 nv3 cv3) ∧ W.cell? ⟨b4, 0, none⟩ = some (Value.slice V4 nv4 cv4) ∧ W.cell? ⟨b5, 0, none⟩ = some (Value.slice V5 nv5 cv5) ∧ W.cell? ⟨w'.heap.size, 0, none⟩ = some (Value.slice V6 nv6 cv6)) ⟨Lib.hid ((below_next HB.out HB.out.size hb).alloc (by have := HB.out.size; have := hb.size; omega) _), Lib.hid ((HN3.out.below hb).below ((Below.refl _ _).alloc (Nat.le_refl _) _)), Lib.hid ((HN4.out.below hb).below ((Below.refl _ _).alloc (Nat.le_refl _) _)), Lib.hid ((HN5.out.below hb).below ((Below.refl _ _).alloc (Nat.le_refl _) _)), Lib.hid (hmd6.below ((Below.refl _ _).alloc (Nat.le_refl _) _)), cell_later ((Below.refl _ _).alloc (Nat.le_refl _) _) (cell_later hb k0), cell_later ((Below.refl _ _).alloc (Nat.le_refl _) _) (cell_later hb k1), cell_later ((Below.refl _ _).alloc (Nat.le_refl _) _) (cell_later hb k3), cell_later ((Below.refl _ _).alloc (Nat.le_refl _) _) (cell_later hb k4), cell_later ((Below.refl _ _).alloc (Nat.le_refl _) _) (cell_later hb k5), by simp [go_sem]⟩ ?_
      obtain ⟨b6, hbe⟩ : ∃ b, w'.heap.size = b := ⟨_, rfl⟩
      simp only [hbe]
      clear k0 k1 k3 k4 k5 hb HB hc6 hmd6 HN3 HN4 HN5 hbe w'
      intro W7 ⟨HB, HN3, HN4, HN5, HN6, k0, k1, k3, k4, k5, k6⟩
      subst okE
      have SM := Lib.hid (fun W' (hb : Below W7.heap.size W7 W') => sameMade_c h1000 AM.out (HN3.out.below hb) (HN4.out.below hb) HC3.out HC4.out)
      have SW := Lib.hid (fun W' (hb : Below W7.heap.size W7 W') => sameMade_c h1000 AW.out (HN5.out.below hb) (HN6.out.below hb) HC5.out HC6.out)
      have LE1 := Lib.hid (fun W' (hb : Below W7.heap.size W7 W') => zle_c a1 a2 n cap1 cap2 m1 m2 W' h1000 ((HM1.out.below HB.out).below hb) ((HM2.out.below HB.out).below hb))
      have LE2 := Lib.hid (fun W' (hb : Below W7.heap.size W7 W') => lezone_c a1 a2 n cap1 cap2 m1 m2 W' h1000 ((HM1.out.below HB.out).below hb) ((HM2.out.below HB.out).below hb))
      have JN1 := Lib.hid (fun W' (hb : Below W7.heap.size W7 W') => zjoin_c a1 a2 n cap1 cap2 m1 m2 W' hn1 h1000 ((HM1.out.below HB.out).below hb) ((HM2.out.below HB.out).below hb))
      have JN2 := Lib.hid (fun W' (hb : Below W7.heap.size W7 W') => rjoin_c a1 a2 n cap1 cap2 m1 m2 W' hn1 h100 ((HM1.out.below HB.out).below hb) ((HM2.out.below HB.out).below hb))
      obtain ⟨lm, hlm⟩ : ∃ b, matLe m1 m2 n = b := ⟨_, rfl⟩
      simp only [hlm] at LE1 LE2
      have gb : (lm == lm) = true := by simp
      have gb4 : (ok3 == ok3) = true := by simp
      have gb6 : (ok5 == ok5) = true := by simp
      have HB6 := Lib.hid ((Below.refl W7.heap.size W7).drew)
      have HW := HB
      clear hlm HB HN3 HN4 HN5 HN6 HM1 HM2 HT AM AW HC3 HC4 HC5 HC6 HF1 HF2 H7 h7 hnm HQ
      go_region_held3 (fun w' => w'.cell? ⟨w.heap.size, 0, none⟩ = some (Value.slice (some a1) n cap1) ∧ w'.cell? ⟨w.heap.size + 1, 0, none⟩ = some (Value.slice (some a2) n cap2) ∧ w'.cell? ⟨b3, 0, none⟩ = some (Value.slice V3 nv3 cv3) ∧ w'.cell? ⟨b4, 0, none⟩ = some (Value.slice V4 nv4 cv4) ∧ w'.cell? ⟨b5, 0, none⟩ = some (Value.slice V5 nv5 cv5) ∧ w'.cell? ⟨b6, 0, none⟩ = some (Value.slice V6 nv6 cv6)) (first | exact ⟨k0, k1, k3, k4, k5, k6⟩ | exact ⟨cell_later HB6.out k0, cell_later HB6.out k1, cell_later HB6.out k3, cell_later HB6.out k4, cell_later HB6.out k5, cell_later HB6.out k6⟩) ((first | (go_at_call 31; refine (LE1.out _ HB6.out).mono ?_; clear LE1; rintro e w' ⟨rfl, hb⟩; replace HB6 := Lib.hid (below_next HB6.out HB6.out.size hb); clear hb) | (go_at_call 32; refine (LE2.out _ HB6.out).mono ?_; clear LE2; rintro e w' ⟨rfl, hb⟩; replace HB6 := Lib.hid (below_next HB6.out HB6.out.size hb); clear hb) | (go_at_call 33; refine (JN1.out _ HB6.out).mono ?_; clear JN1; rintro e wt ⟨Bt, Rt, Ct, capt, rfl, hcapt, homt, hb⟩; have HOT := Lib.hid homt.rm; clear homt hcapt; replace HB6 := Lib.hid (below_next HB6.out HB6.out.size hb); clear hb) | (go_at_call 34; refine (JN2.out _ HB6.out).mono ?_; clear JN2; rintro e wz ⟨Bz, Rz, Cz, capz, rfl, hcapz, homz, hb⟩; have SZ2 := sameZone_c ⟨Bt, 0, none⟩ ⟨Bz, 0, none⟩ n capt capz _ _ wz h1000 (HOT.out.below hb) homz.rm; rw [Z.alikeB_true AJ.out] at SZ2; have HS3 := Lib.hid SZ2; clear SZ2 homz hcapz; replace HB6 := Lib.hid (below_next HB6.out HB6.out.size hb); clear hb) | (go_at_call 13; refine (HS3.out).mono ?_; clear HS3; rintro e w' ⟨rfl, hb⟩; replace HB6 := Lib.hid (below_next HB6.out HB6.out.size hb); clear hb) | (go_at_call 13; refine (SM.out _ HB6.out).mono ?_; clear SM; rintro e w' ⟨rfl, hb⟩; replace HB6 := Lib.hid (below_next HB6.out HB6.out.size hb); clear hb) | (go_at_call 13; refine (SW.out _ HB6.out).mono ?_; clear SW; rintro e w' ⟨rfl, hb⟩; replace HB6 := Lib.hid (below_next HB6.out HB6.out.size hb); clear hb) | (go_at_call 11; refine (awake16_c _).mono ?_; rintro e w' ⟨rfl, hb⟩; replace HB6 := Lib.hid (below_next HB6.out HB6.out.size hb); clear hb)))
      all_goals (go_wp2_with fail)
      all_goals
        go_ret
        exact ⟨rfl, below_next HW.out HW.out.size HB6.out⟩
    · have g : ((lt : Int) + 1 != (n : Int)) = true := by simp; omega
      go_enter Try.func7, Try.ntmps7
      go_upto_region 1 with fail
      refine at_world (fun W => Hid (Below w.heap.size w W) ∧ W.cell? ⟨w.heap.size, 0, none⟩ = some (Value.slice A1 n cap1) ∧ W.cell? ⟨w.heap.size + 1, 0, none⟩ = some (Value.slice A2 n2 cap2)) ⟨Lib.hid (by repeat' (first | exact Below.refl _ _ | (refine Below.alloc ?_ ?_ _) | (refine Below.setCell ?_ ?_ _) | (refine Below.drew ?_) | (refine below_next ?_ ?_ (by assumption)) | omega | (simp; done) | (simp; omega))), by simp [go_sem], by simp [go_sem]⟩ ?_
      intro W0 ⟨HB, k0, k1⟩
      go_wp2_with (first | (go_at_call 26; refine (PR _ HB.out).mono ?_; clear PR; rintro e w' ⟨⟨_ | _, rfl, hp⟩, hb⟩; all_goals (replace hp := Lib.hid hp; have hbz := hb.size; replace k0 := cell_later hb k0; replace k1 := cell_later hb k1; replace HB := Lib.hid (below_next HB.out HB.out.size hb); clear hb hbz)) | (go_at_call 21; refine (types_c at_ lt ct ts _ (HT.out.below HB.out)).mono ?_; rintro e w' ⟨rfl, b, rfl, h7⟩; cases b; all_goals skip) | (go_at_call 11; refine (awake16_c _).mono ?_; rintro e w' ⟨rfl, hb⟩; replace HB := Lib.hid (below_next HB.out HB.out.size hb); clear hb))
      all_goals
        go_ret
        exact ⟨rfl, HB.out⟩
  · have hlt : ¬ lt ≤ 7 := h7
    go_enter Try.func7, Try.ntmps7
    go_upto_region 1 with fail
    refine at_world (fun W => Hid (Below w.heap.size w W) ∧ W.cell? ⟨w.heap.size, 0, none⟩ = some (Value.slice A1 n cap1) ∧ W.cell? ⟨w.heap.size + 1, 0, none⟩ = some (Value.slice A2 n2 cap2)) ⟨Lib.hid (by repeat' (first | exact Below.refl _ _ | (refine Below.alloc ?_ ?_ _) | (refine Below.setCell ?_ ?_ _) | (refine Below.drew ?_) | (refine below_next ?_ ?_ (by assumption)) | omega | (simp; done) | (simp; omega))), by simp [go_sem], by simp [go_sem]⟩ ?_
    intro W0 ⟨HB, k0, k1⟩
    go_wp2_with (first | (go_at_call 26; refine (PR _ HB.out).mono ?_; clear PR; rintro e w' ⟨⟨_ | _, rfl, hp⟩, hb⟩; all_goals (replace hp := Lib.hid hp; have hbz := hb.size; replace k0 := cell_later hb k0; replace k1 := cell_later hb k1; replace HB := Lib.hid (below_next HB.out HB.out.size hb); clear hb hbz)) | (go_at_call 21; refine (types_c at_ lt ct ts _ (HT.out.below HB.out)).mono ?_; rintro e w' ⟨rfl, b, rfl, h7⟩; cases b; rotate_left; exact absurd (h7 rfl) hlt) | (go_at_call 11; refine (awake16_c _).mono ?_; rintro e w' ⟨rfl, hb⟩; replace HB := Lib.hid (below_next HB.out HB.out.size hb); clear hb))
    all_goals
      go_ret
      exact ⟨rfl, HB.out⟩
end Go.Proofs.Ytnopjijhbflfdaa.C
