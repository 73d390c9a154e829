/- ZoneSound: walk. -/
import Derived.Test.YtnopjijhbflfdaaZWiden
import Derived.Test.YtnopjijhbflfdaaZBoth
import Derived.Test.YtnopjijhbflfdaaZLe
import Derived.Test.YtnopjijhbflfdaaZMoves
namespace Go.Proofs.Ytnopjijhbflfdaa.C
open Go.RowKit
set_option linter.unusedSimpArgs false
set_option linter.unusedVariables false
theorem join_keeps {X : Nat → Int} {a b : Z.M} {n : Nat} (h : Z.Keeps X a n) : Z.Keeps X (opM max (Z.clampM a) b) n := fun i j hi hj hlt => by
  have := h.clamp i j hi hj
  unfold opM at *
  have := this (by omega)
  omega
theorem meet_keeps {X : Nat → Int} {a b : Z.M} {n : Nat} (h : Z.Keeps X a n) (h2 : Z.Keeps X b n) : Z.Keeps X (opM min (Z.clampM a) b) n := fun i j hi hj hlt => by
  have h1 := h.clamp i j hi hj
  have h3 := h2 i j hi hj
  unfold opM at *
  by_cases c1 : Z.clampM a i j < 1099511627776
  · have := h1 c1
    by_cases c2 : b i j < 1099511627776
    · have := h3 c2; omega
    · omega
  · have := h3 (by omega); omega
theorem topX_keeps {X ts : Nat → Int} {q n : Nat} (hX : X 0 = 0) (hb : ∀ i, i ≤ q → -32768 ≤ X i ∧ X i ≤ 32767) (ht : ∀ j, j < q → ts j = 3) : Z.Keeps X (topM ts q) n := fun i j hi hj hlt => by
  have e1 : maxT 3 = 32767 := by decide
  have e2 : minT 3 = -32768 := by decide
  unfold topM blankM at *
  split
  · rename_i c
    have := ht (i - 1) (by omega)
    have hi' := hb i (by omega)
    obtain ⟨rfl, _⟩ := c
    rw [this]; omega
  · rename_i c0
    split
    · rename_i c
      have := ht (j - 1) (by omega)
      have hj' := hb j (by omega)
      obtain ⟨rfl, _⟩ := c
      rw [this]; omega
    · rename_i c
      split
      · rename_i c2; subst c2; omega
      · rename_i c2
        rw [if_neg c0, if_neg c, if_neg c2] at hlt
        omega
theorem wid_keeps {X : Nat → Int} {a b T : Z.M} {n : Nat} (h : Z.Keeps X a n) (hT : Z.Keeps X T n) : Z.Keeps X (widM (Z.clampM a) b T) n := fun i j hi hj hlt => by
  have h1 := h.clamp i j hi hj
  have h2 := hT i j hi hj
  unfold widM at *
  split
  · rename_i c; rw [if_pos c] at hlt; exact h1 hlt
  · rename_i c
    rw [if_neg c] at hlt
    split
    · rename_i c2; rw [if_pos c2] at hlt; exact h2 hlt
    · rename_i c2; rw [if_neg c2] at hlt; omega
theorem closeM_le (m : Z.M) (n i j : Nat) : Z.closeM m n i j ≤ m i j := by
  have h1 := Z.fwN_le (Z.diagM m n) n n i j
  have h3 : Z.diagM m n i j ≤ m i j := by unfold Z.diagM; split <;> omega
  unfold Z.closeM; omega
/-- Two zones in boxes, and the numbers. -/
def SdIn (w : World) (b1 b2 B1 B2 n cap1 cap2 : Nat) (M1 M2 : Z.M) (A : Option Addr) (k : Nat) (f : Nat → Int) (W : World) : Prop :=
  Below w.heap.size w W ∧ RM W ⟨B1, 0, none⟩ n M1 ∧ RM W ⟨B2, 0, none⟩ n M2 ∧ RowC W A k f ∧ b1 < W.heap.size ∧ b2 < W.heap.size ∧ (∀ o, W.cell? ⟨b1, o, none⟩ = [Value.slice (some ⟨B1, 0, none⟩) n cap1][o]?) ∧ (∀ o, W.cell? ⟨b2, o, none⟩ = [Value.slice (some ⟨B2, 0, none⟩) n cap2][o]?)
theorem SdIn.below {w : World} {b1 b2 B1 B2 n cap1 cap2 : Nat} {M1 M2 : Z.M} {A : Option Addr} {k : Nat} {f : Nat → Int} {W W' : World} (h : SdIn w b1 b2 B1 B2 n cap1 cap2 M1 M2 A k f W) (hb : Below W.heap.size W W') : SdIn w b1 b2 B1 B2 n cap1 cap2 M1 M2 A k f W' :=
  ⟨below_next h.1 h.1.size hb, h.2.1.below hb, h.2.2.1.below hb, h.2.2.2.1.below hb, Nat.lt_of_lt_of_le h.2.2.2.2.1 hb.size, Nat.lt_of_lt_of_le h.2.2.2.2.2.1 hb.size, fun o => (hb.cell (p := ⟨b1, o, none⟩) h.2.2.2.2.1).trans (h.2.2.2.2.2.2.1 o), fun o => (hb.cell (p := ⟨b2, o, none⟩) h.2.2.2.2.2.1).trans (h.2.2.2.2.2.2.2 o)⟩
/-- A box with a zone that reads as M. -/
def BxM (b B n cap : Nat) (M : Z.M) (W : World) : Prop := b < W.heap.size ∧ (∀ o, W.cell? ⟨b, o, none⟩ = [Value.slice (some ⟨B, 0, none⟩) n cap][o]?) ∧ RM W ⟨B, 0, none⟩ n M
theorem BxM.below {b B n cap : Nat} {M : Z.M} {W W' : World} (h : BxM b B n cap M W) (hb : Below W.heap.size W W') : BxM b B n cap M W' :=
  ⟨Nat.lt_of_lt_of_le h.1 hb.size, fun o => (hb.cell (p := ⟨b, o, none⟩) h.1).trans (h.2.1 o), h.2.2.below hb⟩
set_option maxRecDepth 100000 in
set_option maxHeartbeats 12800000 in
theorem zoneSound_c (av : Option Addr) (lv cv : Nat) (zv : List Int) (ak : Option Addr) (lk ck : Nat) (zk : List Int) (al : Option Addr) (ll cl : Nat) (zl : List Int) (w : World) (hv : IntRow w .i16 av lv zv) (hk : IntRow w .u8 ak lk zk) (hl : IntRow w .u8 al ll zl) :
    Calls Try.prog 8 #[.slice av lv cv, .slice ak lk ck, .slice al ll cl] w (BoolPost true w) := by
  have AR := around2_c av lv cv zv ak lk ck zk w hv hk
  have HV := Lib.hid (And.intro hv hl)
  clear hv hk hl
  obtain ⟨i0, hii, hz⟩ := Option.map_eq_some_iff.1 infoI
  simp only [Prod.mk.injEq] at hz
  have HI := Lib.hid (And.intro hii hz)
  clear hii hz
  go_enter Try.func8, Try.ntmps8
  go_upto_region 2 with (go_at_call 14; refine AR.mono ?_; rintro e w1 ⟨hb, k, f, A, c0, base, B, R, C, cap, M, hk6, rfl, hcap, hom, hbase, hrow, hA, hf, hkeeps, hfit, hkm, hfe⟩; have HKM := Lib.hid (And.intro hkm hfe); clear hkm hfe)
  have HX := Lib.hid (And.intro hf (And.intro hkeeps (And.intro hfit (HKM.out))))
  refine at_world (fun W => Hid (Below w.heap.size w W ∧ RowC W A k f ∧ BxM w1.heap.size B (k + 1) cap M W)) (Lib.hid ⟨hb.alloc hb.size _, hrow.below ((Below.refl _ _).alloc (Nat.le_refl _) _), by simp, by intro o; simp [go_sem], hom.rm.below ((Below.refl _ _).alloc (Nat.le_refl _) _)⟩) ?_
  obtain ⟨b1, hb1⟩ : ∃ b, w1.heap.size = b := ⟨_, rfl⟩
  simp only [hb1]
  clear AR hb hcap hom hbase hrow hA hf hkeeps hfit HKM hb1 w1
  intro W1 H1
  have AR2 := around2_c av lv cv zv al ll cl zl W1 (HV.out.1.below H1.out.1) (HV.out.2.below H1.out.1)
  go_upto_region 3 with (go_at_call 14; refine AR2.mono ?_; rintro e w2 ⟨hb2, k2, f2, A2, c2, base2, B2, R2, C2, cap2, M2, hk62, rfl, hcap2, hom2, hbase2, hrow2, hA2, hf2, hkeeps2, hfit2, hkm2, hfe2⟩; have HKM2 := Lib.hid (And.intro hkm2 hfe2); clear hkm2 hfe2)
  obtain rfl : k = k2 := by have := HX.out.2.2.2.1; have := HKM2.out.1; omega
  have HX2 : Hid (Z.Keeps (ext f) M2 (k + 1) ∧ Z.Fit M2 (k + 1)) := Lib.hid ⟨fun i j hi hj h => by
    have e : ∀ p, p < k + 1 → ext f p = ext f2 p := fun p hp => by
      unfold ext
      split
      · rfl
      · rw [HX.out.2.2.2.2 _ (by omega), HKM2.out.2 _ (by omega)]
    rw [e i hi, e j hj]
    exact hkeeps2 i j hi hj h, hfit2⟩
  refine at_world (fun W => Hid (SdIn w b1 w2.heap.size B B2 (k + 1) cap cap2 M M2 A k f W)) ?_ ?_
  · have ha : Below w2.heap.size w2 (w2.alloc (.cells #[.slice (some ⟨B2, 0, none⟩) (k + 1) cap2] 24)) := (Below.refl _ _).alloc (Nat.le_refl _) _
    have hw := hb2.trans (ha.mono hb2.size)
    exact Lib.hid ⟨below_next H1.out.1 H1.out.1.size hw, H1.out.2.2.2.2.below hw, hom2.rm.below ha, H1.out.2.1.below hw, Nat.lt_of_lt_of_le H1.out.2.2.1 hw.size, by simp, fun o => (hw.cell (p := ⟨b1, o, none⟩) H1.out.2.2.1).trans (H1.out.2.2.2.1 o), by intro o; simp [go_sem]⟩
  obtain ⟨b2, hb2e⟩ : ∃ b, w2.heap.size = b := ⟨_, rfl⟩
  simp only [hb2e]
  clear AR2 H1 hb2 hcap2 hom2 hbase2 hrow2 hA2 hf2 hkeeps2 hfit2 HKM2 HV hk62 hb2e w2 W1
  intro W2 H2
  by_cases h2 : k = 0
  · have g1 : ((k : Int) == 0) = true := by simp; omega
    have g1' : decide (k = 0) = true := decide_eq_true (by omega)
    clear h2
    go_wp2_with (go_at_call 11; refine (awake16_c _).mono ?_; rintro e w' ⟨rfl, hb⟩)
    go_ret
    exact ⟨rfl, below_next H2.out.1 H2.out.1.size hb⟩
  have g1 : ((k : Int) == 0) = false := by simp; omega
  have g1' : decide (k = 0) = false := decide_eq_false (by omega)
  have hk2 : 1 ≤ k := by omega
  clear h2
  go_wp2_with fail
  go_loopw [11, 12] (fun v i wr => ∃ t : Nat, t ≤ k ∧ i = .int .i64 t ∧ wr.ownsRow W2.heap.size 3 1 v t ((List.range t).map fun _ => Value.int .i64 3) ∧ Below W2.heap.size W2 wr) (fun _ i _ => k - (intOf i).toNat)
  case atStart => exact ⟨0, by omega, rfl, own_nil _ _ _, Below.refl _ _⟩
  case round =>
    obtain ⟨t, ht, rfl, hown, hb⟩ := hrel
    have HO := Lib.hid hown
    have HB := Lib.hid hb
    have hs0 := hb.size
    clear hown hb
    obtain ⟨wo, rfl⟩ : ∃ wo : World, wo = wr := ⟨_, rfl⟩
    obtain ⟨va, rfl⟩ : ∃ va : Value, va = u11 := ⟨_, rfl⟩
    by_cases hlt : t < k
    · go_wp2_with (at_builtin; refine wpList_append_own_at _ rfl (.tmp 40) (.tmp 41) 30 rfl W2.heap.size 3 i0 (.int .i64 0) 1 8 Try.underlying30 HI.out.1 HI.out.2.1 HI.out.2.2.1 HI.out.2.2.2 rfl (by omega) va t _ (by rfl) (own_below HO.out ((Below.refl _ _).alloc (Nat.le_refl _) _)) ⟨wo.heap.size, 0, none⟩ 1 1 [Value.int .i64 3] (by rfl) rfl (news_one _ _ _) (by simp [Value.oneCell']) (by unfold maxLen; omega) (by omega) (by simp; omega) ?_; intro v2 w2 hown2 hg2 _ hat2; have HN := Lib.hid (own_snoc (f := fun _ => Value.int .i64 3) hown2 rfl); have HB2 : Hid (Below W2.heap.size W2 w2) := Lib.hid ((HB.out.alloc hs0 _).grown hg2 (by simp; omega) (fun q hq => (own_blk HO.out q hq).1)); clear hown2 hg2 hat2)
      all_goals exact ⟨⟨t + 1, by omega, by go_num, HN.out, HB2.out⟩, by simp [intOf]; omega⟩
    · obtain rfl : t = k := by omega
      obtain ⟨At, ct, rfl, hrt, _⟩ := own_rowc (f := fun _ => 3) HO.out (by omega)
      have HT := Lib.hid hrt
      have H3 := Lib.hid (H2.out.below HB.out)
      have HD0 := Lib.hid (below_next H2.out.1 H2.out.1.size HB.out)
      clear hrt HO HB H2 ht hlt hs0 HI
      obtain ⟨W3, rfl⟩ : ∃ W3 : World, W3 = wo := ⟨_, rfl⟩
      have hn1 : 1 ≤ t + 1 := by omega
      have hr1 := H3.out.2.1
      have hr2 := H3.out.2.2.1
      have k1 := H3.out.2.2.2.2.2.2.1
      have k2 := H3.out.2.2.2.2.2.2.2
      go_wp2_with fail
      refine (zjoin_c ⟨B, 0, none⟩ ⟨B2, 0, none⟩ (t + 1) cap cap2 M M2 _ hn1 (by omega) hr1 hr2).mono ?_
      rintro e w4 ⟨Bj, Rj, Cj, capj, rfl, hcapj, homj, hbj⟩
      go_upto_region 11 with fail
      have KJ := Lib.hid (join_keeps (b := M2) HX.out.2.1)
      have LJ : Hid (matLe M (opM max (Z.clampM M) M2) (t + 1) = true ∧ matLe M2 (opM max (Z.clampM M) M2) (t + 1) = true) := Lib.hid ⟨decide_eq_true (fun i hi j hj => by have := Z.clamp_le HX.out.2.2.1 i j hi hj; unfold opM; omega), decide_eq_true (fun i hi j hj => by unfold opM; omega)⟩
      obtain ⟨J, hJ⟩ : ∃ J, opM max (Z.clampM M) M2 = J := ⟨_, rfl⟩
      rw [hJ] at homj KJ LJ
      clear hJ
      refine at_world (fun W => Hid (SdIn w b1 b2 B B2 (t + 1) cap cap2 M M2 A t f W ∧ RowC W At t (fun _ => 3) ∧ BxM w4.heap.size Bj (t + 1) capj J W)) ?_ ?_
      · have ha : Below w4.heap.size w4 (w4.alloc (.cells #[.slice (some ⟨Bj, 0, none⟩) (t + 1) capj] 24)) := (Below.refl _ _).alloc (Nat.le_refl _) _
        have hw := hbj.trans (ha.mono hbj.size)
        exact Lib.hid ⟨H3.out.below hw, HT.out.below hw, by simp, by intro o; simp [go_sem], homj.rm.below ha⟩
      obtain ⟨bj, hbje⟩ : ∃ b, w4.heap.size = b := ⟨_, rfl⟩
      simp only [hbje]
      clear hr1 hr2 k1 k2 hcapj homj hbj H3 HT hbje w4
      intro W5 H5
      have hr1 := H5.out.1.2.1
      have hr2 := H5.out.1.2.2.1
      have k1 := H5.out.1.2.2.2.2.2.2.1
      have k2 := H5.out.1.2.2.2.2.2.2.2
      go_upto_region 12 with (go_at_call 27; refine (zmeet_c ⟨B, 0, none⟩ ⟨B2, 0, none⟩ (t + 1) cap cap2 M M2 _ hn1 (by omega) hr1 hr2 HX2.out.2).mono ?_; rintro e w6 ⟨hbm, ⟨ok, Bm, Rm, Cm, capm, rfl, hcapm, homm⟩ | ⟨ok, rfl⟩⟩)
      rotate_left
      · rw [(meet_keeps HX.out.2.1 HX2.out.1).ok] at ok; cases ok
      have KM := Lib.hid (meet_keeps HX.out.2.1 HX2.out.1).close
      have LM : Hid (matLe (Z.closeM (opM min (Z.clampM M) M2) (t + 1)) M (t + 1) = true ∧ matLe (Z.closeM (opM min (Z.clampM M) M2) (t + 1)) M2 (t + 1) = true) := Lib.hid ⟨decide_eq_true (fun i hi j hj => by have := Z.clamp_le HX.out.2.2.1 i j hi hj; have := closeM_le (opM min (Z.clampM M) M2) (t + 1) i j; unfold opM at *; omega), decide_eq_true (fun i hi j hj => by have := closeM_le (opM min (Z.clampM M) M2) (t + 1) i j; unfold opM at *; omega)⟩
      obtain ⟨E, hE⟩ : ∃ E, Z.closeM (opM min (Z.clampM M) M2) (t + 1) = E := ⟨_, rfl⟩
      rw [hE] at homm KM LM
      clear hE ok
      refine at_world (fun W => Hid (SdIn w b1 b2 B B2 (t + 1) cap cap2 M M2 A t f W ∧ RowC W At t (fun _ => 3) ∧ BxM bj Bj (t + 1) capj J W ∧ BxM w6.heap.size Bm (t + 1) capm E W)) ?_ ?_
      · have ha : Below w6.heap.size w6 (w6.alloc (.cells #[.slice (some ⟨Bm, 0, none⟩) (t + 1) capm] 24)) := (Below.refl _ _).alloc (Nat.le_refl _) _
        have hw := hbm.trans (ha.mono hbm.size)
        exact Lib.hid ⟨H5.out.1.below hw, H5.out.2.1.below hw, H5.out.2.2.below hw, by simp, by intro o; simp [go_sem], homm.rm.below ha⟩
      obtain ⟨bm, hbme⟩ : ∃ b, w6.heap.size = b := ⟨_, rfl⟩
      simp only [hbme]
      clear hr1 hr2 k1 k2 hcapm homm hbm H5 hbme w6 W5
      intro W7 H7
      have hr1 := H7.out.1.2.1
      have hrj := H7.out.2.2.1.2.2
      have hrt := H7.out.2.1
      have k1 := H7.out.1.2.2.2.2.2.2.1
      have kj := H7.out.2.2.1.2.1
      have TK : Hid (Z.Keeps (ext f) (Z.closeM (topM (fun _ => 3) t) (t + 1)) (t + 1)) := Lib.hid (topX_keeps (X := ext f) (n := t + 1) rfl (fun i hi => ext_bd HX.out.1 (i := i) (by omega)) (fun _ _ => rfl)).close
      go_upto_region 13 with (go_at_call 29; refine (zwiden_c ⟨B, 0, none⟩ ⟨Bj, 0, none⟩ (t + 1) cap capj M J At t ct (fun _ => 3) _ rfl (by omega) hr1 hrj hrt).mono ?_; rintro e w8 ⟨hbw, ⟨ok, Bw, Rw, Cw, capw, rfl, hcapw, homw⟩ | ⟨ok, rfl⟩⟩)
      rotate_left
      · rw [(wid_keeps (b := J) HX.out.2.1 TK.out).ok] at ok; cases ok
      have KW := Lib.hid (wid_keeps (b := J) HX.out.2.1 TK.out).close
      obtain ⟨V, hV⟩ : ∃ V, Z.closeM (widM (Z.clampM M) J (Z.closeM (topM (fun _ => 3) t) (t + 1))) (t + 1) = V := ⟨_, rfl⟩
      rw [hV] at homw KW
      clear hV ok
      refine at_world (fun W => Hid (SdIn w b1 b2 B B2 (t + 1) cap cap2 M M2 A t f W ∧ RowC W At t (fun _ => 3) ∧ BxM bj Bj (t + 1) capj J W ∧ BxM bm Bm (t + 1) capm E W ∧ BxM w8.heap.size Bw (t + 1) capw V W)) ?_ ?_
      · have ha : Below w8.heap.size w8 (w8.alloc (.cells #[.slice (some ⟨Bw, 0, none⟩) (t + 1) capw] 24)) := (Below.refl _ _).alloc (Nat.le_refl _) _
        have hw := hbw.trans (ha.mono hbw.size)
        exact Lib.hid ⟨H7.out.1.below hw, H7.out.2.1.below hw, H7.out.2.2.1.below hw, H7.out.2.2.2.below hw, by simp, by intro o; simp [go_sem], homw.rm.below ha⟩
      obtain ⟨bw, hbwe⟩ : ∃ b, w8.heap.size = b := ⟨_, rfl⟩
      simp only [hbwe]
      clear hr1 hrj hrt k1 kj hcapw homw hbw H7 hbwe w8 W7
      intro W H
      have HS := H.out.1
      have hrt := H.out.2.1
      have hxb : ∀ j, j < t → -2251799813685248 ≤ f j ∧ f j ≤ 2251799813685248 := fun j hj => by have := HX.out.1 j hj; omega
      have HAS : ∀ (B0 cap0 : Nat) (M0 : Z.M), RM W ⟨B0, 0, none⟩ (t + 1) M0 → Z.Keeps (ext f) M0 (t + 1) → ∀ W', Below W.heap.size W W' → Calls Try.prog 15 #[.agg #[.slice (some ⟨B0, 0, none⟩) (t + 1) cap0], .slice A t c0] W' fun e w' => e = .returned (.bool true) ∧ Below W'.heap.size W' w' := fun B0 cap0 M0 h1 h2 W' hb => by
        have := zhas_c ⟨B0, 0, none⟩ (t + 1) cap0 M0 A t c0 f W' hn1 (by omega) (h1.below hb) (HS.2.2.2.1.below hb) (by omega) hxb
        rw [hasZ_true rfl h2] at this
        exact this
      have LES : ∀ (B0 cap0 B9 cap9 : Nat) (M0 M9 : Z.M), RM W ⟨B0, 0, none⟩ (t + 1) M0 → RM W ⟨B9, 0, none⟩ (t + 1) M9 → matLe M0 M9 (t + 1) = true → ∀ W', Below W.heap.size W W' → Calls Try.prog 31 #[.agg #[.slice (some ⟨B0, 0, none⟩) (t + 1) cap0], .agg #[.slice (some ⟨B9, 0, none⟩) (t + 1) cap9]] W' fun e w' => e = .returned (.bool true) ∧ Below W'.heap.size W' w' := fun B0 cap0 B9 cap9 M0 M9 h1 h2 h3 W' hb => by
        have := zle_c ⟨B0, 0, none⟩ ⟨B9, 0, none⟩ (t + 1) cap0 cap9 M0 M9 W' (by omega) (h1.below hb) (h2.below hb)
        rw [h3] at this
        exact this
      have A1 := Lib.hid (HAS B cap M HS.2.1 HX.out.2.1)
      have A2 := Lib.hid (HAS Bj capj J H.out.2.2.1.2.2 KJ.out)
      have A3 := Lib.hid (HAS Bm capm E H.out.2.2.2.1.2.2 KM.out)
      have A4 := Lib.hid (HAS Bw capw V H.out.2.2.2.2.2.2 KW.out)
      have L1 := Lib.hid (LES B cap Bj capj M J HS.2.1 H.out.2.2.1.2.2 LJ.out.1)
      have L2 := Lib.hid (LES B2 cap2 Bj capj M2 J HS.2.2.1 H.out.2.2.1.2.2 LJ.out.2)
      have L3 := Lib.hid (LES Bm capm B cap E M H.out.2.2.2.1.2.2 HS.2.1 LM.out.1)
      have L4 := Lib.hid (LES Bm capm B2 cap2 E M2 H.out.2.2.2.1.2.2 HS.2.2.1 LM.out.2)
      have HTOP := Lib.hid (fun W' (hb : Below W.heap.size W W') => top_c At t ct (fun _ => 3) W' (hrt.below hb) (by omega))
      have HXB := Lib.hid hxb
      have HSX := Lib.hid HS
      have hs1 := HS.2.2.2.2.1
      have hs2 := HS.2.2.2.2.2.1
      have hsj := H.out.2.2.1.1
      have hsm := H.out.2.2.2.1.1
      have hsw := H.out.2.2.2.2.1
      have k1 := HS.2.2.2.2.2.2.1
      have k2 := HS.2.2.2.2.2.2.2
      have kj := H.out.2.2.1.2.1
      have km := H.out.2.2.2.1.2.1
      have kw := H.out.2.2.2.2.2.1
      have HB := Lib.hid (Below.refl W.heap.size W)
      clear HAS LES hrt hxb HS H
      go_wp2_with (first
        | (go_at_call 15; refine (A1.out _ HB.out).mono ?_; clear A1; rintro e w' ⟨rfl, hb⟩; replace k1 := fun (o : Nat) => (hb.cell (p := ⟨b1, o, none⟩) (by have := HB.out.size; show b1 < _; omega)).trans (k1 o); replace k2 := fun (o : Nat) => (hb.cell (p := ⟨b2, o, none⟩) (by have := HB.out.size; show b2 < _; omega)).trans (k2 o); replace kj := fun (o : Nat) => (hb.cell (p := ⟨bj, o, none⟩) (by have := HB.out.size; show bj < _; omega)).trans (kj o); replace km := fun (o : Nat) => (hb.cell (p := ⟨bm, o, none⟩) (by have := HB.out.size; show bm < _; omega)).trans (km o); replace kw := fun (o : Nat) => (hb.cell (p := ⟨bw, o, none⟩) (by have := HB.out.size; show bw < _; omega)).trans (kw o); replace HB := Lib.hid (below_next HB.out HB.out.size hb); clear hb)
        | (go_at_call 15; refine (A2.out _ HB.out).mono ?_; clear A2; rintro e w' ⟨rfl, hb⟩; replace k1 := fun (o : Nat) => (hb.cell (p := ⟨b1, o, none⟩) (by have := HB.out.size; show b1 < _; omega)).trans (k1 o); replace k2 := fun (o : Nat) => (hb.cell (p := ⟨b2, o, none⟩) (by have := HB.out.size; show b2 < _; omega)).trans (k2 o); replace kj := fun (o : Nat) => (hb.cell (p := ⟨bj, o, none⟩) (by have := HB.out.size; show bj < _; omega)).trans (kj o); replace km := fun (o : Nat) => (hb.cell (p := ⟨bm, o, none⟩) (by have := HB.out.size; show bm < _; omega)).trans (km o); replace kw := fun (o : Nat) => (hb.cell (p := ⟨bw, o, none⟩) (by have := HB.out.size; show bw < _; omega)).trans (kw o); replace HB := Lib.hid (below_next HB.out HB.out.size hb); clear hb)
        | (go_at_call 15; refine (A3.out _ HB.out).mono ?_; clear A3; rintro e w' ⟨rfl, hb⟩; replace k1 := fun (o : Nat) => (hb.cell (p := ⟨b1, o, none⟩) (by have := HB.out.size; show b1 < _; omega)).trans (k1 o); replace k2 := fun (o : Nat) => (hb.cell (p := ⟨b2, o, none⟩) (by have := HB.out.size; show b2 < _; omega)).trans (k2 o); replace kj := fun (o : Nat) => (hb.cell (p := ⟨bj, o, none⟩) (by have := HB.out.size; show bj < _; omega)).trans (kj o); replace km := fun (o : Nat) => (hb.cell (p := ⟨bm, o, none⟩) (by have := HB.out.size; show bm < _; omega)).trans (km o); replace kw := fun (o : Nat) => (hb.cell (p := ⟨bw, o, none⟩) (by have := HB.out.size; show bw < _; omega)).trans (kw o); replace HB := Lib.hid (below_next HB.out HB.out.size hb); clear hb)
        | (go_at_call 15; refine (A4.out _ HB.out).mono ?_; clear A4; rintro e w' ⟨rfl, hb⟩; replace k1 := fun (o : Nat) => (hb.cell (p := ⟨b1, o, none⟩) (by have := HB.out.size; show b1 < _; omega)).trans (k1 o); replace k2 := fun (o : Nat) => (hb.cell (p := ⟨b2, o, none⟩) (by have := HB.out.size; show b2 < _; omega)).trans (k2 o); replace kj := fun (o : Nat) => (hb.cell (p := ⟨bj, o, none⟩) (by have := HB.out.size; show bj < _; omega)).trans (kj o); replace km := fun (o : Nat) => (hb.cell (p := ⟨bm, o, none⟩) (by have := HB.out.size; show bm < _; omega)).trans (km o); replace kw := fun (o : Nat) => (hb.cell (p := ⟨bw, o, none⟩) (by have := HB.out.size; show bw < _; omega)).trans (kw o); replace HB := Lib.hid (below_next HB.out HB.out.size hb); clear hb)
        | (go_at_call 31; refine (L1.out _ HB.out).mono ?_; clear L1; rintro e w' ⟨rfl, hb⟩; replace k1 := fun (o : Nat) => (hb.cell (p := ⟨b1, o, none⟩) (by have := HB.out.size; show b1 < _; omega)).trans (k1 o); replace k2 := fun (o : Nat) => (hb.cell (p := ⟨b2, o, none⟩) (by have := HB.out.size; show b2 < _; omega)).trans (k2 o); replace kj := fun (o : Nat) => (hb.cell (p := ⟨bj, o, none⟩) (by have := HB.out.size; show bj < _; omega)).trans (kj o); replace km := fun (o : Nat) => (hb.cell (p := ⟨bm, o, none⟩) (by have := HB.out.size; show bm < _; omega)).trans (km o); replace kw := fun (o : Nat) => (hb.cell (p := ⟨bw, o, none⟩) (by have := HB.out.size; show bw < _; omega)).trans (kw o); replace HB := Lib.hid (below_next HB.out HB.out.size hb); clear hb)
        | (go_at_call 31; refine (L2.out _ HB.out).mono ?_; clear L2; rintro e w' ⟨rfl, hb⟩; replace k1 := fun (o : Nat) => (hb.cell (p := ⟨b1, o, none⟩) (by have := HB.out.size; show b1 < _; omega)).trans (k1 o); replace k2 := fun (o : Nat) => (hb.cell (p := ⟨b2, o, none⟩) (by have := HB.out.size; show b2 < _; omega)).trans (k2 o); replace kj := fun (o : Nat) => (hb.cell (p := ⟨bj, o, none⟩) (by have := HB.out.size; show bj < _; omega)).trans (kj o); replace km := fun (o : Nat) => (hb.cell (p := ⟨bm, o, none⟩) (by have := HB.out.size; show bm < _; omega)).trans (km o); replace kw := fun (o : Nat) => (hb.cell (p := ⟨bw, o, none⟩) (by have := HB.out.size; show bw < _; omega)).trans (kw o); replace HB := Lib.hid (below_next HB.out HB.out.size hb); clear hb)
        | (go_at_call 31; refine (L3.out _ HB.out).mono ?_; clear L3; rintro e w' ⟨rfl, hb⟩; replace k1 := fun (o : Nat) => (hb.cell (p := ⟨b1, o, none⟩) (by have := HB.out.size; show b1 < _; omega)).trans (k1 o); replace k2 := fun (o : Nat) => (hb.cell (p := ⟨b2, o, none⟩) (by have := HB.out.size; show b2 < _; omega)).trans (k2 o); replace kj := fun (o : Nat) => (hb.cell (p := ⟨bj, o, none⟩) (by have := HB.out.size; show bj < _; omega)).trans (kj o); replace km := fun (o : Nat) => (hb.cell (p := ⟨bm, o, none⟩) (by have := HB.out.size; show bm < _; omega)).trans (km o); replace kw := fun (o : Nat) => (hb.cell (p := ⟨bw, o, none⟩) (by have := HB.out.size; show bw < _; omega)).trans (kw o); replace HB := Lib.hid (below_next HB.out HB.out.size hb); clear hb)
        | (go_at_call 31; refine (L4.out _ HB.out).mono ?_; clear L4; rintro e w' ⟨rfl, hb⟩; replace k1 := fun (o : Nat) => (hb.cell (p := ⟨b1, o, none⟩) (by have := HB.out.size; show b1 < _; omega)).trans (k1 o); replace k2 := fun (o : Nat) => (hb.cell (p := ⟨b2, o, none⟩) (by have := HB.out.size; show b2 < _; omega)).trans (k2 o); replace kj := fun (o : Nat) => (hb.cell (p := ⟨bj, o, none⟩) (by have := HB.out.size; show bj < _; omega)).trans (kj o); replace km := fun (o : Nat) => (hb.cell (p := ⟨bm, o, none⟩) (by have := HB.out.size; show bm < _; omega)).trans (km o); replace kw := fun (o : Nat) => (hb.cell (p := ⟨bw, o, none⟩) (by have := HB.out.size; show bw < _; omega)).trans (kw o); replace HB := Lib.hid (below_next HB.out HB.out.size hb); clear hb)
        | (go_at_call 24; refine (HTOP.out _ HB.out).mono ?_; rintro e wt ⟨Bt, Rt, Ct, capt, rfl, hcapt, homt, hb⟩; replace k1 := fun (o : Nat) => (hb.cell (p := ⟨b1, o, none⟩) (by have := HB.out.size; show b1 < _; omega)).trans (k1 o); replace k2 := fun (o : Nat) => (hb.cell (p := ⟨b2, o, none⟩) (by have := HB.out.size; show b2 < _; omega)).trans (k2 o); replace kj := fun (o : Nat) => (hb.cell (p := ⟨bj, o, none⟩) (by have := HB.out.size; show bj < _; omega)).trans (kj o); replace km := fun (o : Nat) => (hb.cell (p := ⟨bm, o, none⟩) (by have := HB.out.size; show bm < _; omega)).trans (km o); replace kw := fun (o : Nat) => (hb.cell (p := ⟨bw, o, none⟩) (by have := HB.out.size; show bw < _; omega)).trans (kw o); replace HB := Lib.hid (below_next HB.out HB.out.size hb); have hasT := zhas_c ⟨Bt, 0, none⟩ (t + 1) capt _ A t c0 f wt hn1 (by omega) homt.rm (HSX.out.2.2.2.1.below HB.out) (by omega) HXB.out; rw [hasZ_true rfl TK.out] at hasT; have AT := Lib.hid hasT; clear hb hasT homt hcapt)
        | (go_at_call 15; refine (AT.out).mono ?_; rintro e w' ⟨rfl, hb⟩; replace HB := Lib.hid (below_next HB.out HB.out.size hb); clear hb)
        | (go_at_call 11; refine (awake16_c _).mono ?_; rintro e w' ⟨rfl, hb⟩; replace HB := Lib.hid (below_next HB.out HB.out.size hb); clear hb))
      go_ret
      exact ⟨rfl, below_next HSX.out.1 HSX.out.1.size HB.out⟩
end Go.Proofs.Ytnopjijhbflfdaa.C
