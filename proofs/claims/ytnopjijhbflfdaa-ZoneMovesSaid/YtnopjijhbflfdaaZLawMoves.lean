/- ZoneMoves: walk. -/
import Derived.Test.YtnopjijhbflfdaaZMoves
namespace Go.Proofs.Ytnopjijhbflfdaa.C
open Go.RowKit
set_option linter.unusedSimpArgs false
set_option linter.unusedVariables false
/-- The zone and the numbers of Around. -/
def MvIn (w : World) (b1 B n cap : Nat) (M : Z.M) (A : Option Addr) (k : Nat) (f : Nat → Int) (W : World) : Prop :=
  Below w.heap.size w W ∧ RM W ⟨B, 0, none⟩ n M ∧ RowC W A k f ∧ b1 < W.heap.size ∧ (∀ o, W.cell? ⟨b1, o, none⟩ = [Value.slice (some ⟨B, 0, none⟩) n cap][o]?)
theorem MvIn.below {w : World} {b1 B n cap : Nat} {M : Z.M} {A : Option Addr} {k : Nat} {f : Nat → Int} {W W' : World} (h : MvIn w b1 B n cap M A k f W) (hb : Below W.heap.size W W') : MvIn w b1 B n cap M A k f W' :=
  ⟨below_next h.1 h.1.size hb, h.2.1.below hb, h.2.2.1.below hb, Nat.lt_of_lt_of_le h.2.2.2.1 hb.size, fun o => (hb.cell (p := ⟨b1, o, none⟩) h.2.2.2.1).trans (h.2.2.2.2 o)⟩
/-- A box with a zone whose bounds X keeps. -/
def BoxIn (b n : Nat) (X : Nat → Int) (W : World) : Prop := b < W.heap.size ∧ ∃ B cap M, (∀ o, W.cell? ⟨b, o, none⟩ = [Value.slice (some ⟨B, 0, none⟩) n cap][o]?) ∧ RM W ⟨B, 0, none⟩ n M ∧ Z.Keeps X M n
theorem BoxIn.below {b n : Nat} {X : Nat → Int} {W W' : World} (h : BoxIn b n X W) (hb : Below W.heap.size W W') : BoxIn b n X W' := by
  obtain ⟨h1, B, cap, M, h2, h3, h4⟩ := h
  exact ⟨Nat.lt_of_lt_of_le h1 hb.size, B, cap, M, fun o => (hb.cell (p := ⟨b, o, none⟩) h1).trans (h2 o), h3.below hb, h4⟩
/-- A row of the call's own. -/
def OwnIn (base g k : Nat) (f : Nat → Int) (W : World) : Prop := base ≤ g ∧ g < W.heap.size ∧ (∀ j, j < k → W.cell? ⟨g, j, none⟩ = some (.int .i64 (f j))) ∧ ∀ j, j < k → W.frozen? ⟨g, j, none⟩ = false
theorem OwnIn.rowc {base g k : Nat} {f : Nat → Int} {W : World} (h : OwnIn base g k f W) (hk : k ≤ 1000) : RowC W (some ⟨g, 0, none⟩) k f :=
  ⟨by omega, fun _ => ⟨_, rfl, fun j hj => by rw [addr_plain]; exact h.2.2.1 j hj⟩⟩
theorem OwnIn.below {base g k : Nat} {f : Nat → Int} {W W' : World} (h : OwnIn base g k f W) (hb : Below W.heap.size W W') : OwnIn base g k f W' :=
  ⟨h.1, Nat.lt_of_lt_of_le h.2.1 hb.size, fun j hj => (hb.cell (p := ⟨g, j, none⟩) h.2.1).trans (h.2.2.1 j hj), fun j hj => (hb.frozen (p := ⟨g, j, none⟩) h.2.1).trans (h.2.2.2 j hj)⟩
theorem OwnIn.set {base g k : Nat} {f : Nat → Int} {W : World} (h : OwnIn base g k f W) {a : Nat} (ha : a < k) (v : Int) : OwnIn base g k (updf f a v) (W.setCell ⟨g, a, none⟩ (.int .i64 v)) := by
  refine ⟨h.1, by simpa using h.2.1, fun j hj => ?_, fun j hj => by rw [World.frozen?_setCell]; exact h.2.2.2 j hj⟩
  unfold updf
  by_cases e : j = a
  · subst e
    rw [if_pos rfl]
    exact World.cell?_setCell_same _ _ _ (h.2.2.1 j ha)
  · rw [if_neg e, World.cell?_setCell_other _ _ _ _ (fun q => e (by injection q with _ q; exact q.symm))]
    exact h.2.2.1 j hj
/-- A store into a block from base on leaves what is older alone. -/
theorem MvIn.store {w : World} {b1 B n cap : Nat} {M : Z.M} {A : Option Addr} {k : Nat} {f : Nat → Int} {W W' : World} (h : MvIn w b1 B n cap M A k f W) (hb : Below W.heap.size W W') {g o : Nat} (hg : W.heap.size ≤ g) (v : Value) : MvIn w b1 B n cap M A k f (W'.setCell ⟨g, o, none⟩ v) :=
  h.below (hb.setCell hg v)
set_option maxRecDepth 100000 in
set_option maxHeartbeats 12800000 in
theorem zoneMoves_c (av : Option Addr) (lv cv : Nat) (zv : List Int) (ak : Option Addr) (lk ck : Nat) (zk : List Int) (i j c v : Int) (w : World) (hv : IntRow w .i16 av lv zv) (hk : IntRow w .u8 ak lk zk)
    (hi : 0 ≤ i ∧ i ≤ 255) (hj : 0 ≤ j ∧ j ≤ 255) (hc : -128 ≤ c ∧ c ≤ 127) (hw : -32768 ≤ v ∧ v ≤ 32767) :
    Calls Try.prog 5 #[.slice av lv cv, .slice ak lk ck, .int .u8 i, .int .u8 j, .int .i8 c, .int .i16 v] w (BoolPost true w) := by
  have AR := around_c av lv cv zv ak lk ck zk w hv hk
  clear hv hk
  obtain ⟨i0, hii, hz⟩ := Option.map_eq_some_iff.1 infoI
  simp only [Prod.mk.injEq] at hz
  have HI := Lib.hid (And.intro hii hz)
  clear hii hz
  go_enter Try.func5, Try.ntmps5
  go_upto_region 2 with (go_at_call 14; refine AR.mono ?_; rintro e w1 ⟨hb, k, f, A, c0, base, B, R, C, cap, M, hk6, rfl, hcap, hom, hbase, hrow, hA, hf, hkeeps, hfit⟩)
  have HX := Lib.hid (And.intro hf (And.intro hkeeps hfit))
  refine at_world (fun W => Hid (MvIn w w1.heap.size B (k + 1) cap M A k f W)) (Lib.hid ⟨hb.alloc hb.size _, hom.rm.below ((Below.refl _ _).alloc (Nat.le_refl _) _), hrow.below ((Below.refl _ _).alloc (Nat.le_refl _) _), by simp, by intro o; simp [go_sem]⟩) ?_
  obtain ⟨b1, hb1⟩ : ∃ b, w1.heap.size = b := ⟨_, rfl⟩
  simp only [hb1]
  clear AR hb hcap hom hbase hrow hA hf hkeeps hfit hb1 w1
  intro W1 H1
  by_cases h2 : k = 0
  · have g1 : ((k : Int) == 0) = true := by simp; omega
    have g1' : decide (k = 0) = true := decide_eq_true (by omega)
    clear h2
    go_wp2_with (go_at_call 11; refine (awake16_c _).mono ?_; rintro e w' ⟨rfl, hb⟩)
    go_ret
    exact ⟨rfl, below_next H1.out.1 H1.out.1.size hb⟩
  have g1 : ((k : Int) == 0) = false := by simp; omega
  have g1' : decide (k = 0) = false := decide_eq_false (by omega)
  have hk2 : 1 ≤ k := by omega
  clear h2
  obtain ⟨a, ha⟩ : ∃ a : Nat, i % (k : Int) = (a : Int) := ⟨(i % (k : Int)).toNat, by have := Int.emod_nonneg i (b := (k : Int)) (by omega); omega⟩
  obtain ⟨b, hb⟩ : ∃ b : Nat, j % ((k : Int) + 1) = (b : Int) := ⟨(j % ((k : Int) + 1)).toNat, by have := Int.emod_nonneg j (b := (k : Int) + 1) (by omega); omega⟩
  have hak : a < k := by have := Int.emod_lt_of_pos i (b := (k : Int)) (by omega); omega
  have hbk : b < k + 1 := by have := Int.emod_lt_of_pos j (b := (k : Int) + 1) (by omega); omega
  have ei : wrap64 i = i := by unfold wrap64; omega
  have ej : wrap64 j = j := by unfold wrap64; omega
  go_upto_region 4 with fail
  refine region_in (Below W1.heap.size W1) (by kernel_rfl) (by kernel_rfl) (Below.refl _ _).drew (fun inst => ?_)
  iterate 13 (go_big_quiet_step (fail))
  refine wpQuiet_nil ?_
  intro wd hbd
  have HD := Lib.hid (H1.out.below hbd)
  (try simp only [ha, hb])
  clear ha hb ei ej hbd inst g1 g1' H1
  obtain ⟨n, hn⟩ : ∃ n, k + 1 = n := ⟨_, rfl⟩
  have HN := Lib.hid hn
  rw [hn] at HD HX
  have hn7 : n ≤ 7 := by omega
  have hn1 : 1 ≤ n := by omega
  clear hn
  obtain ⟨W2, rfl⟩ : ∃ W2 : World, W2 = wd := ⟨_, rfl⟩
  have ec : wrap64 c = c := by unfold wrap64; omega
  have ev : wrap64 v = v := by unfold wrap64; omega
  -- y
  go_upto_region 6 with (at_builtin; refine wpList_append_src _ rfl (.tmp 48) (.tmp 49) 30 rfl W2.heap.size 3 i0 (.int .i64 0) 1 8 Try.underlying30 HI.out.1 HI.out.2.1 HI.out.2.2.1 HI.out.2.2.2 rfl (by omega) (.slice (some ⟨W2.heap.size, 0, none⟩) 0 0) 0 [] (by rfl) (own_empty W2 3) A k c0 ((List.range k).map fun j => Value.int .i64 (f j)) (by rfl) (by simp) (HD.out.2.2.1.lies.below ((Below.refl _ _).alloc (Nat.le_refl _) _)) (by simp [Value.oneCell']) (by unfold maxLen; omega) (by omega) (by simp) ?_; intro v1 w3 hown hg hat)
  have hb3 : Below W2.heap.size W2 w3 := ((Below.refl _ _).alloc (Nat.le_refl _) _).grown hg (by simp) (by rintro k hk; simp [Value.ownBlock] at hk; omega)
  simp only [Nat.zero_add, List.nil_append] at hown
  obtain ⟨g, cg, rfl, q1, q2, q3, q4, q5⟩ := own_row hown hk2
  have HY3 : Hid (OwnIn W2.heap.size g k f w3) := Lib.hid ⟨q1, q2, q4, fun j _ => q5 j⟩
  have HB3 := Lib.hid hb3
  clear hown q1 q2 q3 q4 q5 hg hat hb3
  obtain ⟨W3, rfl⟩ : ∃ W3 : World, W3 = w3 := ⟨_, rfl⟩
  have ha0 : (0 : Int) ≤ (a : Int) := by omega
  have ha1 : (a : Int) < (k : Int) := by omega
  go_upto_if 52 with fail
  go_cut [] from 51 to 68 (fun wc => Hid (Below W2.heap.size W2 wc ∧ OwnIn W2.heap.size g k (updf f a (ext f b + c)) wc))
  case first =>
    have cy := HY3.out.2.2.1 a hak
    have fy := HY3.out.2.2.2 a hak
    obtain ⟨x0, hx0⟩ : ∃ x, f a = x := ⟨_, rfl⟩
    rw [hx0] at cy
    clear hx0
    by_cases eb : b = 0
    · have g2 : ((b : Int) == 0) = true := by simp; omega
      have HV : Hid (ext f b + c = c) := Lib.hid (by subst eb; unfold ext; simp)
      clear eb
      go_wp2_with fail
      go_meet
      case rel => exact Lib.hid ⟨HB3.out.setCell HY3.out.1 _, by rw [HV.out]; exact HY3.out.set hak c⟩
    · have g2 : ((b : Int) == 0) = false := by simp; omega
      obtain ⟨ad, rfl, hcx⟩ := (HD.out.below HB3.out).2.2.1.2 (by omega)
      have cx := hcx (b - 1) (by omega)
      have HV : Hid (ext f b = f (b - 1)) := Lib.hid (by unfold ext; rw [if_neg eb])
      have bx := HX.out.1 (b - 1) (by omega)
      obtain ⟨x1, hx1⟩ : ∃ x, f (b - 1) = x := ⟨_, rfl⟩
      rw [hx1] at cx bx HV
      have hb0 : (0 : Int) ≤ (b : Int) - 1 := by omega
      have hb1 : (b : Int) - 1 < (k : Int) := by omega
      clear hx1 hcx eb
      go_wp2_with fail
      go_meet
      case rel => exact Lib.hid ⟨HB3.out.setCell HY3.out.1 _, by rw [HV.out]; exact HY3.out.set hak (x1 + c)⟩
  case rest =>
    clear HB3 HY3 W3
    obtain ⟨W4, rfl⟩ : ∃ W4 : World, W4 = wc := ⟨_, rfl⟩
    have H4 := hcut
    clear hcut
    have hbx := ext_bd HX.out.1 (i := b) (by omega)
    obtain ⟨vy, hvy⟩ : ∃ x, ext f b + c = x := ⟨_, rfl⟩
    rw [hvy] at H4
    have hvyb : -65536 ≤ vy ∧ vy ≤ 65536 := by omega
    have HVY := Lib.hid hvy
    clear hvy
    have HM4 := Lib.hid (HD.out.below H4.out.1)
    have k4 := HM4.out.2.2.2.2
    have ecast : ((a + 1 : Nat) : Int) = (a : Int) + 1 := by omega
    have MC : Calls Try.prog 17 #[.agg #[.slice (some ⟨B, 0, none⟩) n cap], .int .i64 ((a : Int) + 1), .int .i64 b, .int .i64 c] W4 (SoundPost (ext (updf f a vy)) n W4) := by
      rw [← ecast]
      exact move_sound ⟨B, 0, none⟩ n cap (a + 1) b c M (ext f) (ext (updf f a vy)) W4 (by omega) HM4.out.2.1 (by have := HN.out; omega) (by omega) (by have := HN.out; omega) (by omega) HX.out.2.1 (fun p hp => by rw [ext_updf, if_neg hp]) (by rw [ext_updf, if_pos rfl]; exact HVY.out.symm)
    clear ecast
    have HMC := Lib.hid MC
    clear MC
    go_upto_region 10 with (go_at_call 17; refine (HMC.out).mono ?_; rintro e w5 ⟨hb5, Bm, capm, Mm, rfl, hrm, hkm⟩)
    refine at_world (fun W => Hid (Below W2.heap.size W2 W ∧ OwnIn W2.heap.size g k (updf f a vy) W ∧ BoxIn w5.heap.size n (ext (updf f a vy)) W)) (Lib.hid ⟨(H4.out.1.trans (hb5.mono H4.out.1.size)).alloc (by have := H4.out.1.size; have := hb5.size; omega) _, (H4.out.2.below hb5).below ((Below.refl _ _).alloc (Nat.le_refl _) _), by simp, Bm, capm, Mm, (by intro o; simp [go_sem]), hrm.below ((Below.refl _ _).alloc (Nat.le_refl _) _), hkm⟩) ?_
    obtain ⟨bm, hbm⟩ : ∃ b, w5.heap.size = b := ⟨_, rfl⟩
    simp only [hbm]
    clear hb5 hrm hkm HMC k4 HM4 H4 hbm w5 W4
    intro W6 H6
    have HM6 := Lib.hid (HD.out.below H6.out.1)
    have k6 := HM6.out.2.2.2.2
    have ecast : ((a + 1 : Nat) : Int) = (a : Int) + 1 := by omega
    have FC : Calls Try.prog 18 #[.agg #[.slice (some ⟨B, 0, none⟩) n cap], .int .i64 ((a : Int) + 1), .int .i64 3] W6 (SoundPost (ext (updf f a v)) n W6) := by
      rw [← ecast]
      exact forget_sound ⟨B, 0, none⟩ n cap (a + 1) M (ext f) (ext (updf f a v)) W6 (by omega) HM6.out.2.1 (by have := HN.out; omega) (by omega) HX.out.2.1 rfl (fun p hp => by rw [ext_updf, if_neg hp]) (by rw [ext_updf, if_pos rfl]; exact hw)
    clear ecast
    have HFC := Lib.hid FC
    clear FC
    go_upto_region 11 with (go_at_call 18; refine (HFC.out).mono ?_; rintro e w7 ⟨hb7, Bf, capf, Mf, rfl, hrf, hkf⟩)
    refine at_world (fun W => Hid (Below W2.heap.size W2 W ∧ OwnIn W2.heap.size g k (updf f a vy) W ∧ BoxIn bm n (ext (updf f a vy)) W ∧ BoxIn w7.heap.size n (ext (updf f a v)) W)) (Lib.hid ⟨(H6.out.1.trans (hb7.mono H6.out.1.size)).alloc (by have := H6.out.1.size; have := hb7.size; omega) _, (H6.out.2.1.below hb7).below ((Below.refl _ _).alloc (Nat.le_refl _) _), (H6.out.2.2.below hb7).below ((Below.refl _ _).alloc (Nat.le_refl _) _), by simp, Bf, capf, Mf, (by intro o; simp [go_sem]), hrf.below ((Below.refl _ _).alloc (Nat.le_refl _) _), hkf⟩) ?_
    obtain ⟨bf, hbf⟩ : ∃ b, w7.heap.size = b := ⟨_, rfl⟩
    simp only [hbf]
    clear hb7 hrf hkf HFC k6 HM6 H6 hbf w7 W6
    intro W8 H8
    -- u
    go_upto_region 12 with (at_builtin; refine wpList_append_src _ rfl (.tmp 86) (.tmp 87) 30 rfl W8.heap.size 3 i0 (.int .i64 0) 1 8 Try.underlying30 HI.out.1 HI.out.2.1 HI.out.2.2.1 HI.out.2.2.2 rfl (by omega) (.slice (some ⟨W8.heap.size, 0, none⟩) 0 0) 0 [] (by rfl) (own_empty W8 3) A k c0 ((List.range k).map fun j => Value.int .i64 (f j)) (by rfl) (by simp) ((HD.out.below H8.out.1).2.2.1.lies.below ((Below.refl _ _).alloc (Nat.le_refl _) _)) (by simp [Value.oneCell']) (by unfold maxLen; omega) (by omega) (by simp) ?_; intro v9 w9 hown hg hat)
    have hb9 : Below W8.heap.size W8 w9 := ((Below.refl _ _).alloc (Nat.le_refl _) _).grown hg (by simp) (by rintro k hk; simp [Value.ownBlock] at hk; omega)
    simp only [Nat.zero_add, List.nil_append] at hown
    obtain ⟨gu, cu, rfl, q1, q2, q3, q4, q5⟩ := own_row hown hk2
    have HU : Hid (OwnIn W8.heap.size gu k f w9) := Lib.hid ⟨q1, q2, q4, fun j _ => q5 j⟩
    have HB9 := Lib.hid hb9
    clear hown q1 q2 q3 q4 q5 hg hat hb9
    have cy := HU.out.2.2.1 a hak
    have fy := HU.out.2.2.2 a hak
    obtain ⟨x0, hx0⟩ : ∃ x, f a = x := ⟨_, rfl⟩
    rw [hx0] at cy
    clear hx0
    go_upto_region 13 with fail
    refine at_world (fun W => Hid (Below W2.heap.size W2 W ∧ OwnIn W2.heap.size g k (updf f a vy) W ∧ BoxIn bm n (ext (updf f a vy)) W ∧ BoxIn bf n (ext (updf f a v)) W ∧ OwnIn W8.heap.size gu k (updf f a v) W)) ?_ ?_
    · have hbs : Below W8.heap.size W8 (w9.setCell ⟨gu, a, none⟩ (.int .i64 v)) := HB9.out.setCell HU.out.1 _
      exact Lib.hid ⟨H8.out.1.trans (hbs.mono H8.out.1.size), H8.out.2.1.below hbs, H8.out.2.2.1.below hbs, H8.out.2.2.2.below hbs, HU.out.set hak v⟩
    obtain ⟨su, hsu⟩ : ∃ s, W8.heap.size = s := ⟨_, rfl⟩
    simp only [hsu]
    clear cy fy x0 HU HB9 H8 hsu w9 W8
    intro W10 H10
    obtain ⟨ad, rfl, hcx⟩ := (HD.out.below H10.out.1).2.2.1.2 (by omega)
    have cx := hcx a hak
    have bxa := HX.out.1 a hak
    have HCX := Lib.hid hcx
    obtain ⟨xa, hxa⟩ : ∃ x, f a = x := ⟨_, rfl⟩
    rw [hxa] at cx bxa
    have HXA := Lib.hid hxa
    clear hcx hxa
    go_upto_if 100 with fail
    go_cut [23] from 99 to 110 (fun vd wc => vd = .int .i64 (ext f b - xa) ∧ Hid (Below W10.heap.size W10 wc))
    case first =>
      by_cases eb : b = 0
      · have g2 : decide ((0 : Int) < (b : Int)) = false := decide_eq_false (by omega)
        have g2' : decide (0 < b) = false := decide_eq_false (by omega)
        have HV : Hid (ext f b - xa = -xa) := Lib.hid (by subst eb; unfold ext; simp)
        have HEB := Lib.hid eb
        clear eb
        go_wp2_with fail
        all_goals first
          | (go_meet; case rel => exact ⟨by rw [HV.out], Lib.hid (Below.refl _ _)⟩)
          | (exfalso; have := HEB.out; omega)
      · have g2 : decide ((0 : Int) < (b : Int)) = true := decide_eq_true (by omega)
        have g2' : decide (0 < b) = true := decide_eq_true (by omega)
        have cx1 := HCX.out (b - 1) (by omega)
        have HV : Hid (ext f b = f (b - 1)) := Lib.hid (by unfold ext; rw [if_neg eb])
        have bx := HX.out.1 (b - 1) (by omega)
        obtain ⟨x1, hx1⟩ : ∃ x, f (b - 1) = x := ⟨_, rfl⟩
        rw [hx1] at cx1 bx HV
        have d1 := fun (x : WIn (Below W10.heap.size W10)) => cell_later x.h cx1
        have d2 := fun (x : WIn (Below W10.heap.size W10)) => cell_later x.h cx
        have hb0 : (0 : Int) ≤ (b : Int) - 1 := by omega
        have hb1 : (b : Int) - 1 < (k : Int) := by omega
        clear hx1 eb cx cx1
        go_upto_region 15 with fail
        refine region_in (Below W10.heap.size W10) (by kernel_rfl) (by kernel_rfl) (Below.refl _ _).drew (fun inst => ?_)
        iterate 11 (go_big_quiet_step (fail))
        refine wpQuiet_nil ?_
        intro wd hbd
        clear d1 d2
        go_wp2_with fail
        go_meet
        case rel => exact ⟨by rw [HV.out], Lib.hid hbd⟩
    case rest =>
      obtain ⟨rfl, HB11⟩ := hcut
      obtain ⟨W11, rfl⟩ : ∃ W11 : World, W11 = wc := ⟨_, rfl⟩
      have H11 : Hid (Below W2.heap.size W2 W11 ∧ OwnIn W2.heap.size g k (updf f a vy) W11 ∧ BoxIn bm n (ext (updf f a vy)) W11 ∧ BoxIn bf n (ext (updf f a v)) W11 ∧ OwnIn su gu k (updf f a v) W11) := Lib.hid ⟨H10.out.1.trans (HB11.out.mono H10.out.1.size), H10.out.2.1.below HB11.out, H10.out.2.2.1.below HB11.out, H10.out.2.2.2.1.below HB11.out, H10.out.2.2.2.2.below HB11.out⟩
      clear HB11 H10 cx HCX W10
      have HDX : Hid (ext f b - ext f (a + 1) = ext f b - xa) := Lib.hid (by rw [show ext f (a + 1) = f a from rfl, HXA.out])
      obtain ⟨d, hd⟩ : ∃ d, ext f b - xa = d := ⟨_, rfl⟩
      have hdb : -131072 ≤ d ∧ d ≤ 131072 := by omega
      rw [hd] at HDX ⊢
      clear hd
      have HM11 := Lib.hid (HD.out.below H11.out.1)
      have k11 := HM11.out.2.2.2.2
      obtain ⟨mx, hmx⟩ : ∃ y : Int, (if (0 : Int) < c then c else 0) = y := ⟨_, rfl⟩
      have hmx1 : 0 ≤ mx ∧ mx ≤ 127 := by rw [← hmx]; split <;> omega
      have ecast : ((a + 1 : Nat) : Int) = (a : Int) + 1 := by omega
      have AC : Calls Try.prog 19 #[.agg #[.slice (some ⟨B, 0, none⟩) n cap], .int .i64 b, .int .i64 ((a : Int) + 1), .int .i64 (d + mx)] W11 (SoundPost (ext f) n W11) := by
        rw [← ecast]
        exact add_sound ⟨B, 0, none⟩ n cap b (a + 1) (d + mx) M (ext f) W11 (by omega) HM11.out.2.1 (by have := HN.out; omega) (by have := HN.out; omega) (by omega) HX.out.2.1 (by rw [HDX.out]; omega)
      clear ecast
      have HAC := Lib.hid AC
      clear AC
      go_upto_region 17 with (go_at_call 19; refine (HAC.out).mono ?_; rintro e w12 ⟨hb12, Bn, capn, Mn, rfl, hrn, hkn⟩)
      refine at_world (fun W => Hid (Below W2.heap.size W2 W ∧ OwnIn W2.heap.size g k (updf f a vy) W ∧ BoxIn bm n (ext (updf f a vy)) W ∧ BoxIn bf n (ext (updf f a v)) W ∧ OwnIn su gu k (updf f a v) W ∧ BoxIn w12.heap.size n (ext f) W)) (Lib.hid ⟨(H11.out.1.trans (hb12.mono H11.out.1.size)).alloc (by have := H11.out.1.size; have := hb12.size; omega) _, (H11.out.2.1.below hb12).below ((Below.refl _ _).alloc (Nat.le_refl _) _), (H11.out.2.2.1.below hb12).below ((Below.refl _ _).alloc (Nat.le_refl _) _), (H11.out.2.2.2.1.below hb12).below ((Below.refl _ _).alloc (Nat.le_refl _) _), (H11.out.2.2.2.2.below hb12).below ((Below.refl _ _).alloc (Nat.le_refl _) _), by simp, Bn, capn, Mn, (by intro o; simp [go_sem]), hrn.below ((Below.refl _ _).alloc (Nat.le_refl _) _), hkn⟩) ?_
      obtain ⟨bn, hbn⟩ : ∃ b, w12.heap.size = b := ⟨_, rfl⟩
      simp only [hbn]
      clear hb12 hrn hkn HAC k11 HM11 H11 hbn hmx hmx1 w12 W11
      intro W13 H13
      have HM13 := Lib.hid (HD.out.below H13.out.1)
      have k13 := HM13.out.2.2.2.2
      have ecast : ((a + 1 : Nat) : Int) = (a : Int) + 1 := by omega
      have BC := zbound_c ⟨B, 0, none⟩ n cap (a + 1) M W13 (by omega) HM13.out.2.1 (by have := HN.out; omega) HX.out.2.2
      rw [ecast] at BC
      have hlo := HX.out.2.1 0 (a + 1) (by omega) (by have := HN.out; omega)
      have hhi := HX.out.2.1 (a + 1) 0 (by have := HN.out; omega) (by omega)
      have hl2 := HX.out.2.2 0 (a + 1) (by omega) (by have := HN.out; omega)
      have hh2 := HX.out.2.2 (a + 1) 0 (by have := HN.out; omega) (by omega)
      have ex1 : ext f (a + 1) = xa := HXA.out
      have ex0 : ext f 0 = 0 := rfl
      rw [ex1, ex0] at hlo hhi
      obtain ⟨lo, hlo'⟩ : ∃ x, -(M 0 (a + 1)) = x := ⟨_, rfl⟩
      obtain ⟨hi', hhi'⟩ : ∃ x, M (a + 1) 0 = x := ⟨_, rfl⟩
      rw [hlo', hhi'] at BC
      have gl : decide (lo ≤ xa) = true := decide_eq_true (by
        by_cases q : M 0 (a + 1) < 1099511627776
        · have := hlo q; omega
        · omega)
      have gh : decide (xa ≤ hi') = true := decide_eq_true (by
        by_cases q : M (a + 1) 0 < 1099511627776
        · have := hhi q; omega
        · omega)
      have HBC := Lib.hid BC
      clear BC hlo hhi hl2 hh2 ex1 ex0 hlo' hhi' ecast
      go_upto_region 18 with (go_at_call 20; refine (HBC.out).mono ?_; rintro e w14 ⟨rfl, hb14⟩)
      refine at_world (fun W => Hid (Below W2.heap.size W2 W ∧ OwnIn W2.heap.size g k (updf f a vy) W ∧ BoxIn bm n (ext (updf f a vy)) W ∧ BoxIn bf n (ext (updf f a v)) W ∧ OwnIn su gu k (updf f a v) W ∧ BoxIn bn n (ext f) W ∧ w14.heap.size < W.heap.size) ∧ (∀ o, W.cell? ⟨w14.heap.size, o, none⟩ = [Value.int .i64 lo, Value.int .i64 hi'][o]?)) ⟨Lib.hid ⟨(H13.out.1.trans (hb14.mono H13.out.1.size)).alloc (by have := H13.out.1.size; have := hb14.size; omega) _, (H13.out.2.1.below hb14).below ((Below.refl _ _).alloc (Nat.le_refl _) _), (H13.out.2.2.1.below hb14).below ((Below.refl _ _).alloc (Nat.le_refl _) _), (H13.out.2.2.2.1.below hb14).below ((Below.refl _ _).alloc (Nat.le_refl _) _), (H13.out.2.2.2.2.1.below hb14).below ((Below.refl _ _).alloc (Nat.le_refl _) _), (H13.out.2.2.2.2.2.below hb14).below ((Below.refl _ _).alloc (Nat.le_refl _) _), by simp⟩, by intro o; simp [go_sem]⟩ ?_
      obtain ⟨bl, hbl⟩ : ∃ b, w14.heap.size = b := ⟨_, rfl⟩
      simp only [hbl]
      clear hb14 HBC k13 HM13 H13 hbl w14 W13
      intro W ⟨HW, kl⟩
      obtain ⟨sm, Bm, capm, Mm, km, rmm, keepm⟩ := HW.out.2.2.1
      obtain ⟨sf, Bf, capf, Mf, kf, rmf, keepf⟩ := HW.out.2.2.2.1
      obtain ⟨sn, Bn, capn, Mn, kn, rmn, keepn⟩ := HW.out.2.2.2.2.2.1
      have hsl := HW.out.2.2.2.2.2.2
      have hrx := (HD.out.below HW.out.1).2.2.1
      obtain ⟨ad2, hae, hcx⟩ := hrx.2 (by omega)
      obtain rfl : ad = ad2 := by injection hae
      have cx := hcx a hak
      rw [HXA.out] at cx
      have dm := fun (x : WIn (Below W.heap.size W)) (o : Nat) => (x.h.cell (p := ⟨bm, o, none⟩) sm).trans (km o)
      have df := fun (x : WIn (Below W.heap.size W)) (o : Nat) => (x.h.cell (p := ⟨bf, o, none⟩) sf).trans (kf o)
      have dn := fun (x : WIn (Below W.heap.size W)) (o : Nat) => (x.h.cell (p := ⟨bn, o, none⟩) sn).trans (kn o)
      have dl := fun (x : WIn (Below W.heap.size W)) (o : Nat) => (x.h.cell (p := ⟨bl, o, none⟩) hsl).trans (kl o)
      have dx := fun (x : WIn (Below W.heap.size W)) => cell_later x.h cx
      have HAS1 : ∀ x : WIn (Below W.heap.size W), Calls Try.prog 15 #[.agg #[.slice (some ⟨Bm, 0, none⟩) n capm], .slice (some ⟨g, 0, none⟩) k cg] x.w fun e w' => e = .returned (.bool true) ∧ Below x.w.heap.size x.w w' := fun x => by
        have := zhas_c ⟨Bm, 0, none⟩ n capm Mm (some ⟨g, 0, none⟩) k cg (updf f a vy) x.w hn1 (by omega) (rmm.below x.h) ((HW.out.2.1.rowc (by omega)).below x.h) (by omega) (fun j hj => by
          unfold updf
          split
          · omega
          · have := HX.out.1 j hj; omega)
        rw [hasZ_true HN.out keepm] at this
        exact this
      have HAS2 : ∀ x : WIn (Below W.heap.size W), Calls Try.prog 15 #[.agg #[.slice (some ⟨Bf, 0, none⟩) n capf], .slice (some ⟨gu, 0, none⟩) k cu] x.w fun e w' => e = .returned (.bool true) ∧ Below x.w.heap.size x.w w' := fun x => by
        have := zhas_c ⟨Bf, 0, none⟩ n capf Mf (some ⟨gu, 0, none⟩) k cu (updf f a v) x.w hn1 (by omega) (rmf.below x.h) ((HW.out.2.2.2.2.1.rowc (by omega)).below x.h) (by omega) (fun j hj => by
          unfold updf
          split
          · omega
          · have := HX.out.1 j hj; omega)
        rw [hasZ_true HN.out keepf] at this
        exact this
      have HAS3 : ∀ x : WIn (Below W.heap.size W), Calls Try.prog 15 #[.agg #[.slice (some ⟨Bn, 0, none⟩) n capn], .slice (some ad) k c0] x.w fun e w' => e = .returned (.bool true) ∧ Below x.w.heap.size x.w w' := fun x => by
        have := zhas_c ⟨Bn, 0, none⟩ n capn Mn (some ad) k c0 f x.w hn1 (by omega) (rmn.below x.h) (hrx.below x.h) (by omega) (fun j hj => by have := HX.out.1 j hj; omega)
        rw [hasZ_true HN.out keepn] at this
        exact this
      have HEND := Lib.hid (below_next HD.out.1 HD.out.1.size HW.out.1)
      clear km kf kn kl rmm rmf rmn keepm keepf keepn hsl hrx hcx cx hae sm sf sn ec ev
      refine region_in (Below W.heap.size W) (by kernel_rfl) (by kernel_rfl) (Below.refl _ _).drew (fun inst => ?_)
      iterate 5 (go_big_quiet_step ((go_at_call 15; exact call_grow (Nat.le_refl _) (HAS1 _))))
      iterate 8 (go_big_quiet_step ((go_at_call 15; exact call_grow (Nat.le_refl _) (HAS2 _))))
      iterate 8 (go_big_quiet_step ((go_at_call 15; exact call_grow (Nat.le_refl _) (HAS3 _))))
      iterate 23 (go_big_quiet_step ((go_at_call 11; exact call_grow (Nat.le_refl _) (awake16_c _))))
      refine wpQuiet_nil ?_
      intro wd hbd
      clear dm df dn dl dx HAS1 HAS2 HAS3
      go_wp2_with fail
      go_ret
      exact ⟨rfl, below_next HEND.out HEND.out.size hbd⟩
end Go.Proofs.Ytnopjijhbflfdaa.C
