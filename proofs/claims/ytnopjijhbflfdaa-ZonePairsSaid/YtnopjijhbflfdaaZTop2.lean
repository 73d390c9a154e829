/- The reference's TopZone and HasZone, l16.types: walks. -/
import Derived.Test.YtnopjijhbflfdaaZTop
import Derived.Test.YtnopjijhbflfdaaZHas
namespace Go.Proofs.Ytnopjijhbflfdaa.C
open Go.RowKit
set_option linter.unusedSimpArgs false
set_option linter.unusedVariables false
theorem topM_half (ts : Nat → Int) (k n : Nat) : Z.Alike (Z.upd (Z.upd (topM ts k) (k + 1) 0 (maxT (ts k))) 0 (k + 1) (-minT (ts k))) (topM ts (k + 1)) n := topM_step ts k n
set_option maxRecDepth 100000 in
set_option maxHeartbeats 6400000 in
theorem topZone_c (A : Option Addr) (q c : Nat) (ts : Nat → Int) (w : World) (h : RowC w A q ts) (hq : q ≤ 100) :
    Calls Try.prog 25 #[.slice A q c] w (NewM w (q + 1) (Z.rCloseM (topM ts q) (q + 1))) := by
  have HR := Lib.hid h
  clear h
  have HBL := Lib.hid (fun W => blank_c q W (by omega))
  obtain ⟨n, hn⟩ : ∃ n, q + 1 = n := ⟨_, rfl⟩
  rw [hn] at HBL
  have HN := Lib.hid hn
  have hn1 : 1 ≤ n := by omega
  have hn2 : n ≤ 101 := by omega
  clear hn
  go_enter Try.func25, Try.ntmps25
  go_upto_region 1 with fail
  refine at_world (fun W => Hid ((Below w.heap.size w W ∧ W.heap.size = w.heap.size + 1) ∧ (∀ o, W.cell? ⟨w.heap.size, o, none⟩ = [Value.slice none 0 0][o]?) ∧ (∀ o, W.frozen? ⟨w.heap.size, o, none⟩ = false))) (Lib.hid ⟨⟨(by repeat' (first | exact Below.refl _ _ | (refine Below.alloc ?_ ?_ _) | (refine Below.setCell ?_ ?_ _) | (refine Below.drew ?_) | (refine below_next ?_ ?_ (by assumption)) | omega | (simp; done) | (simp; omega))), by simp⟩, (by intro o; simp [go_sem]), (by intro o; simp [go_sem])⟩) ?_
  intro W0 H0
  go_upto_region 2 with (go_at_call 36; refine (HBL.out _).mono ?_; rintro e w1 ⟨B, R, C, cap, rfl, hcap, hom, hb⟩)
  refine at_world (fun W => Hid (TopIn w w1.heap.size B R C n cap blankM W)) (Lib.hid (TopIn.start H0.out.1 H0.out.2.1 H0.out.2.2 hom hb)) ?_
  obtain ⟨b3, hb3⟩ : ∃ b, w1.heap.size = b := ⟨_, rfl⟩
  simp only [hb3]
  clear hom hb HBL H0 hb3 w1 W0
  intro W1 H1
  go_wp2_with fail
  go_loopw [4] (fun v wr => ∃ k : Nat, k ≤ q ∧ v = .int .i64 k ∧ TopIn w b3 B R C n cap (topM ts k) wr) (fun v _ => q - (intOf v).toNat)
  case atStart => exact ⟨0, by omega, rfl, H1.out.1, H1.out.2.1.alike (topM_zero ts n), H1.out.2.2⟩
  case round =>
    obtain ⟨k, hk, rfl, htop⟩ := hrel
    have HT := Lib.hid htop
    clear htop
    obtain ⟨wo, rfl⟩ : ∃ wo : World, wo = wr := ⟨_, rfl⟩
    by_cases hlt : k < q
    · obtain ⟨ad, rfl, hc⟩ := (HR.out.below HT.out.1).2 (by omega)
      have ct := hc k hlt
      have hk0 : (0 : Int) ≤ (k : Int) := by omega
      have hk1 : (k : Int) < (q : Int) := by omega
      have HSt := Lib.hid (topM_step ts k n)
      have MX := fun W => r_max_c (ts k) W
      have MN := fun W => r_min_c (ts k) W
      have b1 := maxT_bd (ts k)
      have b2 := minT_bd (ts k)
      obtain ⟨tv, htv⟩ : ∃ x, ts k = x := ⟨_, rfl⟩
      rw [htv] at ct b1 b2 HSt
      simp only [htv] at MX MN
      obtain ⟨x, hx⟩ : ∃ x, maxT tv = x := ⟨_, rfl⟩
      obtain ⟨y, hy⟩ : ∃ x, minT tv = x := ⟨_, rfl⟩
      simp only [hx] at MX b1 HSt
      simp only [hy] at MN b2 HSt
      clear htv hx hy hc
      have hkn : k + 1 < n := by have := HN.out; omega
      have k00 := HT.out.2.2.2.1
      have hl3 := HT.out.2.2.1.2.1
      have c1 := HT.out.2.1.outer (k + 1) hkn
      have c2 := HT.out.2.1.outer 0 (by omega)
      have f3 := HT.out.2.1.frz (k + 1) 0 hkn (by omega)
      have es0 : (0 : Int) ≤ (k : Int) + 1 := by omega
      have es1 : (k : Int) + 1 < (n : Int) := by omega
      have hz1 : (0 : Int) < (n : Int) := by omega
      have hz2 : 0 < n := by omega
      have d1 := fun (x' : WIn (Below wo.heap.size wo)) => cell_later x'.h c1
      have d2 := fun (x' : WIn (Below wo.heap.size wo)) => cell_later x'.h ct
      have d3 := fun (x' : WIn (Below wo.heap.size wo)) (o : Nat) => (x'.h.cell (p := ⟨b3, o, none⟩) hl3).trans (k00 o)
      have HCT := Lib.hid ct
      clear c1 ct k00 c2
      go_upto_region 5 with fail
      refine region_tail 11 (Below wo.heap.size wo) (by kernel_rfl) (by kernel_rfl) (Below.refl _ _).drew (fun inst => ?_)
      simp only [List.take_succ_cons, List.take_zero, List.drop_succ_cons, List.drop_zero]
      iterate 11 (go_big_quiet_step ((go_at_call 48; exact call_same _ (MX _))))
      refine wpQuiet_nil ?_
      intro wd hbd
      have f4 : wd.frozen? ⟨R (k + 1), 0, none⟩ = false := by rw [hbd.frozen (p := ⟨R (k + 1), 0, none⟩) (HT.out.2.1.hR (k + 1) hkn).2.1]; exact f3
      obtain ⟨v4, k4⟩ : ∃ v, wd.cell? ⟨R (k + 1), 0, none⟩ = some v := ⟨_, (HT.out.2.1.below hbd).inner (k + 1) 0 hkn (by omega)⟩
      have hct := cell_later hbd HCT.out
      have HD := Lib.hid hbd
      clear d1 d2 d3 f3 hbd
      go_upto_region 6 with fail
      refine at_world (fun W => Hid (TopIn w b3 B R C n cap (Z.upd (topM ts k) (k + 1) 0 x) W) ∧ W.cell? (ad.add k) = some (.int .i64 tv)) ⟨Lib.hid (HT.out.changed (((Kept.refl R n wo).grow HD.out).setCell hkn 0 _) ((HT.out.2.1.below HD.out).set hkn (by omega) x)), ?_⟩ ?_
      · rw [World.cell?_setCell_far _ _ _ _ (by
          show R (k + 1) ≠ (ad.add k).block
          have h1 := World.block_lt_of_cell? w (ad.add k) (by obtain ⟨ad2, e, hc⟩ := HR.out.2 (by omega); injection e with e; subst e; exact hc k hlt)
          have h2 := (HT.out.2.1.hR (k + 1) hkn).1
          omega)]
        exact hct
      clear f4 k4 v4 hct HCT HD HT hl3
      intro W2 ⟨H2, ct⟩
      have k00 := H2.out.2.2.2.1
      have hl3 := H2.out.2.2.1.2.1
      have c2 := H2.out.2.1.outer 0 (by omega)
      have f3 := H2.out.2.1.frz 0 (k + 1) (by omega) hkn
      have d1 := fun (x' : WIn (Below W2.heap.size W2)) => cell_later x'.h c2
      have d2 := fun (x' : WIn (Below W2.heap.size W2)) => cell_later x'.h ct
      have d3 := fun (x' : WIn (Below W2.heap.size W2)) (o : Nat) => (x'.h.cell (p := ⟨b3, o, none⟩) hl3).trans (k00 o)
      clear ct k00 c2
      refine region_tail 12 (Below W2.heap.size W2) (by kernel_rfl) (by kernel_rfl) (Below.refl _ _).drew (fun inst => ?_)
      simp only [List.take_succ_cons, List.take_zero, List.drop_succ_cons, List.drop_zero]
      iterate 12 (go_big_quiet_step ((go_at_call 49; exact call_same _ (MN _))))
      refine wpQuiet_nil ?_
      intro wd hbd
      have f4 : wd.frozen? ⟨R 0, k + 1, none⟩ = false := by rw [hbd.frozen (p := ⟨R 0, k + 1, none⟩) (H2.out.2.1.hR 0 (by omega)).2.1]; exact f3
      obtain ⟨v4, k4⟩ : ∃ v, wd.cell? ⟨R 0, k + 1, none⟩ = some v := ⟨_, (H2.out.2.1.below hbd).inner 0 (k + 1) (by omega) hkn⟩
      have HD := Lib.hid hbd
      clear d1 d2 d3 f3 hbd
      go_wp2_with fail
      all_goals exact ⟨⟨k + 1, by omega, by go_num, H2.out.changed (((Kept.refl R n W2).grow HD.out).setCell (by omega) (k + 1) _) (((H2.out.2.1.below HD.out).set (by omega) hkn (-y)).alike HSt.out)⟩, by simp [intOf]; omega⟩
    · obtain rfl : k = q := by omega
      have HF := Lib.hid (topM_fit ts k n)
      have HK : Hid (Z.okM (Z.rCloseM (topM ts k) n) n = true) := Lib.hid (by rw [← Z.ok_alike (Z.close_alike (topM_fit ts k n))]; exact (topM_keeps ts k n).clamp.ok)
      obtain ⟨M, hM⟩ : ∃ M, topM ts k = M := ⟨_, rfl⟩
      rw [hM] at HT HF HK
      have HM0 := Lib.hid hM
      clear hM hk hlt H1
      have k00 := HT.out.2.2.2.1
      go_wp2_with fail
      refine (rclose_c ⟨B, 0, none⟩ n cap M _ hn1 (by omega) HT.out.2.1.rm HF.out).mono ?_
      rintro e w2 ⟨hb2, ⟨ok, B2, R2, C2, cap2, rfl, hcap2, hom2⟩ | ⟨ok, rfl⟩⟩
      rotate_left
      · rw [HK.out] at ok; cases ok
      have hl0 : w.heap.size < wo.heap.size := by have := HT.out.2.2.1; omega
      have k3 := fun o => (hb2.cell (p := ⟨w.heap.size, o, none⟩) hl0).trans (HT.out.2.2.2.2.2.1 o)
      have f3 := fun o => (hb2.frozen (p := ⟨w.heap.size, o, none⟩) hl0).trans (HT.out.2.2.2.2.2.2 o)
      have hl2 : w.heap.size < w2.heap.size := by have := hb2.size; omega
      have HP := Lib.hid (And.intro hom2 (below_next HT.out.1 HT.out.1.size hb2))
      have HL0 := Lib.hid hl0
      clear hb2 hom2 ok k00 hl0
      go_wp2_with fail
      obtain rfl := HN.out
      exact bodyPost_ret (v := .agg #[.slice (some ⟨B2, 0, none⟩) (k + 1) cap2]) (by simp [results, Try.results25, go_sem, *]) rfl ⟨B2, R2, C2, cap2, rfl, hcap2, by rw [HM0.out]; exact (((HP.out.1.lower (by have := HL0.out; omega)).keep (w' := w2.setCell ⟨w.heap.size, 0, none⟩ (.slice (some ⟨B2, 0, none⟩) (k + 1) cap2)) (by simp) (Below.heap_setCell _ ⟨w.heap.size, 0, none⟩ _ _ (by have := HP.out.1.hB.1; have := HL0.out; show B2 ≠ w.heap.size; omega)) (fun i hi => Below.heap_setCell _ ⟨w.heap.size, 0, none⟩ _ _ (by have := (HP.out.1.hR i hi).1; have := HL0.out; show R2 i ≠ w.heap.size; omega))).below ((Below.refl _ _).alloc (Nat.le_refl _) _)), (HP.out.2.setCell (by exact Nat.le_refl _) _).alloc (by simp; omega) _⟩
/-- Whether types are few. -/
def TypesPost (n : Nat) (w : World) (e : Ending) (w' : World) : Prop := w = w' ∧ ∃ b, e = .returned (.bool b) ∧ (b = true → n ≤ 7)
set_option maxRecDepth 100000 in
set_option maxHeartbeats 3200000 in
theorem types_c (A : Option Addr) (n c : Nat) (ts : Nat → Int) (w : World) (h : RowC w A n ts) :
    Calls Try.prog 21 #[.slice A n c] w (TypesPost n w) := by
  have hmax := h.1
  have HR := Lib.hid h
  clear h
  go_enter Try.func21, Try.ntmps21
  go_upto_block 0 with fail
  go_cut [] from 4 to 25 (fun wc => w = wc)
  case first =>
    go_wp2_with fail
    go_loop [3] (fun i => ∃ t : Nat, t ≤ n ∧ t ≤ 8 ∧ i = .int .i64 t) (fun i => n - (intOf i).toNat)
    case atStart => exact ⟨0, by omega, by omega, rfl⟩
    case round =>
      obtain ⟨t, ht, ht8, rfl⟩ := hrel
      by_cases hlt : t < n
      · have g1 : decide (t < n) = true := decide_eq_true hlt
        by_cases h8 : t < 8
        · have g2 : decide ((t : Int) < 8) = true := decide_eq_true (by omega)
          obtain ⟨a, rfl, hc⟩ := HR.out.2 (by omega)
          have c1 := hc t hlt
          have ht0 : (0 : Int) ≤ (t : Int) := by omega
          have ht1 : (t : Int) < (n : Int) := by omega
          obtain ⟨x, hx⟩ : ∃ x, ts t = x := ⟨_, rfl⟩
          rw [hx] at c1
          clear hc hx
          by_cases q1 : x < 1
          · have g3 : decide (x < 1) = true := decide_eq_true q1
            clear q1
            go_wp2_with fail
            go_ret
            exact ⟨rfl, false, rfl, fun q => by cases q⟩
          · have g3 : decide (x < 1) = false := decide_eq_false q1
            by_cases q2 : 6 < x
            · have g4 : decide (6 < x) = true := decide_eq_true q2
              clear q1 q2
              go_wp2_with fail
              go_ret
              exact ⟨rfl, false, rfl, fun q => by cases q⟩
            · have g4 : decide (6 < x) = false := decide_eq_false q2
              clear q1 q2
              go_wp2_with fail
              all_goals exact ⟨⟨t + 1, by omega, by omega, by go_num⟩, by simp [intOf]; omega⟩
        · have e8 : t = 8 := by omega
          have g2 : decide ((t : Int) < 8) = false := decide_eq_false (by omega)
          clear e8
          go_wp2_with fail
          go_meet
          case rel => rfl
      · have g1 : decide (t < n) = false := decide_eq_false hlt
        clear hlt
        go_wp2_with fail
        go_meet
        case rel => rfl
  case rest =>
    subst hcut
    go_wp2_with fail
    go_ret
    exact ⟨rfl, _, rfl, fun q => by simp at q; omega⟩
theorem sameNil_c (w : World) : Calls Try.prog 13 #[.agg #[.slice none 0 0], .agg #[.slice none 0 0]] w (BoolPost true w) := by
  go_enter Try.func13, Try.ntmps13
  go_upto_region 1 with fail
  refine at_world (fun W => Hid (Below w.heap.size w W) ∧ (∀ o, W.cell? ⟨w.heap.size, o, none⟩ = [Value.slice none 0 0][o]?) ∧ (∀ o, W.cell? ⟨w.heap.size + 1, o, none⟩ = [Value.slice none 0 0][o]?)) ⟨Lib.hid (by repeat' (first | exact Below.refl _ _ | (refine Below.alloc ?_ ?_ _) | (refine Below.setCell ?_ ?_ _) | (refine Below.drew ?_) | (refine below_next ?_ ?_ (by assumption)) | omega | (simp; done) | (simp; omega))), (by intro o; simp [go_sem]), (by intro o; simp [go_sem])⟩ ?_
  intro W0 ⟨HB, k0, k1⟩
  go_wp2_with fail
  go_loop [5] (fun i => i = .int .i64 0) (fun _ => 0)
  case atStart => rfl
  case round =>
    obtain rfl := hrel
    go_wp2_with fail
    go_ret
    exact ⟨rfl, HB.out⟩
set_option maxRecDepth 100000 in
set_option maxHeartbeats 6400000 in
theorem hasZone_c (a : Addr) (n cap : Nat) (m : Z.M) (A : Option Addr) (k c : Nat) (f : Nat → Int) (w : World) (hn : 1 ≤ n) (hn2 : n ≤ 1000) (hm : RM w a n m) (hr : RowC w A k f) (hk2 : k ≤ 1000)
    (hf : ∀ j, j < k → -2251799813685248 ≤ f j ∧ f j ≤ 2251799813685248) :
    Calls Try.prog 23 #[.agg #[.slice (some a) n cap], .slice A k c] w (BoolPost (hasZ f k m n) w) := by
  have HM := Lib.hid hm
  have HR := Lib.hid hr
  have HF : Hid (∀ j, j < n → k + 1 = n → -2251799813685248 ≤ ext f j ∧ ext f j ≤ 2251799813685248) := Lib.hid (fun j hj e => by
    unfold ext
    split
    · omega
    · exact hf _ (by omega))
  obtain ⟨i0, hi, hz⟩ := Option.map_eq_some_iff.1 infoI
  simp only [Prod.mk.injEq] at hz
  have HI := Lib.hid (And.intro hi hz)
  clear hm hr hf hi hz
  by_cases e : k + 1 = n
  · have g1 : ((k : Int) + 1 != (n : Int)) = false := by simp; omega
    have HE := Lib.hid e
    clear e
    go_enter Try.func23, Try.ntmps23
    go_upto_region 1 with fail
    refine at_world (fun W => Hid (Below w.heap.size w W ∧ w.heap.size < W.heap.size) ∧ (∀ o, W.cell? ⟨w.heap.size, o, none⟩ = [Value.slice (some a) n cap][o]?)) ⟨Lib.hid ⟨(by repeat' (first | exact Below.refl _ _ | (refine Below.alloc ?_ ?_ _) | (refine Below.setCell ?_ ?_ _) | (refine Below.drew ?_) | (refine below_next ?_ ?_ (by assumption)) | omega | (simp; done) | (simp; omega))), by simp⟩, (by intro o; simp [go_sem])⟩ ?_
    intro W0 ⟨HB0, k0⟩
    go_upto_region 4 with (at_builtin; refine wpList_append_src _ rfl (.tmp 15) (.tmp 16) 30 rfl W0.heap.size 3 i0 (.int .i64 0) 1 8 Try.underlying30 HI.out.1 HI.out.2.1 HI.out.2.2.1 HI.out.2.2.2 rfl (by omega) (.slice (some ⟨W0.heap.size, 0, none⟩) 1 1) 1 [.int .i64 0] (by rfl) (own_single W0 3 (.int .i64 0)) A k c ((List.range k).map fun j => Value.int .i64 (f j)) (by rfl) (by simp) ((HR.out.lies.below HB0.out.1).below ((Below.refl _ _).alloc (Nat.le_refl _) _)) (by simp [Value.oneCell']) (by unfold maxLen; omega) (by omega) (by simp) ?_; intro v1 w1 hown hg hat)
    have hb : Below W0.heap.size W0 w1 := ((Below.refl _ _).alloc (Nat.le_refl _) _).grown hg (by simp) (by rintro k hk; simp [Value.ownBlock] at hk; omega)
    rw [ext_list, show 1 + k = n from by have := HE.out; omega, HE.out] at hown
    obtain ⟨g, c2, rfl, q1, q2, q3, q4, q5⟩ := own_row hown hn
    have hx : ExtIn w1 g k f := ⟨q2, fun j hj => q4 j (by have := HE.out; omega)⟩
    refine at_world (fun W => Hid (Below w.heap.size w W ∧ w.heap.size < W.heap.size ∧ ExtIn W g k f) ∧ Hid (∀ o, W.cell? ⟨w.heap.size, o, none⟩ = [Value.slice (some a) n cap][o]?)) ⟨Lib.hid ⟨below_next HB0.out.1 HB0.out.1.size hb, Nat.lt_of_lt_of_le HB0.out.2 hb.size, hx⟩, Lib.hid (fun o => (hb.cell (p := ⟨w.heap.size, o, none⟩) HB0.out.2).trans (k0 o))⟩ ?_
    clear hb hown q1 q2 q3 q4 q5 hg hat k0 HB0 HR HI hx
    intro W1 ⟨HB1, K1⟩
    go_wp2_with fail
    go_loopw [6] (fun i wr => ∃ q : Nat, q ≤ n ∧ i = .int .i64 q ∧ Hid (∀ i j, i < q → j < n → m i j < 1099511627776 → ext f i - ext f j ≤ m i j) ∧ Below W1.heap.size W1 wr) (fun i _ => n - (intOf i).toNat)
    case atStart => exact ⟨0, by omega, rfl, Lib.hid (fun i j hi => absurd hi (by omega)), Below.refl _ _⟩
    case round =>
      obtain ⟨q, hq, rfl, HK, hb⟩ := hrel
      have HB := Lib.hid hb
      have HW := Lib.hid (HB1.out.1.trans (hb.mono HB1.out.1.size))
      clear hb
      by_cases hlt : q < n
      · have hq0 : (0 : Int) ≤ (q : Int) := by omega
        have hq1 : (q : Int) < (n : Int) := by omega
        obtain ⟨wo, rfl⟩ : ∃ wo : World, wo = wr := ⟨_, rfl⟩
        go_wp2_with fail
        go_loopw [7] (fun i wr => ∃ t : Nat, t ≤ n ∧ i = .int .i64 t ∧ Hid (∀ j, j < t → m q j < 1099511627776 → ext f q - ext f j ≤ m q j) ∧ Below W1.heap.size W1 wr) (fun i _ => n - (intOf i).toNat)
        case atStart => exact ⟨0, by omega, rfl, Lib.hid (fun j hj => absurd hj (by omega)), HB.out⟩
        case round =>
          obtain ⟨t, ht, rfl, HL, hb⟩ := hrel
          have HBi := Lib.hid hb
          have HWi := Lib.hid (HB1.out.1.trans (hb.mono HB1.out.1.size))
          by_cases hlu : t < n
          · obtain ⟨R, C, h1, h2⟩ := HM.out.below HWi.out
            have c1 := (h1 q hlt).1
            have c3 := h2 q t hlt hlu
            have HX2 := HB1.out.2.2.below hb
            have k1 := fun o => (hb.cell (p := ⟨w.heap.size, o, none⟩) HB1.out.2.1).trans (K1.out o)
            have hl0 : w.heap.size < wr.heap.size := by have := HB1.out.2.1; have := hb.size; omega
            have d1 := fun (x : WIn (Below wr.heap.size wr)) => cell_later x.h (HX2.2 q (by have := HE.out; omega))
            have d2 := fun (x : WIn (Below wr.heap.size wr)) => cell_later x.h (HX2.2 t (by have := HE.out; omega))
            have d3 := fun (x : WIn (Below wr.heap.size wr)) => cell_later x.h c1
            have d4 := fun (x : WIn (Below wr.heap.size wr)) => cell_later x.h c3
            have d5 := fun (x : WIn (Below wr.heap.size wr)) (o : Nat) => (x.h.cell (p := ⟨w.heap.size, o, none⟩) hl0).trans (k1 o)
            have b1 := HF.out q hlt HE.out
            have b2 := HF.out t hlu HE.out
            have ht0 : (0 : Int) ≤ (t : Int) := by omega
            have ht1 : (t : Int) < (n : Int) := by omega
            obtain ⟨x, hx⟩ : ∃ x, m q t = x := ⟨_, rfl⟩
            obtain ⟨y, hy⟩ : ∃ x, ext f q = x := ⟨_, rfl⟩
            obtain ⟨z, hz⟩ : ∃ x, ext f t = x := ⟨_, rfl⟩
            simp only [hx] at d4
            rw [hy] at b1
            rw [hz] at b2
            simp only [hy] at d1
            simp only [hz] at d2
            have HV := Lib.hid (And.intro hx (And.intro hy hz))
            clear hx hy hz HX2 hb h1 h2 c1 c3 k1
            obtain ⟨wi, rfl⟩ : ∃ wi : World, wi = wr := ⟨_, rfl⟩
            by_cases cx : x < 1099511627776
            · have g2 : decide (x < 1099511627776) = true := decide_eq_true cx
              by_cases cd : x < y - z
              · have g3 : decide (x < y - z) = true := decide_eq_true cd
                have e0 : Hid (hasZ f k m n = false) := Lib.hid (hasZ_false (fun h => by have := h.2 q t hlt hlu; rw [HV.out.1, HV.out.2.1, HV.out.2.2] at this; have := this cx; omega))
                clear cx cd
                go_upto_region 10 with fail
                refine region_in (Below wi.heap.size wi) (by kernel_rfl) (by kernel_rfl) (Below.refl _ _).drew (fun inst => ?_)
                iterate 29 (go_big_quiet_step (fail))
                refine wpQuiet_nil ?_
                intro wd hbd
                clear d1 d2 d3 d4 d5
                go_wp2_with fail
                go_ret
                exact ⟨by rw [e0.out]; rfl, below_next HWi.out HWi.out.size hbd⟩
              · have g3 : decide (x < y - z) = false := decide_eq_false cd
                have HL2 : Hid (∀ j, j < t + 1 → m q j < 1099511627776 → ext f q - ext f j ≤ m q j) := Lib.hid (fun j hj => by
                  by_cases w : j = t
                  · subst w; rw [HV.out.1, HV.out.2.1, HV.out.2.2]; intro _; omega
                  · exact HL.out j (by omega))
                clear cx cd
                go_upto_region 10 with fail
                refine region_in (Below wi.heap.size wi) (by kernel_rfl) (by kernel_rfl) (Below.refl _ _).drew (fun inst => ?_)
                iterate 29 (go_big_quiet_step (fail))
                refine wpQuiet_nil ?_
                intro wd hbd
                clear d1 d2 d3 d4 d5
                go_wp2_with fail
                all_goals exact ⟨⟨t + 1, by omega, by go_num, HL2, HBi.out.trans (hbd.mono HBi.out.size)⟩, by simp [intOf]; omega⟩
            · have g2 : decide (x < 1099511627776) = false := decide_eq_false cx
              have HL2 : Hid (∀ j, j < t + 1 → m q j < 1099511627776 → ext f q - ext f j ≤ m q j) := Lib.hid (fun j hj => by
                by_cases w : j = t
                · subst w; rw [HV.out.1]; intro w; omega
                · exact HL.out j (by omega))
              clear cx
              go_upto_region 10 with fail
              refine region_in (Below wi.heap.size wi) (by kernel_rfl) (by kernel_rfl) (Below.refl _ _).drew (fun inst => ?_)
              iterate 29 (go_big_quiet_step (fail))
              refine wpQuiet_nil ?_
              intro wd hbd
              clear d1 d2 d3 d4 d5
              go_wp2_with fail
              all_goals exact ⟨⟨t + 1, by omega, by go_num, HL2, HBi.out.trans (hbd.mono HBi.out.size)⟩, by simp [intOf]; omega⟩
          · obtain rfl : t = n := by omega
            have HK2 : Hid (∀ i j, i < q + 1 → j < t → m i j < 1099511627776 → ext f i - ext f j ≤ m i j) := Lib.hid (fun i j hi hj => by
              by_cases w : i = q
              · subst w; exact HL.out j hj
              · exact HK.out i j (by omega) hj)
            clear hb ht hlu
            go_wp2_with fail
            all_goals exact ⟨⟨q + 1, by omega, by go_num, HK2, HBi.out⟩, by simp [intOf]; omega⟩
      · obtain rfl : q = n := by omega
        have e0 : Hid (hasZ f k m q = true) := Lib.hid (hasZ_true HE.out (fun i j hi hj => HK.out i j hi hj))
        clear hq hlt
        go_wp2_with fail
        go_ret
        exact ⟨by rw [e0.out]; rfl, HW.out⟩
  · have g1 : ((k : Int) + 1 != (n : Int)) = true := by simp; omega
    have e0 : Hid (hasZ f k m n = false) := Lib.hid (hasZ_false (fun h => e h.1))
    clear e
    go_enter Try.func23, Try.ntmps23
    go_upto_region 1 with fail
    refine at_world (fun W => Hid (Below w.heap.size w W ∧ w.heap.size < W.heap.size) ∧ (∀ o, W.cell? ⟨w.heap.size, o, none⟩ = [Value.slice (some a) n cap][o]?)) ⟨Lib.hid ⟨(by repeat' (first | exact Below.refl _ _ | (refine Below.alloc ?_ ?_ _) | (refine Below.setCell ?_ ?_ _) | (refine Below.drew ?_) | (refine below_next ?_ ?_ (by assumption)) | omega | (simp; done) | (simp; omega))), by simp⟩, (by intro o; simp [go_sem])⟩ ?_
    intro W0 ⟨HB0, k0⟩
    go_wp2_with fail
    go_ret
    exact ⟨by rw [e0.out]; rfl, HB0.out.1⟩
end Go.Proofs.Ytnopjijhbflfdaa.C
