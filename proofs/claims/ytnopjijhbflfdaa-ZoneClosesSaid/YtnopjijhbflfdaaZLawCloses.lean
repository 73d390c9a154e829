/- ZoneCloses: walk. Printed by wip/gen_zcloses.py. -/
import Derived.Test.YtnopjijhbflfdaaZTop2
import Derived.Test.YtnopjijhbflfdaaZAwake
namespace Go.Proofs.Ytnopjijhbflfdaa.C
open Go.RowKit
set_option linter.unusedSimpArgs false
set_option linter.unusedVariables false
theorem IntRow.rowc {w : World} {A : Option Addr} {n : Nat} {zs : List Int} (h : IntRow w .i64 A n zs) : RowC w A n (fun j => zs.getD j 0) :=
  ⟨by have := h.2.1; unfold maxLen at this; omega, fun h0 => by obtain ⟨ad, e, _, hc⟩ := h.2.2.2 h0; exact ⟨ad, e, hc⟩⟩
/-- Of bounds that may be: what closed makes is the document's. -/
theorem close_alike2 {m : Z.M} {n : Nat} (h : Z.Fit m n) : Z.Alike (Z.closeM m n) (Z.rCloseM m n) n := by
  refine Z.fw_alike (fun i j hi hj => ?_) (Z.diagM_fit h) n (Nat.le_refl _)
  have := h i j hi hj
  unfold Z.diagM Z.rInit
  rw [if_pos (And.intro hi hj)]
  by_cases e : i = j
  · rw [if_pos ⟨e, hi⟩, if_pos e]; omega
  · rw [if_neg (fun q => e q.1), if_neg e]; omega
set_option maxRecDepth 100000 in
set_option maxHeartbeats 12800000 in
theorem zoneCloses_c (A : Option Addr) (n cap : Nat) (L : Nat → Nat) (m : Z.M) (av : Option Addr) (lv cv : Nat) (zv : List Int) (at_ : Option Addr) (lt ct : Nat) (zt : List Int) (w : World) (h : GM w A n L m) (hv : IntRow w .i64 av lv zv) (ht : IntRow w .i64 at_ lt zt) :
    Calls Try.prog 6 #[.agg #[.slice A n cap], .slice av lv cv, .slice at_ lt ct] w (BoolPost true w) := by
  have hmax := h.1
  have H := Lib.hid h
  have RV := hv.rowc
  have RT := ht.rowc
  clear hv ht h
  obtain ⟨f, hf⟩ : ∃ f : Nat → Int, (fun j => zv.getD j 0) = f := ⟨_, rfl⟩
  obtain ⟨ts, hts⟩ : ∃ f : Nat → Int, (fun j => zt.getD j 0) = f := ⟨_, rfl⟩
  rw [hf] at RV
  rw [hts] at RT
  have hlv := RV.1
  have hlt := RT.1
  have HV := Lib.hid RV
  have HT := Lib.hid RT
  clear RV RT hf hts
  by_cases h8 : 8 < n
  · have g : decide (8 < (n : Int)) = true := decide_eq_true (by omega)
    clear h8
    go_enter Try.func6, Try.ntmps6
    go_wp2_with (go_at_call 11; refine (awake16_c _).mono ?_; rintro e w' ⟨rfl, hb⟩)
    go_ret
    exact ⟨rfl, (by repeat' (first | exact Below.refl _ _ | (refine Below.alloc ?_ ?_ _) | (refine Below.setCell ?_ ?_ _) | (refine Below.drew ?_) | (refine below_next ?_ ?_ (by assumption)) | omega | (simp; done) | (simp; omega)))⟩
  have g : decide (8 < (n : Int)) = false := decide_eq_false (by omega)
  have hn8 : n ≤ 8 := by omega
  clear h8
  have SQ := fun W (hb : Below w.heap.size w W) => Square_c A n cap L m W (H.out.below hb)
  obtain ⟨sq, hsq⟩ : ∃ s, (fitB n L m && sqB n L && decide (0 < n)) = s := ⟨_, rfl⟩
  rw [hsq] at SQ
  have HSQ := Lib.hid hsq
  clear hsq
  cases sq with
  | false =>
    go_enter Try.func6, Try.ntmps6
    go_upto_region 1 with fail
    refine at_world (fun W => Hid (Below w.heap.size w W) ∧ w.heap.size < W.heap.size ∧ (∀ o, W.cell? ⟨w.heap.size, o, none⟩ = [Value.slice A n cap][o]?)) ⟨Lib.hid (by repeat' (first | exact Below.refl _ _ | (refine Below.alloc ?_ ?_ _) | (refine Below.setCell ?_ ?_ _) | (refine Below.drew ?_) | (refine below_next ?_ ?_ (by assumption)) | omega | (simp; done) | (simp; omega))), by simp, by intro o; simp [go_sem]⟩ ?_
    intro W0 ⟨HB, hs, k0⟩
    go_wp2_with (first | (go_at_call 9; refine (SQ _ HB.out).mono ?_; rintro e w' ⟨rfl, hb⟩; have hbz := hb.size; replace k0 := fun (o : Nat) => (hb.cell (p := ⟨w.heap.size, o, none⟩) (show w.heap.size < _ from by omega)).trans (k0 o); replace hs := Nat.lt_of_lt_of_le hs hbz; replace HB := Lib.hid (below_next HB.out HB.out.size hb); clear hb hbz) | (go_at_call 11; refine (awake16_c _).mono ?_; rintro e w' ⟨rfl, hb⟩; have hbz := hb.size; replace k0 := fun (o : Nat) => (hb.cell (p := ⟨w.heap.size, o, none⟩) (show w.heap.size < _ from by omega)).trans (k0 o); replace hs := Nat.lt_of_lt_of_le hs hbz; replace HB := Lib.hid (below_next HB.out HB.out.size hb); clear hb hbz))
    go_ret
    exact ⟨rfl, HB.out⟩
  | true =>
  have hq := HSQ.out
  rw [Bool.and_eq_true, Bool.and_eq_true] at hq
  obtain ⟨⟨q1, q2⟩, q3⟩ := hq
  have hL : ∀ i, i < n → L i = n := of_decide_eq_true q2
  have hn1 : 1 ≤ n := of_decide_eq_true q3
  have hfit : Z.Fit m n := fun i j hi hj => (of_decide_eq_true q1 : ∀ i, i < n → ∀ j, j < L i → _) i hi j (by rw [hL i hi]; exact hj)
  obtain ⟨a, rfl, hrm⟩ := H.out.rm hn1 hL
  have HM := Lib.hid hrm
  have HF := Lib.hid hfit
  clear q1 q2 q3 hL hfit hrm H
  go_enter Try.func6, Try.ntmps6
  go_upto_region 1 with fail
  refine at_world (fun W => Hid (Below w.heap.size w W) ∧ w.heap.size < W.heap.size ∧ (∀ o, W.cell? ⟨w.heap.size, o, none⟩ = [Value.slice (some a) n cap][o]?)) ⟨Lib.hid (by repeat' (first | exact Below.refl _ _ | (refine Below.alloc ?_ ?_ _) | (refine Below.setCell ?_ ?_ _) | (refine Below.drew ?_) | (refine below_next ?_ ?_ (by assumption)) | omega | (simp; done) | (simp; omega))), by simp, by intro o; simp [go_sem]⟩ ?_
  intro W0 ⟨HB, hs, k0⟩
  by_cases h20 : 20 < lv
  · have g20 : decide (20 < (lv : Int)) = true := decide_eq_true (by omega)
    have g20' : decide (20 < lv) = true := decide_eq_true h20
    clear h20
    go_wp2_with (first | (go_at_call 9; refine (SQ _ HB.out).mono ?_; rintro e w' ⟨rfl, hb⟩; have hbz := hb.size; replace k0 := fun (o : Nat) => (hb.cell (p := ⟨w.heap.size, o, none⟩) (show w.heap.size < _ from by omega)).trans (k0 o); replace hs := Nat.lt_of_lt_of_le hs hbz; replace HB := Lib.hid (below_next HB.out HB.out.size hb); clear hb hbz) | (go_at_call 21; refine (types_c at_ lt ct ts _ (HT.out.below HB.out)).mono ?_; rintro e w' ⟨rfl, _ | _, rfl, h7⟩) | (go_at_call 11; refine (awake16_c _).mono ?_; rintro e w' ⟨rfl, hb⟩; have hbz := hb.size; replace k0 := fun (o : Nat) => (hb.cell (p := ⟨w.heap.size, o, none⟩) (show w.heap.size < _ from by omega)).trans (k0 o); replace hs := Nat.lt_of_lt_of_le hs hbz; replace HB := Lib.hid (below_next HB.out HB.out.size hb); clear hb hbz))
    all_goals
      go_ret
      exact ⟨rfl, HB.out⟩
  have g20 : decide (20 < (lv : Int)) = false := decide_eq_false (by omega)
  have g20' : decide (20 < lv) = false := decide_eq_false h20
  have hlv20 : lv ≤ 20 := by omega
  clear h20 hlv
  go_upto_region 3 with (first | (go_at_call 9; refine (SQ _ HB.out).mono ?_; rintro e w' ⟨rfl, hb⟩; have hbz := hb.size; replace k0 := fun (o : Nat) => (hb.cell (p := ⟨w.heap.size, o, none⟩) (show w.heap.size < _ from by omega)).trans (k0 o); replace hs := Nat.lt_of_lt_of_le hs hbz; replace HB := Lib.hid (below_next HB.out HB.out.size hb); clear hb hbz) | (go_at_call 21; refine (types_c at_ lt ct ts _ (HT.out.below HB.out)).mono ?_; rintro e w' ⟨rfl, _ | _, rfl, h7⟩))
  · clear SQ HSQ
    go_wp2_with (go_at_call 11; refine (awake16_c _).mono ?_; rintro e w' ⟨rfl, hb⟩; replace HB := Lib.hid (below_next HB.out HB.out.size hb); clear hb)
    go_ret
    exact ⟨rfl, HB.out⟩
  have hlt7 : lt ≤ 7 := by simpa using h7
  refine at_world (fun W => Hid (Below w.heap.size w W) ∧ w.heap.size < W.heap.size ∧ (∀ o, W.cell? ⟨w.heap.size, o, none⟩ = [Value.slice (some a) n cap][o]?)) ⟨HB, hs, k0⟩ ?_
  clear HB hs k0 SQ HSQ h7 hlt
  intro W1 ⟨HB, hs, k0⟩
  go_wp2_with fail
  go_loop [7] (fun i => ∃ t : Nat, t ≤ lv ∧ i = .int .i64 t ∧ Hid (∀ j, j < t → -1125899906842624 ≤ f j ∧ f j ≤ 1125899906842624)) (fun i => lv - (intOf i).toNat)
  case atStart => exact ⟨0, by omega, rfl, Lib.hid (fun j hj => absurd hj (by omega))⟩
  case round =>
    obtain ⟨t, ht, rfl, HFV⟩ := hrel
    by_cases hlt : t < lv
    · obtain ⟨ad, rfl, hc⟩ := (HV.out.below HB.out).2 (by omega)
      have c1 := hc t hlt
      have ht0 : (0 : Int) ≤ (t : Int) := by omega
      have ht1 : (t : Int) < (lv : Int) := by omega
      obtain ⟨x, hx⟩ : ∃ x, f t = x := ⟨_, rfl⟩
      rw [hx] at c1
      have HX := Lib.hid hx
      clear hc hx
      by_cases q1 : x < -1125899906842624
      · have g3 : decide (x < -1125899906842624) = true := decide_eq_true q1
        clear q1
        go_wp2_with (go_at_call 11; refine (awake16_c _).mono ?_; rintro e w' ⟨rfl, hb⟩)
        go_ret
        exact ⟨rfl, below_next HB.out HB.out.size hb⟩
      · have g3 : decide (x < -1125899906842624) = false := decide_eq_false q1
        by_cases q2 : 1125899906842624 < x
        · have g4 : decide (1125899906842624 < x) = true := decide_eq_true q2
          clear q1 q2
          go_wp2_with (go_at_call 11; refine (awake16_c _).mono ?_; rintro e w' ⟨rfl, hb⟩)
          go_ret
          exact ⟨rfl, below_next HB.out HB.out.size hb⟩
        · have g4 : decide (1125899906842624 < x) = false := decide_eq_false q2
          have HF2 : Hid (∀ j, j < t + 1 → -1125899906842624 ≤ f j ∧ f j ≤ 1125899906842624) := Lib.hid (fun j hj => by
            by_cases e : j = t
            · subst e; rw [HX.out]; omega
            · exact HFV.out j (by omega))
          clear q1 q2
          go_wp2_with fail
          all_goals exact ⟨⟨t + 1, by omega, by go_num, HF2⟩, by simp [intOf]; omega⟩
    · obtain rfl : t = lv := by omega
      have hxb : ∀ j, j < t → -2251799813685248 ≤ f j ∧ f j ≤ 2251799813685248 := fun j hj => by have := HFV.out j hj; omega
      have HXB := Lib.hid hxb
      have HOKE := Lib.hid (Z.ok_alike (Z.close_alike HF.out))
      have HCA := Lib.hid (Z.close_alike HF.out)
      clear ht hlt HFV hxb
      go_wp2_with fail
      refine (zclose_c a n cap m _ hn1 (by omega) (HM.out.below HB.out)).mono ?_
      rintro e w3 ⟨hb3, ⟨ok, B, R, C, cap3, rfl, hcap3, hom3⟩ | ⟨ok, rfl⟩⟩
      · have k3 := fun o => (hb3.cell (p := ⟨w.heap.size, o, none⟩) hs).trans (k0 o)
        have hs3 : w.heap.size < w3.heap.size := by have := hb3.size; omega
        have HO3 := Lib.hid hom3
        clear hom3 hcap3
        have HB3 := Lib.hid (below_next HB.out HB.out.size hb3)
        clear k0 hb3
        go_upto_region 9 with fail
        refine at_world (fun W => Hid (Below w.heap.size w W ∧ w.heap.size < W.heap.size ∧ w3.heap.size < W.heap.size ∧ RM W ⟨B, 0, none⟩ n (Z.closeM (Z.clampM m) n)) ∧ (∀ o, W.cell? ⟨w.heap.size, o, none⟩ = [Value.slice (some a) n cap][o]?) ∧ (∀ o, W.cell? ⟨w3.heap.size, o, none⟩ = [Value.slice (some ⟨B, 0, none⟩) n cap3][o]?)) ⟨Lib.hid ⟨HB3.out.alloc HB3.out.size _, by simp; omega, by simp, HO3.out.rm.below ((Below.refl _ _).alloc (Nat.le_refl _) _)⟩, fun o => (((Below.refl _ _).alloc (Nat.le_refl _) _).cell (p := ⟨w.heap.size, o, none⟩) hs3).trans (k3 o), by intro o; simp [go_sem]⟩ ?_
        obtain ⟨b3, hb3e⟩ : ∃ b, w3.heap.size = b := ⟨_, rfl⟩
        simp only [hb3e]
        clear k3 hs3 HB3 HO3 hb3e w3
        intro W4 ⟨H4, k0, k3⟩
        have hs0 := H4.out.2.1
        have hs3 := H4.out.2.2.1
        go_upto_region 10 with (go_at_call 22; refine (rclose_c a n cap m _ hn1 (by omega) (HM.out.below H4.out.1) HF.out).mono ?_; rintro e w5 ⟨hb5, ⟨ok5, B5, R5, C5, cap5, rfl, hcap5, hom5⟩ | ⟨ok5, rfl⟩⟩)
        rotate_left
        · rw [← HOKE.out, ok] at ok5; cases ok5
        have k0' := fun o => (hb5.cell (p := ⟨w.heap.size, o, none⟩) hs0).trans (k0 o)
        have k3' := fun o => (hb5.cell (p := ⟨b3, o, none⟩) hs3).trans (k3 o)
        refine at_world (fun W => Hid (Below w.heap.size w W ∧ RM W ⟨B, 0, none⟩ n (Z.closeM (Z.clampM m) n) ∧ RM W ⟨B5, 0, none⟩ n (Z.rCloseM m n)) ∧ W.cell? ⟨w.heap.size, 0, none⟩ = some (Value.slice (some a) n cap) ∧ W.cell? ⟨b3, 0, none⟩ = some (Value.slice (some ⟨B, 0, none⟩) n cap3) ∧ W.cell? ⟨w5.heap.size, 0, none⟩ = some (Value.slice (some ⟨B5, 0, none⟩) n cap5)) ⟨Lib.hid (⟨(below_next H4.out.1 H4.out.1.size hb5).alloc (by have := H4.out.1.size; have := hb5.size; omega) _, (H4.out.2.2.2.below hb5).below ((Below.refl _ _).alloc (Nat.le_refl _) _), hom5.rm.below ((Below.refl _ _).alloc (Nat.le_refl _) _)⟩), cell_later ((Below.refl _ _).alloc (Nat.le_refl _) _) (k0' 0), cell_later ((Below.refl _ _).alloc (Nat.le_refl _) _) (k3' 0), by simp [go_sem]⟩ ?_
        obtain ⟨b5, hb5e⟩ : ∃ b, w5.heap.size = b := ⟨_, rfl⟩
        simp only [hb5e]
        clear k0 k3 k0' k3' hb5 hs0 hs3 H4 ok ok5 hom5 hcap5 hb5e w5 W4
        intro W ⟨H6, q0, q3, q5⟩
        have HB6 := Lib.hid ((Below.refl W.heap.size W).drew)
        have SZ := fun W' (hb : Below W.heap.size W W') => sameZone_c ⟨B, 0, none⟩ ⟨B5, 0, none⟩ n cap3 cap5 _ _ W' (by omega) (H6.out.2.1.below hb) (H6.out.2.2.below hb)
        rw [Z.alikeB_true HCA.out] at SZ
        have SZ1 := Lib.hid SZ
        clear SZ
        have HS1 := Lib.hid (fun W' (hb : Below W.heap.size W W') => zhas_c a n cap m av t cv f W' hn1 (by omega) ((HM.out.below H6.out.1).below hb) ((HV.out.below H6.out.1).below hb) (by omega) HXB.out)
        have HS2 := Lib.hid (fun W' (hb : Below W.heap.size W W') => hasZone_c a n cap m av t cv f W' hn1 (by omega) ((HM.out.below H6.out.1).below hb) ((HV.out.below H6.out.1).below hb) (by omega) HXB.out)
        obtain ⟨hz, hhz⟩ : ∃ b, hasZ f t m n = b := ⟨_, rfl⟩
        simp only [hhz] at HS1 HS2
        clear hhz
        have HT1 := Lib.hid (fun W' (hb : Below W.heap.size W W') => top_c at_ lt ct ts W' ((HT.out.below H6.out.1).below hb) (by omega))
        have HT2 := Lib.hid (fun W' (hb : Below W.heap.size W W') => topZone_c at_ lt ct ts W' ((HT.out.below H6.out.1).below hb) (by omega))
        have HW := Lib.hid H6.out.1
        have gb : (hz == hz) = true := by simp
        clear H6
        go_region_held3 (fun w' => w'.cell? ⟨w.heap.size, 0, none⟩ = some (Value.slice (some a) n cap) ∧ w'.cell? ⟨b3, 0, none⟩ = some (Value.slice (some ⟨B, 0, none⟩) n cap3) ∧ w'.cell? ⟨b5, 0, none⟩ = some (Value.slice (some ⟨B5, 0, none⟩) n cap5)) (first | exact ⟨q0, q3, q5⟩ | exact ⟨cell_later HB6.out q0, cell_later HB6.out q3, cell_later HB6.out q5⟩) ((first | (go_at_call 13; refine (SZ1.out _ HB6.out).mono ?_; clear SZ1; rintro e w' ⟨rfl, hb⟩; replace HB6 := Lib.hid (below_next HB6.out HB6.out.size hb); clear hb) | (go_at_call 15; refine (HS1.out _ HB6.out).mono ?_; rintro e w' ⟨rfl, hb⟩; replace HB6 := Lib.hid (below_next HB6.out HB6.out.size hb); clear hb) | (go_at_call 23; refine (HS2.out _ HB6.out).mono ?_; rintro e w' ⟨rfl, hb⟩; replace HB6 := Lib.hid (below_next HB6.out HB6.out.size hb); clear hb) | (go_at_call 24; refine (HT1.out _ HB6.out).mono ?_; rintro e wt ⟨Bt, Rt, Ct, capt, rfl, hcapt, homt, hb⟩; have HOT := Lib.hid homt.rm; clear homt hcapt; replace HB6 := Lib.hid (below_next HB6.out HB6.out.size hb); clear hb) | (go_at_call 25; refine (HT2.out _ HB6.out).mono ?_; rintro e wz ⟨Bz, Rz, Cz, capz, rfl, hcapz, homz, hb⟩; have SZ2 := sameZone_c ⟨Bt, 0, none⟩ ⟨Bz, 0, none⟩ (lt + 1) capt capz _ _ wz (by omega) (HOT.out.below hb) homz.rm; rw [Z.alikeB_true (close_alike2 (topM_fit ts lt (lt + 1)))] at SZ2; have HS3 := Lib.hid SZ2; clear SZ2 homz hcapz; replace HB6 := Lib.hid (below_next HB6.out HB6.out.size hb); clear hb) | (go_at_call 13; refine (HS3.out).mono ?_; rintro e w' ⟨rfl, hb⟩; replace HB6 := Lib.hid (below_next HB6.out HB6.out.size hb); clear hb) | (go_at_call 11; refine (awake16_c _).mono ?_; rintro e w' ⟨rfl, hb⟩; replace HB6 := Lib.hid (below_next HB6.out HB6.out.size hb); clear hb)))
        all_goals (go_wp2_with fail)
        all_goals
          go_ret
          exact ⟨rfl, below_next HW.out HW.out.size HB6.out⟩
      · have k3 := fun o => (hb3.cell (p := ⟨w.heap.size, o, none⟩) hs).trans (k0 o)
        have hs3 : w.heap.size < w3.heap.size := by have := hb3.size; omega
        have HB3 := Lib.hid (below_next HB.out HB.out.size hb3)
        clear k0 hb3
        go_upto_region 9 with fail
        refine at_world (fun W => Hid (Below w.heap.size w W ∧ w.heap.size < W.heap.size ∧ w3.heap.size < W.heap.size) ∧ (∀ o, W.cell? ⟨w.heap.size, o, none⟩ = [Value.slice (some a) n cap][o]?) ∧ (∀ o, W.cell? ⟨w3.heap.size, o, none⟩ = [Value.slice none 0 0][o]?)) ⟨Lib.hid ⟨HB3.out.alloc HB3.out.size _, by simp; omega, by simp⟩, fun o => (((Below.refl _ _).alloc (Nat.le_refl _) _).cell (p := ⟨w.heap.size, o, none⟩) hs3).trans (k3 o), by intro o; simp [go_sem]⟩ ?_
        obtain ⟨b3, hb3e⟩ : ∃ b, w3.heap.size = b := ⟨_, rfl⟩
        simp only [hb3e]
        clear k3 hs3 HB3 hb3e w3
        intro W4 ⟨H4, k0, k3⟩
        have hs0 := H4.out.2.1
        have hs3 := H4.out.2.2
        go_upto_region 10 with (go_at_call 22; refine (rclose_c a n cap m _ hn1 (by omega) (HM.out.below H4.out.1) HF.out).mono ?_; rintro e w5 ⟨hb5, ⟨ok5, B5, R5, C5, cap5, rfl, hcap5, hom5⟩ | ⟨ok5, rfl⟩⟩)
        · rw [← HOKE.out, ok] at ok5; cases ok5
        have k0' := fun o => (hb5.cell (p := ⟨w.heap.size, o, none⟩) hs0).trans (k0 o)
        have k3' := fun o => (hb5.cell (p := ⟨b3, o, none⟩) hs3).trans (k3 o)
        refine at_world (fun W => Hid (Below w.heap.size w W) ∧ W.cell? ⟨w.heap.size, 0, none⟩ = some (Value.slice (some a) n cap) ∧ W.cell? ⟨b3, 0, none⟩ = some (Value.slice none 0 0) ∧ W.cell? ⟨w5.heap.size, 0, none⟩ = some (Value.slice none 0 0)) ⟨Lib.hid ((below_next H4.out.1 H4.out.1.size hb5).alloc (by have := H4.out.1.size; have := hb5.size; omega) _), cell_later ((Below.refl _ _).alloc (Nat.le_refl _) _) (k0' 0), cell_later ((Below.refl _ _).alloc (Nat.le_refl _) _) (k3' 0), by simp [go_sem]⟩ ?_
        obtain ⟨b5, hb5e⟩ : ∃ b, w5.heap.size = b := ⟨_, rfl⟩
        simp only [hb5e]
        clear k0 k3 k0' k3' hb5 hs0 hs3 H4 ok ok5 hb5e w5 W4
        intro W ⟨H6, q0, q3, q5⟩
        have HB6 := Lib.hid ((Below.refl W.heap.size W).drew)
        have SZ1 := Lib.hid (fun W' (_ : Below W.heap.size W W') => sameNil_c W')
        have HS1 := Lib.hid (fun W' (hb : Below W.heap.size W W') => zhas_c a n cap m av t cv f W' hn1 (by omega) ((HM.out.below H6.out).below hb) ((HV.out.below H6.out).below hb) (by omega) HXB.out)
        have HS2 := Lib.hid (fun W' (hb : Below W.heap.size W W') => hasZone_c a n cap m av t cv f W' hn1 (by omega) ((HM.out.below H6.out).below hb) ((HV.out.below H6.out).below hb) (by omega) HXB.out)
        obtain ⟨hz, hhz⟩ : ∃ b, hasZ f t m n = b := ⟨_, rfl⟩
        simp only [hhz] at HS1 HS2
        clear hhz
        have HT1 := Lib.hid (fun W' (hb : Below W.heap.size W W') => top_c at_ lt ct ts W' ((HT.out.below H6.out).below hb) (by omega))
        have HT2 := Lib.hid (fun W' (hb : Below W.heap.size W W') => topZone_c at_ lt ct ts W' ((HT.out.below H6.out).below hb) (by omega))
        have HW := Lib.hid H6.out
        have gb : (hz == hz) = true := by simp
        clear H6
        go_region_held3 (fun w' => w'.cell? ⟨w.heap.size, 0, none⟩ = some (Value.slice (some a) n cap) ∧ w'.cell? ⟨b3, 0, none⟩ = some (Value.slice none 0 0) ∧ w'.cell? ⟨b5, 0, none⟩ = some (Value.slice none 0 0)) (first | exact ⟨q0, q3, q5⟩ | exact ⟨cell_later HB6.out q0, cell_later HB6.out q3, cell_later HB6.out q5⟩) ((first | (go_at_call 13; refine (SZ1.out _ HB6.out).mono ?_; clear SZ1; rintro e w' ⟨rfl, hb⟩; replace HB6 := Lib.hid (below_next HB6.out HB6.out.size hb); clear hb) | (go_at_call 15; refine (HS1.out _ HB6.out).mono ?_; rintro e w' ⟨rfl, hb⟩; replace HB6 := Lib.hid (below_next HB6.out HB6.out.size hb); clear hb) | (go_at_call 23; refine (HS2.out _ HB6.out).mono ?_; rintro e w' ⟨rfl, hb⟩; replace HB6 := Lib.hid (below_next HB6.out HB6.out.size hb); clear hb) | (go_at_call 24; refine (HT1.out _ HB6.out).mono ?_; rintro e wt ⟨Bt, Rt, Ct, capt, rfl, hcapt, homt, hb⟩; have HOT := Lib.hid homt.rm; clear homt hcapt; replace HB6 := Lib.hid (below_next HB6.out HB6.out.size hb); clear hb) | (go_at_call 25; refine (HT2.out _ HB6.out).mono ?_; rintro e wz ⟨Bz, Rz, Cz, capz, rfl, hcapz, homz, hb⟩; have SZ2 := sameZone_c ⟨Bt, 0, none⟩ ⟨Bz, 0, none⟩ (lt + 1) capt capz _ _ wz (by omega) (HOT.out.below hb) homz.rm; rw [Z.alikeB_true (close_alike2 (topM_fit ts lt (lt + 1)))] at SZ2; have HS3 := Lib.hid SZ2; clear SZ2 homz hcapz; replace HB6 := Lib.hid (below_next HB6.out HB6.out.size hb); clear hb) | (go_at_call 13; refine (HS3.out).mono ?_; rintro e w' ⟨rfl, hb⟩; replace HB6 := Lib.hid (below_next HB6.out HB6.out.size hb); clear hb) | (go_at_call 11; refine (awake16_c _).mono ?_; rintro e w' ⟨rfl, hb⟩; replace HB6 := Lib.hid (below_next HB6.out HB6.out.size hb); clear hb)))
        all_goals (go_wp2_with fail)
        all_goals
          go_ret
          exact ⟨rfl, below_next HW.out HW.out.size HB6.out⟩
end Go.Proofs.Ytnopjijhbflfdaa.C
