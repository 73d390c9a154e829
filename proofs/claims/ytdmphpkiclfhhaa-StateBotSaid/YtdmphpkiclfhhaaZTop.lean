/- zone.free, zone.Top, the reference's TopZone: walks. -/
import Derived.Test.YtdmphpkiclfhhaaRepeat
import Derived.Test.YtdmphpkiclfhhaaZOps
import Derived.Test.YtdmphpkiclfhhaaZRClose
namespace Go.Proofs.Ytdmphpkiclfhhaa.C
open Go.RowKit
set_option linter.unusedSimpArgs false
set_option linter.unusedVariables false
theorem RowNew.before {w W w' : World} {g c n : Nat} {f : Nat → Int} (h : RowNew W g c n f w') (hb : Below w.heap.size w W) : RowNew w g c n f w' :=
  ⟨Nat.le_trans hb.size h.1, h.2.1, h.2.2.1, h.2.2.2.1, h.2.2.2.2.1, below_next hb hb.size h.2.2.2.2.2⟩
/-- Row k without bounds, the others as they are. -/
def rowM (k : Nat) : Z.M := fun i j => if i = k then 1099511627776 else blankM i j
theorem rowM_set (k n : Nat) : ∀ i j, i < k + 1 → j < n → Z.upd (rowM k) k k 0 i j = blankM i j := fun i j _ _ => by
  unfold Z.upd rowM blankM
  (repeat' split) <;> omega
set_option maxRecDepth 100000 in
set_option maxHeartbeats 6400000 in
theorem free_c (n : Nat) (w : World) (hn : 1 ≤ n) (hn2 : n ≤ 1000) :
    Calls Try.prog 96 #[.int .i64 n] w (NewM w n blankM) := by
  have hmk := fun W => run_make_row' (P := Try.prog) 29 41 (.slice none 0 0) 24 Try.underlying29 infoR rfl .i64 .i64 n (by omega) (by omega) W
  go_enter Try.func96, Try.ntmps96
  go_upto_region 2 with fail
  clear hmk
  refine at_world (fun W => Hid (Below w.heap.size w W ∧ OMP W (w.heap.size + 1) (w.heap.size + 1) (fun _ => 0) (fun _ => 0) n 0 41 blankM ∧ w.heap.size + 2 < W.heap.size ∧ (∀ o, W.cell? ⟨w.heap.size, o, none⟩ = [Value.slice none 0 0][o]?) ∧ (∀ o, W.frozen? ⟨w.heap.size, o, none⟩ = false)) ∧ (∀ o, W.cell? ⟨w.heap.size + 1 + 1, o, none⟩ = [Value.slice (some ⟨w.heap.size + 1, 0, none⟩) n n][o]?)) ?_ ?_
  · refine ⟨Lib.hid ⟨(by repeat' (first | exact Below.refl _ _ | (refine Below.alloc ?_ ?_ _) | (refine Below.setCell ?_ ?_ _) | (refine Below.drew ?_) | (refine below_next ?_ ?_ (by assumption)) | omega | (simp; done) | (simp; omega))), ?_, ?_, ?_, ?_⟩, ?_⟩
    · exact (by simpa using OMP.start (w.alloc (.cells #[.slice none 0 0] 31)) (base := w.heap.size + 1) (by simp) n 41 (fun _ => 0) (fun _ => 0) blankM : OMP _ _ _ _ _ _ _ _ _).below ((Below.refl _ _).alloc (Nat.le_refl _) _)
    · simp
    · intro o; simp [go_sem]
    · intro o; simp [go_sem]
    · intro o; simp [go_sem]
  intro W0 ⟨H0, k0⟩
  go_wp2_with fail
  go_loopw [11] (fun v wr => ∃ (k : Nat) (R C : Nat → Nat), k ≤ n ∧ v = .int .i64 k ∧ OMP wr (w.heap.size + 1) (w.heap.size + 1) R C n k 41 blankM ∧ (∀ i, i < k → w.heap.size + 3 ≤ R i) ∧ Below (w.heap.size + 1) W0 wr ∧ w.heap.size + 2 < wr.heap.size ∧ (∀ o, wr.cell? ⟨w.heap.size + 1 + 1, o, none⟩ = [Value.slice (some ⟨w.heap.size + 1, 0, none⟩) n n][o]?)) (fun v _ => n - (intOf v).toNat)
  case atStart => exact ⟨0, _, _, by omega, rfl, H0.out.2.1, (fun i hi => absurd hi (by omega)), Below.refl _ _, H0.out.2.2.1, k0⟩
  case round =>
    obtain ⟨k, R, C, hk, rfl, homp, hR3, hb, hsz, kb⟩ := hrel
    have HP := Lib.hid homp
    have HB := Lib.hid hb
    have HR3 := Lib.hid hR3
    clear k0 hb hR3
    obtain ⟨wo, rfl⟩ : ∃ wo : World, wo = wr := ⟨_, rfl⟩
    by_cases hlt : k < n
    · have c1 := homp.outer.cell hlt
      have kb0 := kb 0
      simp at kb0
      have hsz1 : w.heap.size + 1 + 1 < wo.heap.size := by omega
      have hsz2 : w.heap.size + 1 < wo.heap.size := by omega
      rw [if_neg (Nat.lt_irrefl k)] at c1
      have f1 := homp.outer.frozen k
      have hk0 : (0 : Int) ≤ (k : Int) := by omega
      have hk1 : (k : Int) < (n : Int) := by omega
      have hcn : ((wo.alloc (.cells #[.int .i64 1099511627776] 3)).drew).cell? ⟨wo.heap.size, 0, none⟩ = some (.int .i64 1099511627776) := by simp [go_sem]
      have RC := repeat1_c ⟨wo.heap.size, 0, none⟩ 1099511627776 n ((wo.alloc (.cells #[.int .i64 1099511627776] 3)).drew) hn hn2 hcn
      have HRC := Lib.hid RC
      clear homp hcn RC
      go_upto_region 5 with fail
      go_region_held3 (fun w' => w'.cell? ⟨w.heap.size + 1 + 1, 0, none⟩ = some (.slice (some ⟨w.heap.size + 1, 0, none⟩) n n)) (first | assumption | go_keep) ((go_at_call 121; refine (HRC.out).mono ?_; rintro e w1 ⟨g, rfl, hrw⟩; have hrn := Lib.hid (hrw.before ((Below.refl wo.heap.size wo).alloc (Nat.le_refl _) (.cells #[.int .i64 1099511627776] 3)).drew); have q0 : w1.cell? ⟨w.heap.size + 1 + 1, 0, none⟩ = some (.slice (some ⟨w.heap.size + 1, 0, none⟩) n n) := (hrn.out.2.2.2.2.2.cell (p := ⟨w.heap.size + 1 + 1, 0, none⟩) hsz1).trans kb0; have q1 := (hrn.out.2.2.2.2.2.cell (p := ⟨w.heap.size + 1, k, none⟩) hsz2).trans c1; have q2 := (hrn.out.2.2.2.2.2.frozen (p := ⟨w.heap.size + 1, k, none⟩) hsz2).trans f1; clear hrw))
      go_upto_region 6 with fail
      refine at_world (fun W => Hid (OMP W (w.heap.size + 1) (w.heap.size + 1) (fun i => if i = k then g else R i) (fun i => if i = k then n else C i) n (k + 1) 41 (rowM k) ∧ (∀ i, i < k + 1 → w.heap.size + 3 ≤ (fun i => if i = k then g else R i) i) ∧ Below (w.heap.size + 1) W0 W ∧ w.heap.size + 2 < W.heap.size) ∧ (∀ o, W.cell? ⟨w.heap.size + 1 + 1, o, none⟩ = [Value.slice (some ⟨w.heap.size + 1, 0, none⟩) n n][o]?)) ⟨Lib.hid ⟨HP.out.new hlt hrn.out (m' := rowM k) (fun i j hi hj => by unfold rowM; rw [if_neg (by omega)]) (fun j hj => by unfold rowM; rw [if_pos rfl]) (by omega), fun i hi => ?_, ?_, ?_⟩, fun o => ?_⟩ ?_
      · by_cases e : i = k
        · simp only [e, if_true]; have := hrn.out.1; omega
        · simp only [e, if_false]; exact HR3.out i (by omega)
      · exact (HB.out.trans (hrn.out.2.2.2.2.2.mono (by omega))).setCell (Nat.le_refl _) _
      · have := hrn.out.2.2.2.2.2.size; simp; omega
      · rw [World.cell?_setCell_far _ _ _ _ (by show w.heap.size + 1 ≠ w.heap.size + 1 + 1; omega)]
        exact (hrn.out.2.2.2.2.2.cell (p := ⟨w.heap.size + 1 + 1, o, none⟩) hsz1).trans (kb o)
      clear c1 kb0 hsz1 hsz2 f1 HRC q0 q1 q2 hrn HP HB HR3 kb hsz
      intro W1 ⟨H1, k1⟩
      have c1 := H1.out.1.outerAt (Nat.lt_succ_self k) hlt
      have c2 := H1.out.1.inner k k (Nat.lt_succ_self k) hlt
      have f2 := H1.out.1.frz k k (Nat.lt_succ_self k) hlt
      rw [show rowM k k k = 1099511627776 from by unfold rowM; rw [if_pos rfl]] at c2
      simp only [if_true] at c1 c2 f2
      go_wp2_with fail
      have hg : (if k = k then g else R k) = g := by simp
      have HS := H1.out.1.set (Nat.lt_succ_self k) hlt 0
      rw [hg] at HS
      have HS2 := HS.alike (rowM_set k n)
      have hgs : w.heap.size + 3 ≤ g := by have := H1.out.2.1 k (by omega); simpa using this
      exact ⟨⟨k + 1, _, _, by omega, by go_num, HS2, H1.out.2.1, H1.out.2.2.1.setCell (by show w.heap.size + 1 ≤ g; omega) _, by simpa using H1.out.2.2.2, fun o => by rw [World.cell?_setCell_far _ _ _ _ (by show g ≠ w.heap.size + 1 + 1; omega)]; exact k1 o⟩, by simp [intOf]; omega⟩
    · obtain rfl : k = n := by omega
      have HO : Hid (OM wo w.heap.size (w.heap.size + 1) R C k blankM) := Lib.hid (homp.om.lower (by omega))
      have k1 := fun o => (HB.out.cell (p := ⟨w.heap.size, o, none⟩) (by show w.heap.size < _; omega)).trans (H0.out.2.2.2.1 o)
      have f1 := fun o => (HB.out.frozen (p := ⟨w.heap.size, o, none⟩) (by show w.heap.size < _; omega)).trans (H0.out.2.2.2.2 o)
      have HW : Hid (Below w.heap.size w wo) := Lib.hid (H0.out.1.trans (HB.out.mono (by omega)))
      clear homp HP hk hlt
      go_wp2_with fail
      exact bodyPost_ret (v := .agg #[.slice (some ⟨w.heap.size + 1, 0, none⟩) k k]) (by simp [results, Try.results96, go_sem, *]) rfl ⟨_, R, C, k, rfl, Nat.le_refl _, HO.out.keep (by simp) (Below.heap_setCell _ ⟨w.heap.size, 0, none⟩ _ _ (by show w.heap.size + 1 ≠ w.heap.size; omega)) (fun i hi => Below.heap_setCell _ ⟨w.heap.size, 0, none⟩ _ _ (by have := HR3.out i hi; show R i ≠ w.heap.size; omega)), HW.out.setCell (Nat.le_refl _) _⟩
/-- What types allow, as far as k. -/
def topM (ts : Nat → Int) (k : Nat) : Z.M := fun a b => if b = 0 ∧ 1 ≤ a ∧ a ≤ k then maxT (ts (a - 1)) else if a = 0 ∧ 1 ≤ b ∧ b ≤ k then -minT (ts (b - 1)) else blankM a b
theorem topM_zero (ts : Nat → Int) (n : Nat) : Z.Alike blankM (topM ts 0) n := fun a b _ _ => by unfold topM; rw [if_neg (by omega), if_neg (by omega)]
theorem topM_step (ts : Nat → Int) (k n : Nat) : Z.Alike (Z.upd (Z.upd (topM ts k) (k + 1) 0 (maxT (ts k))) 0 (k + 1) (-minT (ts k))) (topM ts (k + 1)) n := fun a b _ _ => by
  unfold Z.upd topM
  by_cases e1 : a = 0 ∧ b = k + 1
  · obtain ⟨rfl, rfl⟩ := e1
    rw [if_pos ⟨rfl, rfl⟩, if_neg (by omega), if_pos (by omega)]
    rfl
  · rw [if_neg e1]
    by_cases e2 : a = k + 1 ∧ b = 0
    · obtain ⟨rfl, rfl⟩ := e2
      rw [if_pos ⟨rfl, rfl⟩, if_pos (by omega)]
      rfl
    · rw [if_neg e2]
      (repeat' split) <;> first | rfl | omega
theorem topM_fit (ts : Nat → Int) (k n : Nat) : Z.Fit (topM ts k) n := fun a b _ _ => by
  have h1 := maxT_bd (ts (a - 1))
  have h2 := minT_bd (ts (b - 1))
  unfold topM blankM
  (repeat' split) <;> omega
theorem topM_keeps (ts : Nat → Int) (k n : Nat) : Z.Keeps (fun _ => 0) (topM ts k) n := fun a b _ _ _ => by
  have h1 := maxT_bd (ts (a - 1))
  have h2 := minT_bd (ts (b - 1))
  show (0 : Int) - 0 ≤ _
  unfold topM blankM
  (repeat' split) <;> omega
/-- Top's zone, its box, the result's box. -/
def TopIn (w : World) (b3 B : Nat) (R C : Nat → Nat) (n cap : Nat) (M : Z.M) (W : World) : Prop :=
  Below w.heap.size w W ∧ OM W (w.heap.size + 1) B R C n M ∧ (w.heap.size < b3 ∧ b3 < W.heap.size ∧ b3 ≠ B ∧ ∀ i, i < n → R i ≠ b3) ∧ (∀ o, W.cell? ⟨b3, o, none⟩ = [Value.slice (some ⟨B, 0, none⟩) n cap][o]?) ∧ (∀ o, W.frozen? ⟨b3, o, none⟩ = false) ∧ (∀ o, W.cell? ⟨w.heap.size, o, none⟩ = [Value.slice none 0 0][o]?) ∧ (∀ o, W.frozen? ⟨w.heap.size, o, none⟩ = false)
theorem TopIn.changed {w W W' : World} {b3 B n cap : Nat} {R C : Nat → Nat} {M M' : Z.M} (h : TopIn w b3 B R C n cap M W) (hk : Kept R n W W') (hm : OM W' (w.heap.size + 1) B R C n M') : TopIn w b3 B R C n cap M' W' := by
  have hr : ∀ i, i < n → w.heap.size ≠ R i := fun i hi => by have := (h.2.1.hR i hi).1; omega
  have hl : w.heap.size < W.heap.size := by have := h.2.2.1; omega
  exact ⟨hk.below (fun i hi => by have := (h.2.1.hR i hi).1; omega) h.1 h.1.size, hm, ⟨h.2.2.1.1, Nat.lt_of_lt_of_le h.2.2.1.2.1 hk.size, h.2.2.1.2.2⟩, fun o => (hk.cell (p := ⟨b3, o, none⟩) h.2.2.1.2.1 (fun i hi => (h.2.2.1.2.2.2 i hi).symm)).trans (h.2.2.2.1 o), fun o => (hk.frozen (p := ⟨b3, o, none⟩) h.2.2.1.2.1 (fun i hi => (h.2.2.1.2.2.2 i hi).symm)).trans (h.2.2.2.2.1 o), fun o => (hk.cell (p := ⟨w.heap.size, o, none⟩) hl hr).trans (h.2.2.2.2.2.1 o), fun o => (hk.frozen (p := ⟨w.heap.size, o, none⟩) hl hr).trans (h.2.2.2.2.2.2 o)⟩
theorem TopIn.start {w W0 w1 : World} {B n cap : Nat} {R C : Nat → Nat} {M : Z.M} {t : TypeId} (h0 : Below w.heap.size w W0 ∧ W0.heap.size = w.heap.size + 1) (k1 : ∀ o, W0.cell? ⟨w.heap.size, o, none⟩ = [Value.slice none 0 0][o]?) (f1 : ∀ o, W0.frozen? ⟨w.heap.size, o, none⟩ = false) (hom : OM w1 W0.heap.size B R C n M) (hb : Below W0.heap.size W0 w1) :
    TopIn w w1.heap.size B R C n cap M (w1.alloc (.cells #[.slice (some ⟨B, 0, none⟩) n cap] t)) := by
  have hs := hb.size
  have hl : w.heap.size < w1.heap.size := by omega
  have ha : Below w1.heap.size w1 (w1.alloc (.cells #[.slice (some ⟨B, 0, none⟩) n cap] t)) := (Below.refl _ _).alloc (Nat.le_refl _) _
  rw [h0.2] at hom
  exact ⟨(below_next h0.1 h0.1.size hb).alloc (by omega) _, hom.below ha, ⟨hl, by simp, by have := hom.hB.2; omega, fun i hi => by have := (hom.hR i hi).2.1; omega⟩, (by intro o; simp [go_sem]), (by intro o; simp [go_sem]), fun o => (ha.cell (p := ⟨w.heap.size, o, none⟩) hl).trans ((hb.cell (p := ⟨w.heap.size, o, none⟩) (by show w.heap.size < _; omega)).trans (k1 o)), fun o => (ha.frozen (p := ⟨w.heap.size, o, none⟩) hl).trans ((hb.frozen (p := ⟨w.heap.size, o, none⟩) (by show w.heap.size < _; omega)).trans (f1 o))⟩
set_option maxRecDepth 100000 in
set_option maxHeartbeats 6400000 in
theorem top_c (A : Option Addr) (q c : Nat) (ts : Nat → Int) (w : World) (h : RowC w A q ts) (hq : q ≤ 100) :
    Calls Try.prog 53 #[.slice A q c] w (NewM w (q + 1) (Z.closeM (topM ts q) (q + 1))) := by
  have HR := Lib.hid h
  clear h
  have FC : ∀ W, Calls Try.prog 96 #[.int .i64 ((q : Int) + 1)] W (NewM W (q + 1) blankM) := fun W => by
    have := free_c (q + 1) W (by omega) (by omega)
    rwa [show ((q + 1 : Nat) : Int) = (q : Int) + 1 by omega] at this
  have HFC := Lib.hid FC
  clear FC
  obtain ⟨n, hn⟩ : ∃ n, q + 1 = n := ⟨_, rfl⟩
  rw [hn] at HFC
  have HN := Lib.hid hn
  have hn1 : 1 ≤ n := by omega
  have hn2 : n ≤ 101 := by omega
  clear hn
  go_enter Try.func53, Try.ntmps53
  go_upto_region 1 with fail
  refine at_world (fun W => Hid ((Below w.heap.size w W ∧ W.heap.size = w.heap.size + 1) ∧ (∀ o, W.cell? ⟨w.heap.size, o, none⟩ = [Value.slice none 0 0][o]?) ∧ (∀ o, W.frozen? ⟨w.heap.size, o, none⟩ = false))) (Lib.hid ⟨⟨(by repeat' (first | exact Below.refl _ _ | (refine Below.alloc ?_ ?_ _) | (refine Below.setCell ?_ ?_ _) | (refine Below.drew ?_) | (refine below_next ?_ ?_ (by assumption)) | omega | (simp; done) | (simp; omega))), by simp⟩, (by intro o; simp [go_sem]), (by intro o; simp [go_sem])⟩) ?_
  intro W0 H0
  go_upto_region 2 with (go_at_call 96; refine (HFC.out _).mono ?_; rintro e w1 ⟨B, R, C, cap, rfl, hcap, hom, hb⟩)
  refine at_world (fun W => Hid (TopIn w w1.heap.size B R C n cap blankM W)) (Lib.hid (TopIn.start H0.out.1 H0.out.2.1 H0.out.2.2 hom hb)) ?_
  obtain ⟨b3, hb3⟩ : ∃ b, w1.heap.size = b := ⟨_, rfl⟩
  simp only [hb3]
  clear hom hb HFC H0 hb3 w1 W0
  intro W1 H1
  go_wp2_with fail
  go_loopw [12] (fun v wr => ∃ k : Nat, k ≤ q ∧ v = .int .i64 k ∧ TopIn w b3 B R C n cap (topM ts k) wr) (fun v _ => q - (intOf v).toNat)
  case atStart => exact ⟨0, by omega, rfl, H1.out.1, H1.out.2.1.alike (topM_zero ts n), H1.out.2.2⟩
  case round =>
    obtain ⟨k, hk, rfl, htop⟩ := hrel
    have HT := Lib.hid htop
    clear htop
    obtain ⟨wo, rfl⟩ : ∃ wo : World, wo = wr := ⟨_, rfl⟩
    by_cases hlt : k < q
    · obtain ⟨ad, rfl, hc⟩ := (HR.out.below HT.out.1).2 (by omega)
      have ct := hc k hlt
      have hk0 : (0 : Int) ≤ (k : Int) := by omega
      have hk1 : (k : Int) < (q : Int) := by omega
      have HSt := Lib.hid (topM_step ts k n)
      have MX := fun W => max_c (ts k) W
      have MN := fun W => min_c (ts k) W
      have b1 := maxT_bd (ts k)
      have b2 := minT_bd (ts k)
      obtain ⟨tv, htv⟩ : ∃ x, ts k = x := ⟨_, rfl⟩
      rw [htv] at ct b1 b2 HSt
      simp only [htv] at MX MN
      obtain ⟨x, hx⟩ : ∃ x, maxT tv = x := ⟨_, rfl⟩
      obtain ⟨y, hy⟩ : ∃ x, minT tv = x := ⟨_, rfl⟩
      simp only [hx] at MX b1 HSt
      simp only [hy] at MN b2 HSt
      clear htv hx hy hc
      have hkn : k + 1 < n := by have := HN.out; omega
      have k00 := HT.out.2.2.2.1 0
      simp at k00
      have c1 := HT.out.2.1.outer (k + 1) hkn
      have c2 := HT.out.2.1.outer 0 (by omega)
      have c3 := HT.out.2.1.inner (k + 1) 0 hkn (by omega)
      have c4 := HT.out.2.1.inner 0 (k + 1) (by omega) hkn
      have f3 := HT.out.2.1.frz (k + 1) 0 hkn (by omega)
      have f4 := HT.out.2.1.frz 0 (k + 1) (by omega) hkn
      have n1 : R (k + 1) ≠ B := (HT.out.2.1.hR (k + 1) hkn).2.2.1
      have n2 : R 0 ≠ B := (HT.out.2.1.hR 0 (by omega)).2.2.1
      have n3 : R (k + 1) ≠ b3 := HT.out.2.2.1.2.2.2 (k + 1) hkn
      have n4 : R 0 ≠ b3 := HT.out.2.2.1.2.2.2 0 (by omega)
      have n5 : R (k + 1) ≠ R 0 := fun e => by have := HT.out.2.1.inj (k + 1) 0 hkn (by omega) e; omega
      have n5' : R 0 ≠ R (k + 1) := fun e => n5 e.symm
      obtain ⟨v3, hv3⟩ : ∃ v, topM ts k (k + 1) 0 = v := ⟨_, rfl⟩
      obtain ⟨v4, hv4⟩ : ∃ v, topM ts k 0 (k + 1) = v := ⟨_, rfl⟩
      rw [hv3] at c3
      rw [hv4] at c4
      clear hv3 hv4
      have ey : IntKind.i64.wrap (-y) = -y := IntWalk.i64_in _ (by omega)
      have es : IntKind.i64.wrap ((k : Int) + 1) = (k : Int) + 1 := IntWalk.i64_in _ (by omega)
      have es0 : (0 : Int) ≤ (k : Int) + 1 := by omega
      have es1 : (k : Int) + 1 < (n : Int) := by omega
      have est : ((k : Int) + 1).toNat = k + 1 := by omega
      have hz1 : (0 : Int) < (n : Int) := by omega
      have hz2 : 0 < n := by omega
      clear b1 b2
      go_upto_region 5 with fail
      go_region_held3 (fun w' => w'.cell? ⟨b3, 0, none⟩ = some (.slice (some ⟨B, 0, none⟩) n cap) ∧ w'.cell? ⟨B, k + 1, none⟩ = some (.slice (some ⟨R (k + 1), 0, none⟩) n (C (k + 1))) ∧ w'.cell? ⟨B, 0, none⟩ = some (.slice (some ⟨R 0, 0, none⟩) n (C 0))) (go_keep) ((first | (go_at_call 97; refine (MX _).mono ?_; rintro e w' ⟨rfl, rfl⟩) | (go_at_call 98; refine (MN _).mono ?_; rintro e w' ⟨rfl, rfl⟩)))
      clear ey es es0 est ct
      go_wp2_with fail
      all_goals exact ⟨⟨k + 1, by omega, by go_num, HT.out.changed (((Kept.refl R n wo).drew.setCell hkn 0 _).setCell (by omega) (k + 1) _) (((HT.out.2.1.drew.set hkn (by omega) x).set (by omega) hkn (-y)).alike HSt.out)⟩, by simp [intOf]; omega⟩
    · obtain rfl : k = q := by omega
      have HF := Lib.hid (topM_fit ts k n)
      have HK : Hid (Z.okM (Z.closeM (topM ts k) n) n = true) := Lib.hid (topM_keeps ts k n).ok
      obtain ⟨M, hM⟩ : ∃ M, topM ts k = M := ⟨_, rfl⟩
      rw [hM] at HT HF HK
      have HM0 := Lib.hid hM
      clear hM hk hlt H1
      have k00 := HT.out.2.2.2.1
      have f00 := HT.out.2.2.2.2.1
      have hb3l : b3 < wo.heap.size := HT.out.2.2.1.2.1
      go_wp2_with fail
      refine (closed_c (w.heap.size + 1) B R C n cap M _ HT.out.2.1 hn1 (by omega) HF.out (by have := HT.out.1.size; have := HT.out.2.2.1; omega)).mono ?_
      rintro e w2 ⟨hb2, hk2, ⟨ok, rfl, hom2⟩ | ⟨ok, rfl⟩⟩
      rotate_left
      · rw [HK.out] at ok; cases ok
      have H2 := Lib.hid (HT.out.changed hk2 hom2)
      have k2 := H2.out.2.2.2.1
      have f2 := H2.out.2.2.2.2.1
      have k3 := H2.out.2.2.2.2.2.1
      have f3 := H2.out.2.2.2.2.2.2
      have n1 : b3 ≠ w.heap.size := by have := H2.out.2.2.1.1; omega
      have n1' : w.heap.size ≠ b3 := fun e => n1 e.symm
      clear hb2 hk2 hom2 ok k00 f00 hb3l
      go_upto_region 8 with fail
      refine at_world (fun W => Hid (TopIn w b3 B R C n cap (Z.closeM M n) W)) (Lib.hid ⟨H2.out.1.setCell (by show w.heap.size ≤ b3; have := H2.out.2.2.1.1; omega) _, H2.out.2.1.keep (by simp) (Below.heap_setCell _ ⟨b3, 0, none⟩ _ _ (by have := H2.out.2.2.1.2.2.1; show B ≠ b3; omega)) (fun i hi => Below.heap_setCell _ ⟨b3, 0, none⟩ _ _ (H2.out.2.2.1.2.2.2 i hi)), by simpa using H2.out.2.2.1, fun o => ?_, fun o => by rw [World.frozen?_setCell]; exact f2 o, fun o => by rw [World.cell?_setCell_far _ _ _ _ n1]; exact k3 o, fun o => by rw [World.frozen?_setCell]; exact f3 o⟩) ?_
      · by_cases e : o = 0
        · subst e; exact World.cell?_setCell_same _ _ _ (k2 0)
        · rw [World.cell?_setCell_other _ _ _ _ (fun q => e (by injection q with _ q; exact q.symm))]; exact k2 o
      clear k2 f2 k3 f3 H2 w2 HT
      intro W3 H3
      have k2 := H3.out.2.2.2.1
      have k3 := H3.out.2.2.2.2.2.1
      have f3 := H3.out.2.2.2.2.2.2
      go_wp2_with fail
      obtain rfl := HN.out
      exact bodyPost_ret (v := .agg #[.slice (some ⟨B, 0, none⟩) (k + 1) cap]) (by simp [results, Try.results53, go_sem, *]) rfl ⟨B, R, C, cap, rfl, hcap, by rw [HM0.out]; exact (H3.out.2.1.lower (by omega)).keep (by simp) (Below.heap_setCell _ ⟨w.heap.size, 0, none⟩ _ _ (by have := H3.out.2.1.hB.1; show B ≠ w.heap.size; omega)) (fun i hi => Below.heap_setCell _ ⟨w.heap.size, 0, none⟩ _ _ (by have := (H3.out.2.1.hR i hi).1; show R i ≠ w.heap.size; omega)), H3.out.1.setCell (Nat.le_refl _) _⟩
end Go.Proofs.Ytdmphpkiclfhhaa.C
