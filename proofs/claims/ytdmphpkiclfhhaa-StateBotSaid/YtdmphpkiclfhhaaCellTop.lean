/- slices.Repeat of one interval, cells.Top, l17.awake: walks. -/
import Derived.Test.YtdmphpkiclfhhaaCellApp
import Derived.Test.YtdmphpkiclfhhaaCellRd
import Derived.Test.YtdmphpkiclfhhaaCopyN
import Derived.Test.YtdmphpkiclfhhaaMul
import Derived.Test.YtdmphpkiclfhhaaTwo
import Derived.Deep.OwnRows
namespace Go.Proofs.Ytdmphpkiclfhhaa.C
open Go.RowKit
set_option linter.unusedSimpArgs false
set_option linter.unusedVariables false
attribute [local go_sem] fieldItv0 fieldItv1
/-- m places of n are filled. -/
def fillI (p : Int × Int) (m : Nat) : Nat → Int × Int := fun i => if i < m then p else (0, 0)
theorem made_itv (n : Nat) (p : Int × Int) : (madeCells (Value.agg #[.int .i64 0, .int .i64 0]).cells (n * 2)).toList = xsI (fillI p 0) n := by
  apply List.ext_getElem?
  intro j
  rw [xsI_get]
  unfold fillI
  by_cases hj : j < n * 2
  · rw [if_pos hj]
    have h2 : j % 2 = 0 ∨ j % 2 = 1 := by omega
    rcases h2 with h2 | h2
    · simp [madeCells, hj, Value.cells, h2]
    · simp [madeCells, hj, Value.cells, h2]
  · rw [if_neg hj]
    simp [madeCells, hj]
theorem fillI_splice (n m q : Nat) (p : Int × Int) (h : m + q ≤ n) : splice (xsI (fillI p m) n) (m * 2) (xsI (fun _ => p) q) = xsI (fillI p (m + q)) n := by
  apply List.ext_getElem?
  intro j
  unfold splice
  rw [xsI_get]
  by_cases h1 : j < m * 2
  · rw [List.getElem?_append_left (by simp [xsI_len]; omega), List.getElem?_take, if_pos h1, xsI_get, if_pos (show j < n * 2 by omega), if_pos (show j < n * 2 by omega)]
    unfold fillI
    rw [if_pos (show j / 2 < m by omega), if_pos (show j / 2 < m + q by omega)]
  · rw [List.getElem?_append_right (by simp [xsI_len]; omega)]
    have hl : ((xsI (fillI p m) n).take (m * 2)).length = m * 2 := by simp [xsI_len]; omega
    rw [hl]
    by_cases h2 : j < (m + q) * 2
    · rw [List.getElem?_append_left (by simp [xsI_len]; omega), xsI_get, if_pos (show j - m * 2 < q * 2 by omega), if_pos (show j < n * 2 by omega)]
      have e : (j - m * 2) % 2 = j % 2 := by omega
      rw [e]
      unfold fillI
      rw [if_pos (show j / 2 < m + q by omega)]
    · rw [List.getElem?_append_right (by simp [xsI_len]; omega), List.getElem?_drop, xsI_get, xsI_len]
      rw [show m * 2 + q * 2 + (j - m * 2 - q * 2) = j by omega]
      unfold fillI
      rw [if_neg (show ¬ j / 2 < m by omega), if_neg (show ¬ j / 2 < m + q by omega)]
def RepPost (n : Nat) (p : Int × Int) (w : World) (e : Ending) (w' : World) : Prop := ∃ g, e = .returned (.slice (some ⟨g, 0, none⟩) n n) ∧ OI w' w.heap.size (some ⟨g, 0, none⟩) n n (fun _ => p) ∧ Below w.heap.size w w'
theorem OI.mk {w : World} {base g n : Nat} {r : Nat → Int × Int} (hg : base ≤ g) (hn : n ≤ 1000) (h : w.heap[g]? = some (.cells (xsI r n).toArray 39 (0, 0))) : OI w base (some ⟨g, 0, none⟩) n n r :=
  ⟨xsI_len _ _, .inr ⟨g, n, _, rfl, hg, h, Nat.le_refl _, by unfold maxLen; omega, by simp [xsI_len], by rw [List.take_of_length_le (by simp [xsI_len])]⟩⟩
theorem OI.heap {w : World} {base g n : Nat} {r : Nat → Int × Int} (h : w.ownsRow base 39 2 (.slice (some ⟨g, 0, none⟩) n n) n (xsI r n)) : base ≤ g ∧ w.heap[g]? = some (.cells (xsI r n).toArray 39 (0, 0)) := by
  rcases h.2 with ⟨e, _⟩ | ⟨g', cap, cur, e, hg, hc, hl, hm, hs, ht⟩
  · cases e
  · injection e with e1 e2 e3
    injection e1 with e1
    injection e1 with e1
    subst e1 e3
    refine ⟨hg, ?_⟩
    rw [hc, ← ht, List.take_of_length_le (by simp; omega)]
set_option maxRecDepth 100000 in
set_option maxHeartbeats 6400000 in
theorem repeatI_c (a : Addr) (p : Int × Int) (n : Nat) (w : World) (hn : 1 ≤ n) (hn2 : n ≤ 1000) (hc : CR w (some a) 1 (fun _ => p)) :
    Calls Try.prog 91 #[.slice (some a) 1 1, .int .i64 n] w (RepPost n p w) := by
  obtain ⟨i0, hi, hz⟩ := Option.map_eq_some_iff.1 infoItv
  simp only [Prod.mk.injEq] at hz
  have HI := Lib.hid (And.intro hi hz)
  have h1 : (Try.prog.info? 39).map (·.size) = some 2 := by kernel_rfl
  have HC := Lib.hid hc
  have g0 : decide ((n : Int) < 0) = false := decide_eq_false (by omega)
  clear hc hi hz
  go_enter Try.func91, Try.ntmps91
  go_upto_region 6 with (go_at_call 117; refine (mul_1 n _ (by omega)).mono ?_; rintro e w' ⟨rfl, rfl⟩)
  go_upto_region 7 with (refine wpList_make_full _ rfl (.tmp 29) (.tmp 29) 61 rfl w.heap.size 39 i0 (.agg #[.int .i64 0, .int .i64 0]) 2 Try.underlying61 HI.out.1 HI.out.2.1 HI.out.2.2.1 .i64 .i64 n n n (by rfl) (by rfl) rfl rfl (by rw [HI.out.2.2.2]; omega) (by unfold maxLen; omega) (Nat.le_refl _) ?_; intro w1 hown hg)
  have hb : Below w.heap.size w w1 := (Below.refl _ _).grown hg (Nat.le_refl _) (by rintro k hk; cases hk)
  rw [made_itv n p] at hown
  obtain ⟨_, hblk⟩ := OI.heap hown
  have hsrc : ∀ j u, (xsI (fun _ => p) 1)[j]? = some u → w1.cell? (a.add j) = some u := (HC.out.below hb).news
  have HX := Lib.hid (And.intro hsrc (And.intro hblk hb))
  clear hown hg hb hsrc hblk HI
  have hmin : Nat.min 1 n = 1 := by show min 1 n = 1; omega
  go_upto_region 8 with (with_reducible refine wpList_copy_n rfl (.tmp 31) (.tmp 32) 61 61 rfl 39 Try.underlying61 2 h1 a n n 1 1 1 w.heap.size 0 rfl rfl (xsI (fillI p 0) n) 39 HX.out.2.1 hmin (xsI (fun _ => p) 1) (xsI_len _ _) HX.out.1 (by rw [xsI_len, xsI_len]; omega) (xsI_one _ _) w.heap.size w HX.out.2.2 (Nat.le_refl _) ?_; intro w2 hg1 hb1)
  have HG : Hid (w2.heap[w.heap.size]? = some (.cells (xsI (fillI p 1) n).toArray 39 (0, 0))) := Lib.hid (by have := hg1.out; rw [show 0 = 0 * 2 by rfl, fillI_splice n 0 1 p (by omega)] at this; simpa using this)
  have HB := Lib.hid hb1
  clear hg1 hb1 HX hmin w1
  obtain ⟨g, hge⟩ : ∃ g, w.heap.size = g := ⟨_, rfl⟩
  have HGE := Lib.hid hge
  rw [hge] at HG HB
  simp only [hge]
  clear hge
  go_wp2_with fail
  go_loopw [8] (fun u wr => ∃ m : Nat, 1 ≤ m ∧ m ≤ n ∧ u = .int .i64 m ∧ wr.heap[g]? = some (.cells (xsI (fillI p m) n).toArray 39 (0, 0)) ∧ Below g w wr) (fun u _ => n - (intOf u).toNat)
  case atStart => exact ⟨1, Nat.le_refl _, hn, rfl, HG.out, HB.out⟩
  case round =>
    obtain ⟨m, hm1, hm2, rfl, hg, hb⟩ := hrel
    have HGr := Lib.hid hg
    have HBr := Lib.hid hb
    clear hg hb
    by_cases hlt : m < n
    · obtain ⟨q, hq⟩ : ∃ q, Nat.min m (n - m) = q := ⟨_, rfl⟩
      have hq' : min m (n - m) = q := hq
      have hq1 : 1 ≤ q := by omega
      have hq2 : m + q ≤ n := by omega
      have hsrc : ∀ j u, (xsI (fun _ => p) q)[j]? = some u → wr.drew.cell? ((⟨g, 0, none⟩ : Addr).add j) = some u := fun j u hu => by
        have hj : j < q * 2 := by
          rcases Nat.lt_or_ge j (q * 2) with h | h
          · exact h
          · rw [xsI_get, if_neg (by omega)] at hu; cases hu
        rw [xsI_get, if_pos hj] at hu
        rw [i_plain]
        show wr.cell? ⟨g, j, none⟩ = some u
        rw [cell_of_row wr g j _ _ _ HGr.out, List.getElem?_toArray, xsI_get, if_pos (by omega)]
        unfold fillI
        rw [if_pos (show j / 2 < m by omega)]
        exact hu
      have HS := Lib.hid hsrc
      have HQ := Lib.hid hq
      have HFS := Lib.hid (fillI_splice n m q p hq2)
      have hm0 : (0 : Int) ≤ (m : Int) := by omega
      have hmn : (m : Int) ≤ (n : Int) := by omega
      have hne : (n = m) = False := by simp; omega
      have hne' : (m = n) = False := by simp; omega
      clear hq hq' hsrc
      go_upto_region 9 with fail
      refine region_two 7 (fun _ => True) [(false, _ :: _ :: _ :: _ :: _ :: _ :: [_])] (by kernel_rfl) ?hB rfl trivial (fun _ _ => ?_)
      case hB => kernel_rfl
      (try simp only [wpSeg, twoC, if_true, Bool.false_eq_true, if_false])
      iterate 7 (go_big_quiet_step (fail))
      refine wpQuiet_nil ?_
      (try simp only [wpSeg, twoC, if_true, Bool.false_eq_true, if_false])
      refine wpOp_step rfl (fun K hK => ?_)
      refine step_copy_n rfl (.tmp 41) (.tmp 44) 61 61 rfl 39 Try.underlying61 2 h1 ⟨g, 0, none⟩ (n - m) (n - m) m n q g (m * 2) (by rfl) (by rfl) (xsI (fillI p m) n) 39 (by exact HGr.out) HQ.out (xsI (fun _ => p) q) (xsI_len _ _) HS.out (by rw [xsI_len, xsI_len]; omega) (xsI_one _ _) g w HBr.out.drew (Nat.le_refl _) ?_
      intro w2 hg2 hb2
      refine hK _ _ ⟨trivial, ?_⟩
      have HG2 : Hid (w2.heap[g]? = some (.cells (xsI (fillI p (m + q)) n).toArray 39 (0, 0))) := Lib.hid (by have := hg2.out; rwa [HFS.out] at this)
      have HB2 := Lib.hid hb2
      have hgo : goInt q = Value.int .i64 (q : Int) := by simp [goInt]
      rw [hgo]
      clear hK K hg2 hb2 hgo HS HQ HFS HGr HBr hne hne'
      simp only [List.drop_succ_cons, List.drop_zero]
      go_wp2_with fail
      refine NoPanic.normal ?_
      go_wp2_with fail
      all_goals exact ⟨⟨m + q, by omega, by omega, by go_num, HG2.out, HB2.out⟩, by simp [intOf]; omega⟩
    · obtain rfl : m = n := by omega
      clear hlt hm1 hm2
      go_wp2_with fail
      go_ret
      refine ⟨g, rfl, ?_, by rw [HGE.out]; exact HBr.out⟩
      rw [HGE.out]
      exact (OI.mk (Nat.le_refl _) hn2 HGr.out).congr (fun i hi => by unfold fillI; rw [if_pos hi])
set_option maxRecDepth 100000 in
set_option maxHeartbeats 6400000 in
theorem repeat0_c (a : Addr) (p : Int × Int) (w : World) :
    Calls Try.prog 91 #[.slice (some a) 1 1, .int .i64 0] w (RepPost 0 p w) := by
  obtain ⟨i0, hi, hz⟩ := Option.map_eq_some_iff.1 infoItv
  simp only [Prod.mk.injEq] at hz
  have HI := Lib.hid (And.intro hi hz)
  have h1 : (Try.prog.info? 39).map (·.size) = some 2 := by kernel_rfl
  have M1 := fun W => mul_1 0 W (by omega)
  have hmin0 : Nat.min 1 0 = 0 := rfl
  clear hi hz
  go_enter Try.func91, Try.ntmps91
  go_upto_region 6 with (go_at_call 117; refine (M1 _).mono ?_; rintro e w' ⟨rfl, rfl⟩)
  go_upto_region 7 with (refine wpList_make_full _ rfl (.tmp 29) (.tmp 29) 61 rfl w.heap.size 39 i0 (.agg #[.int .i64 0, .int .i64 0]) 2 Try.underlying61 HI.out.1 HI.out.2.1 HI.out.2.2.1 .i64 .i64 0 0 0 (by rfl) (by rfl) rfl rfl (by rw [HI.out.2.2.2]; omega) (by unfold maxLen; omega) (Nat.le_refl _) ?_; intro w1 hown hg)
  have hb : Below w.heap.size w w1 := (Below.refl _ _).grown hg (Nat.le_refl _) (by rintro k hk; cases hk)
  rw [made_itv 0 p] at hown
  obtain ⟨_, hblk⟩ := OI.heap hown
  have HX := Lib.hid (And.intro hblk hb)
  clear hown hg hb hblk HI
  go_upto_region 8 with (with_reducible refine wpList_copy_n rfl (.tmp 31) (.tmp 32) 61 61 rfl 39 Try.underlying61 2 h1 a 0 0 1 1 0 w.heap.size 0 rfl rfl (xsI (fillI p 0) 0) 39 HX.out.1 hmin0 (xsI (fun _ => p) 0) (xsI_len _ _) (fun j v h => by rw [xsI_get, if_neg (by omega)] at h; cases h) (by rw [xsI_len, xsI_len]; omega) (xsI_one _ _) w.heap.size w HX.out.2 (Nat.le_refl _) ?_; intro w2 hg1 hb1)
  have HG : Hid (w2.heap[w.heap.size]? = some (.cells (xsI (fun _ => p) 0).toArray 39 (0, 0))) := Lib.hid (by have := hg1.out; simpa [splice, xsI] using this)
  have HB := Lib.hid hb1
  clear hg1 hb1 HX hmin0 w1
  obtain ⟨g, hge⟩ : ∃ g, w.heap.size = g := ⟨_, rfl⟩
  have HGE := Lib.hid hge
  rw [hge] at HG HB
  simp only [hge]
  clear hge
  go_wp2_with fail
  go_loopw [8] (fun u wr => u = .int .i64 0 ∧ wr = w2) (fun u _ => 0)
  case atStart => exact ⟨rfl, rfl⟩
  case round =>
    obtain ⟨rfl, rfl⟩ := hrel
    go_wp2_with fail
    go_ret
    refine ⟨g, rfl, ?_, by rw [HGE.out]; exact HB.out⟩
    rw [HGE.out]
    exact OI.mk (Nat.le_refl _) (by omega) HG.out
set_option maxRecDepth 100000 in
set_option maxHeartbeats 3200000 in
theorem ctop_c (t size : Int) (w : World) : Calls Try.prog 51 #[.int .i64 t, .int .i64 size] w (NewI (topN size) (fun _ => ofI t) w) := by
  obtain ⟨N, hN⟩ : ∃ N, topN size = N := ⟨_, rfl⟩
  rw [hN]
  have hN16 : N ≤ 16 := by rw [← hN]; unfold topN; omega
  obtain ⟨z, hz⟩ : ∃ z, ofI t = z := ⟨_, rfl⟩
  have LO := fun W => itvOf_c t W
  simp only [hz] at LO ⊢
  clear hz
  obtain ⟨u, hu⟩ : ∃ u : Int, (if 16 < size then 16 else size) = u := ⟨_, rfl⟩
  have hv : (if 0 < u then u else 0) = (N : Int) := by rw [← hN, ← hu]; unfold topN; split <;> split <;> omega
  have hv' : (if u < 0 then 0 else u) = (N : Int) := by rw [← hN, ← hu]; unfold topN; split <;> split <;> omega
  have hu' : (if size < 16 then size else 16) = u := by rw [← hu]; split <;> split <;> omega
  clear hN
  rcases Nat.eq_zero_or_pos N with h0 | h0
  · subst h0
    have hv0 : (if 0 < u then u else 0) = 0 := by simpa using hv
    have hv0' : (if u < 0 then 0 else u) = 0 := by simpa using hv'
    clear hv hv'
    go_enter Try.func51, Try.ntmps51
    go_wp2_with (first | (go_at_call 92; refine (LO _).mono ?_; rintro e w3 ⟨rfl, hb3⟩; have HB3 := Lib.hid (hb3.alloc hb3.size (.cells #[.int .i64 z.1, .int .i64 z.2] 39)); clear hb3) | (go_at_call 91; refine (repeat0_c _ z _).mono ?_; rintro e w4 ⟨g, rfl, ho, hb⟩; have HO := Lib.hid (And.intro ho hb); clear ho hb))
    go_ret
    exact ⟨_, _, rfl, HO.out.1.mono HB3.out.size, below_next HB3.out HB3.out.size HO.out.2⟩
  · obtain rfl : u = (N : Int) := by have := hv; split at this <;> omega
    have hN0 : (0 : Int) < (N : Int) := by omega
    clear hv hv'
    have LR := fun (W : World) (g : Nat) (hg : W.heap[g]? = some (.cells #[.int .i64 z.1, .int .i64 z.2] 39 (0, 0))) => repeatI_c ⟨g, 0, none⟩ z N W h0 (by omega) (CR.one _ _ _ _ hg)
    go_enter Try.func51, Try.ntmps51
    go_wp2_with (first | (go_at_call 92; refine (LO _).mono ?_; rintro e w3 ⟨rfl, hb3⟩; have HB3 := Lib.hid (hb3.alloc hb3.size (.cells #[.int .i64 z.1, .int .i64 z.2] 39)); clear hb3) | (go_at_call 91; refine (LR _ _ (heap_alloc_new _ _)).mono ?_; rintro e w4 ⟨g, rfl, ho, hb⟩; have HO := Lib.hid (And.intro ho hb); clear ho hb))
    go_ret
    exact ⟨_, _, rfl, HO.out.1.mono HB3.out.size, below_next HB3.out HB3.out.size HO.out.2⟩
end Go.Proofs.Ytdmphpkiclfhhaa.C
