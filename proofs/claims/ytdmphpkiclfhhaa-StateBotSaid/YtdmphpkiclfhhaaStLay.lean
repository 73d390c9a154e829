/- l18.Layout: walk. -/
import Derived.Test.YtdmphpkiclfhhaaSt6
import Derived.Deep.RegionLaw
import Derived.Deep.AppendLies
namespace Go.Proofs.Ytdmphpkiclfhhaa.C
open Go.RowKit
set_option linter.unusedSimpArgs false
set_option linter.unusedVariables false
theorem st_bd (W : World) (cs : Array Value) (t : TypeId) : ∀ j u, cs.toList[j]? = some u → (W.alloc (.cells cs t)).cell? ((⟨W.heap.size, 0, none⟩ : Addr).add j) = some u := by
  intro j u hu
  rw [i_plain, cell_of_row _ _ _ _ _ _ (heap_alloc_new W _)]
  simpa using hu
theorem LyIn.snoc {w wo w1 w2 : World} {v : Value} {k : Nat} {nm : Nat → ByteArray} {t : ByteArray} {g cap : Nat} {o : Obj} (h : LyIn w wo v k nm) (hb : Below wo.heap.size wo w1)
    (hown : w2.ownsRow (w.heap.size + 3) 57 4 (.slice (some ⟨g, 0, none⟩) (k + 1) cap) (k + 1) (xsL nm k ++ [.string t, .int .i64 3, .int .i64 0, .int .i64 (k : Int)])) (hg : (w1.alloc o).grownBy w2 v.ownBlock) (hat : v.ownBlock = some g ∨ g = w1.heap.size + 1) :
    LyIn w (w2.setCell ⟨w.heap.size + 1 + 1, 0, none⟩ (.slice (some ⟨g, 0, none⟩) (k + 1) cap)) (.slice (some ⟨g, 0, none⟩) (k + 1) cap) (k + 1) (fun i => if i = k then t else nm i) := by
  obtain ⟨h1, h2, h3, h4, h5, h6⟩ := h
  have hv : ∀ q, v.ownBlock = some q → w.heap.size + 3 ≤ q := fun q hq => (World.ownsRow.lt h6 q hq).1
  have hs := hb.size
  have ha : (w1.alloc o).heap.size = w1.heap.size + 1 := by simp
  have hs2 : w1.heap.size + 1 ≤ w2.heap.size := by have := hg.size; omega
  have hgb : w.heap.size + 3 ≤ g := by
    rcases hat with hat | hat
    · exact hv g hat
    · omega
  have ck : ∀ p : Addr, p.block < w.heap.size + 3 → w2.cell? p = wo.cell? p := fun p hp =>
    (hg.cell_far p (by omega) (fun e => by have := hv _ e.symm; omega)).trans ((((Below.refl w1.heap.size w1).alloc (Nat.le_refl _) o).cell (by omega)).trans (hb.cell (by omega)))
  have fk : ∀ p : Addr, p.block < w.heap.size + 3 → w2.frozen? p = wo.frozen? p := fun p hp =>
    (hg.frozen_far p (by omega) (fun e => by have := hv _ e.symm; omega)).trans ((((Below.refl w1.heap.size w1).alloc (Nat.le_refl _) o).frozen (by omega)).trans (hb.frozen (by omega)))
  have cs : ∀ p : Addr, p.block < w.heap.size + 3 → p ≠ ⟨w.heap.size + 1 + 1, 0, none⟩ → (w2.setCell ⟨w.heap.size + 1 + 1, 0, none⟩ (.slice (some ⟨g, 0, none⟩) (k + 1) cap)).cell? p = wo.cell? p := fun p hp hne => (World.cell?_setCell_other _ _ _ _ (fun e => hne e.symm)).trans (ck p hp)
  have fs : ∀ p : Addr, p.block < w.heap.size + 3 → (w2.setCell ⟨w.heap.size + 1 + 1, 0, none⟩ (.slice (some ⟨g, 0, none⟩) (k + 1) cap)).frozen? p = wo.frozen? p := fun p hp => (by simp [go_sem] : _ = w2.frozen? p).trans (fk p hp)
  refine ⟨?_, by simp; omega, ⟨?_, ?_, ?_, ?_⟩, ⟨?_, ?_, ?_, ?_⟩, ⟨?_, ?_, ?_⟩, ?_⟩
  · exact (((below_next h1 h1.size hb).alloc (by have := h1.size; omega) o).grown hg (by have := h1.size; omega) (fun q hq => by have := hv q hq; omega)).setCell (p := ⟨w.heap.size + 1 + 1, 0, none⟩) (by show w.heap.size ≤ w.heap.size + 1 + 1; omega) _
  · rw [cs _ (by show w.heap.size < _; omega) (by simp)]; exact h3.1
  · rw [cs _ (by show w.heap.size < _; omega) (by simp)]; exact h3.2.1
  · rw [fs _ (by show w.heap.size < _; omega)]; exact h3.2.2.1
  · rw [fs _ (by show w.heap.size < _; omega)]; exact h3.2.2.2
  · rw [cs _ (by show w.heap.size + 1 < _; omega) (by simp)]; exact h4.1
  · rw [cs _ (by show w.heap.size + 1 < _; omega) (by simp)]; exact h4.2.1
  · rw [cs _ (by show w.heap.size + 1 < _; omega) (by simp)]; exact h4.2.2.1
  · rw [cs _ (by show w.heap.size + 1 < _; omega) (by simp)]; exact h4.2.2.2
  · exact World.cell?_setCell_same _ _ _ ((ck _ (by show w.heap.size + 1 + 1 < _; omega)).trans h5.1)
  · rw [cs _ (by show w.heap.size + 1 + 1 < _; omega) (by simp)]; exact h5.2.1
  · rw [fs _ (by show w.heap.size + 1 + 1 < _; omega)]; exact h5.2.2
  · rw [xsL_snoc] at hown
    exact own_keptI hown (fun x hx => by
      have : g = x := by simpa [Value.ownBlock] using hx
      subst this
      exact Below.heap_setCell _ ⟨w.heap.size + 1 + 1, 0, none⟩ _ _ (by show g ≠ w.heap.size + 1 + 1; omega))
theorem LyIn.post {w wo : World} {v : Value} {n : Nat} {nm : Nat → ByteArray} (h : LyIn w wo v n nm) :
    LayPost n w (.returned (.agg #[v, .slice (some ⟨w.heap.size + 1, 0, none⟩) 1 1])) ((wo.setCell ⟨w.heap.size, 0, none⟩ v).setCell ⟨w.heap.size, 1, none⟩ (.slice (some ⟨w.heap.size + 1, 0, none⟩) 1 1)) := by
  obtain ⟨h1, h2, h3, h4, h5, h6⟩ := h
  have hk : ∀ b, b ≠ w.heap.size → ((wo.setCell ⟨w.heap.size, 0, none⟩ v).setCell ⟨w.heap.size, 1, none⟩ (.slice (some ⟨w.heap.size + 1, 0, none⟩) 1 1)).heap[b]? = wo.heap[b]? := fun b hb => by
    rw [Below.heap_setCell _ ⟨w.heap.size, 1, none⟩ _ b hb, Below.heap_setCell _ ⟨w.heap.size, 0, none⟩ _ b hb]
  have h7 : World.ownsRow ((wo.setCell ⟨w.heap.size, 0, none⟩ v).setCell ⟨w.heap.size, 1, none⟩ (.slice (some ⟨w.heap.size + 1, 0, none⟩) 1 1)) (w.heap.size + 3) 57 4 v n (xsL nm n) := own_keptI h6 (fun x hx => hk x (by have := (World.ownsRow.lt h6 x hx).1; omega))
  obtain ⟨A, c, rfl, hbr⟩ := ownL_br h7
  have hc : ∀ o, ((wo.setCell ⟨w.heap.size, 0, none⟩ (.slice A n c)).setCell ⟨w.heap.size, 1, none⟩ (.slice (some ⟨w.heap.size + 1, 0, none⟩) 1 1)).cell? ⟨w.heap.size + 1, o, none⟩ = wo.cell? ⟨w.heap.size + 1, o, none⟩ := fun o => cell_kept (p := ⟨w.heap.size + 1, o, none⟩) (hk _ (by show w.heap.size + 1 ≠ w.heap.size; omega))
  refine ⟨A, c, _, nm, rfl, hbr, ⟨by omega, fun _ => ⟨_, rfl, by simp; omega, fun i hi => ?_⟩⟩, (h1.setCell (p := ⟨w.heap.size, 0, none⟩) (Nat.le_refl _) _).setCell (p := ⟨w.heap.size, 1, none⟩) (Nat.le_refl _) _⟩
  obtain rfl : i = 0 := by omega
  rw [i_plain, i_plain, i_plain, i_plain, hc, hc, hc, hc]
  exact ⟨h4.1, h4.2.1, h4.2.2.1, h4.2.2.2⟩
set_option maxRecDepth 100000 in
set_option maxHeartbeats 6400000 in
theorem layout_c (n : Nat) (hn : n < 10) (w : World) : Calls Try.prog 6 #[.int .i64 n] w (LayPost n w) := by
  obtain ⟨i0, hi, hzz⟩ := Option.map_eq_some_iff.1 infoBd
  simp only [Prod.mk.injEq] at hzz
  have HInf := Lib.hid (And.intro hi hzz)
  clear hi hzz
  go_enter Try.func6, Try.ntmps6
  go_upto_region 2 with fail
  refine at_world (fun W => Hid (LyIn w W (.slice none 0 0) 0 (fun _ => ByteArray.empty))) ?_ ?_
  · refine Lib.hid ⟨(by repeat' (first | exact Below.refl _ _ | (refine Below.alloc ?_ ?_ _) | (refine Below.setCell ?_ ?_ _) | (refine Below.drew ?_) | (refine below_next ?_ ?_ (by assumption)) | omega | (simp; done) | (simp; omega))), by simp, ⟨by simp [go_sem], by simp [go_sem], by simp [go_sem], by simp [go_sem]⟩, ⟨by simp [go_sem], by simp [go_sem], by simp [go_sem], by simp [go_sem]⟩, ⟨by simp [go_sem], by simp [go_sem], by simp [go_sem]⟩, World.ownsRow_nil _ _ _ _⟩
  intro W0 H0
  go_wp2_with fail
  go_loopw [4] (fun i wr => ∃ (k : Nat) (v : Value) (nm : Nat → ByteArray), k ≤ n ∧ i = .int .i64 k ∧ Hid (LyIn w wr v k nm)) (fun i _ => n - (intOf i).toNat)
  case atStart => exact ⟨0, _, _, by omega, rfl, H0⟩
  case round =>
    clear H0
    obtain ⟨k, v, nm, hk, rfl, HI⟩ := hrel
    obtain ⟨wo, rfl⟩ : ∃ wo : World, wo = wr := ⟨_, rfl⟩
    by_cases hlt : k < n
    · have hk0 : (0 : Int) ≤ (k : Int) := by omega
      have hk1 : (k : Int) < (n : Int) := by omega
      have hds : (digS k).size = 1 := by unfold digS strOfNums; simp [ByteArray.size, ByteArray.empty, ByteArray.emptyWithCapacity]; rfl
      have DG := fun W => digits_1 k (by omega) W
      obtain ⟨s, hs⟩ : ∃ s, digS k = s := ⟨_, rfl⟩
      rw [hs] at hds
      simp only [hs] at DG
      clear hs
      have hcat : IntKind.i64.max = 9223372036854775807 := rfl
      have q0 := HI.out.2.2.2.2.1.1
      have qf := HI.out.2.2.2.2.1.2.2
      have hz := HI.out.2.1
      have HV : Hid (∀ q, v.ownBlock = some q → w.heap.size + 3 ≤ q) := Lib.hid (fun q hq => (World.ownsRow.lt HI.out.2.2.2.2.2 q hq).1)
      go_upto_region 5 with fail
      go_region_law (first | (go_simp; go_at_call 26; refine (DG _).mono ?_; rintro e w1 ⟨rfl, hb1⟩; have hb2 : Below wo.heap.size wo w1 := ((Below.refl wo.heap.size wo).drew).trans hb1; have HB1 := Lib.hid hb2; have q1 : w1.cell? ⟨w.heap.size + 1 + 1, 0, none⟩ = some v := cell_later hb2 q0; have q1a : ∀ o, (w1.alloc o).cell? ⟨w.heap.size + 1 + 1, 0, none⟩ = some v := fun o => (((Below.refl w1.heap.size w1).alloc (Nat.le_refl _) o).cell (p := ⟨w.heap.size + 1 + 1, 0, none⟩) (by have := hb2.size; show w.heap.size + 1 + 1 < _; omega)).trans q1; clear hb1 hb2) | (refine step_append_lies (w1.alloc (.cells #[.string (⟨#[118]⟩ ++ s), .int .i64 3, .int .i64 0, .int .i64 k] 57)) (by rfl) (.tmp 14) (.tmp 20) 25 (by rfl) (w.heap.size + 3) 57 i0 (.agg #[.string ByteArray.empty, .int .i64 0, .int .i64 0, .int .i64 0]) 4 40 Try.underlying25 HInf.out.1 HInf.out.2.1 HInf.out.2.2.1 HInf.out.2.2.2 rfl (by omega) v k _ (by rfl) (ownI_below (ownI_below HI.out.2.2.2.2.2 HB1.out) ((Below.refl _ _).alloc (Nat.le_refl _) _)) ⟨w1.heap.size, 0, none⟩ 1 1 [.string (⟨#[118]⟩ ++ s), .int .i64 3, .int .i64 0, .int .i64 k] (by rfl) rfl (st_bd w1 #[.string (⟨#[118]⟩ ++ s), .int .i64 3, .int .i64 0, .int .i64 k] 57) (by simp [Value.oneCell']) (by omega) (by unfold maxLen; omega) (by omega) (by have := HB1.out.size; simp; omega) (w1.heap.size + 1) (by simp) ?_; intro g cap w2 hown hgrow hat hlt2; have hl1 := HB1.out.size; have hc2 : w2.cell? ⟨w.heap.size + 1 + 1, 0, none⟩ = some v := (hgrow.cell_far ⟨w.heap.size + 1 + 1, 0, none⟩ (by show w.heap.size + 1 + 1 < _; simp; omega) (fun e => absurd (HV.out _ e.symm) (by simp))).trans (((Below.refl w1.heap.size w1).alloc (Nat.le_refl _) _).cell (p := ⟨w.heap.size + 1 + 1, 0, none⟩) (by show w.heap.size + 1 + 1 < _; omega) |>.trans q1); have hf2 : w2.frozen? ⟨w.heap.size + 1 + 1, 0, none⟩ = false := (hgrow.frozen_far ⟨w.heap.size + 1 + 1, 0, none⟩ (by show w.heap.size + 1 + 1 < _; simp; omega) (fun e => absurd (HV.out _ e.symm) (by simp))).trans (((Below.refl w1.heap.size w1).alloc (Nat.le_refl _) _).frozen (p := ⟨w.heap.size + 1 + 1, 0, none⟩) (by show w.heap.size + 1 + 1 < _; omega) |>.trans ((HB1.out.frozen (p := ⟨w.heap.size + 1 + 1, 0, none⟩) (by show w.heap.size + 1 + 1 < _; omega)).trans qf)); have HG := Lib.hid (And.intro hown (And.intro hgrow hat)); clear hown hgrow hat hlt2 hl1))
      all_goals have HN : Hid (LyIn w (w2.setCell ⟨w.heap.size + 1 + 1, 0, none⟩ (.slice (some ⟨g, 0, none⟩) (k + 1) cap)) (.slice (some ⟨g, 0, none⟩) (k + 1) cap) (k + 1) (fun i => if i = k then ⟨#[118]⟩ ++ s else nm i)) := Lib.hid (HI.out.snoc HB1.out HG.out.1 HG.out.2.1 HG.out.2.2)
      all_goals clear HG HB1 q1 q1a hc2 hf2 q0 qf HV DG HI
      all_goals go_wp2_with fail
      all_goals exact ⟨⟨k + 1, _, _, by omega, by go_num, HN⟩, by simp [intOf]; omega⟩
    · obtain rfl : k = n := by omega
      clear hk hlt
      obtain ⟨A', c', rfl, _⟩ := ownL_br HI.out.2.2.2.2.2
      have g0 := HI.out.2.2.2.2.1.1
      have g1 := HI.out.2.2.2.2.1.2.1
      have g2 := HI.out.2.2.1
      obtain ⟨g2, g3, g4, g5⟩ := g2
      have HP := Lib.hid (HI.out.post)
      clear HI
      go_wp2_with fail
      exact bodyPost_ret (v := .agg #[.slice A' k c', .slice (some ⟨w.heap.size + 1, 0, none⟩) 1 1]) (by simp [results, Try.results6, go_sem, *]) rfl HP.out
end Go.Proofs.Ytdmphpkiclfhhaa.C
