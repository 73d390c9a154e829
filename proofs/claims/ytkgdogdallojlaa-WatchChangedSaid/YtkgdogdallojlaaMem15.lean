/- memory.Copy of any state: a walk. -/
import Derived.Test.YtkgdogdallojlaaMem14
namespace Go.Proofs.Ytkgdogdallojlaa.C
open Go.RowKit
set_option linter.unusedSimpArgs false
set_option linter.unusedVariables false
theorem MS.mono {w : World} {base base' p n : Nat} {L : Value} {ts : Nat → Int} {ad ln cp : Nat → Nat} {f : Nat → Nat → Int} (hm : MS w base p L n ts ad ln cp f) (hb : base' ≤ base) : MS w base' p L n ts ad ln cp f :=
  ⟨⟨Nat.le_trans hb hm.hp.1, hm.hp.2⟩, hm.cell, hm.frz, hm.own.imp (fun h => own_mono h hb) (fun ⟨g, h1, h2, h3⟩ => ⟨g, h1, Nat.le_trans hb h2, h3⟩), hm.hL, fun i hi => ⟨Nat.le_trans hb (hm.hA i hi).1, (hm.hA i hi).2⟩, hm.inj, hm.inner, hm.ifrz⟩
/-- .. with what the copy owns. -/
structure CS (w : World) (B p g cap n k : Nat) (ts : Nat → Int) (ad0 ad ln cp : Nat → Nat) (f : Nat → Nat → Int) : Prop where
  ci : CI w B p g cap n k ts ad0 ad ln cp f
  own : w.ownsRow B 52 2 (.slice (some ⟨g, 0, none⟩) n cap) n (xsM ts ad ln cp n)
  pfrz : w.frozen? ⟨p, 0, none⟩ = false
  lcp : ∀ i, i < k → ln i ≤ cp i
  afr : ∀ i j, i < k → j < ln i → w.frozen? ⟨ad i, j, none⟩ = false
  inj : ∀ i j, i < k → j < k → ad i = ad j → i = j
theorem CS.step {w w1 : World} {B p g cap n k : Nat} {ts : Nat → Int} {ad0 ad ln cp : Nat → Nat} {f : Nat → Nat → Int} {gn cn : Nat} (h : CS w B p g cap n k ts ad0 ad ln cp f) (hk : k < n) (hr : RowNew w gn cn (ln k) (f k) w1) :
    CS (w1.setCell ⟨g, k * 2 + 1, none⟩ (.slice (some ⟨gn, 0, none⟩) (ln k) cn)) B p g cap n (k + 1) ts ad0 (fun i => if i = k then gn else ad i) ln (fun i => if i = k then cn else cp i) f := by
  have hc := h.ci.step hk hr
  obtain ⟨r1, r2, r3, r4, r5, hb⟩ := hr
  have k1 : ∀ b, b ≠ g → (w1.setCell ⟨g, k * 2 + 1, none⟩ (.slice (some ⟨gn, 0, none⟩) (ln k) cn)).heap[b]? = w1.heap[b]? := fun b hb => Below.heap_setCell w1 ⟨g, k * 2 + 1, none⟩ _ b hb
  have hg := h.ci.hg
  have hp := h.ci.hp
  refine ⟨hc, ?_, ?_, fun i hi => ?_, fun i j hi hj => ?_, fun i j hi hj e => ?_⟩
  · rw [← xsM_set ts ad ln cp n k gn cn hk]
    exact ((own_below h.own hb).stored (k * 2 + 1) _).1
  · exact (m_frz (p := ⟨p, 0, none⟩) (k1 p (fun e => hg.2.2 e.symm))).trans ((hb.frozen (p := ⟨p, 0, none⟩) hp.2).trans h.pfrz)
  · by_cases e : i = k
    · subst e; simpa using r3
    · simp only [e, if_false]; exact h.lcp i (by omega)
  · by_cases e : i = k
    · subst e
      simp only [if_true]
      exact (m_frz (p := ⟨gn, j, none⟩) (k1 gn (by omega))).trans (r5 j hj)
    · simp only [e, if_false]
      have hn := h.ci.new i (by omega)
      exact (m_frz (p := ⟨ad i, j, none⟩) (k1 _ hn.2.2.1)).trans ((hb.frozen (p := ⟨ad i, j, none⟩) hn.2.1).trans (h.afr i j (by omega) hj))
  · by_cases e1 : i = k
    · by_cases e2 : j = k
      · omega
      · simp only [e1, e2, if_true, if_false] at e
        have := (h.ci.new j (by omega)).2.1; omega
    · by_cases e2 : j = k
      · simp only [e1, e2, if_true, if_false] at e
        have := (h.ci.new i (by omega)).2.1; omega
      · simp only [e1, e2, if_false] at e
        exact h.inj i j (by omega) (by omega) e
def CopyPost (n : Nat) (ts : Nat → Int) (ln : Nat → Nat) (f : Nat → Nat → Int) (w : World) (e : Ending) (w' : World) : Prop :=
  ∃ p L ad cp, e = .returned (.pointer (some ⟨p, 0, none⟩)) ∧ Below w.heap.size w w' ∧ MS w' w.heap.size p L n ts ad ln cp f
theorem CS.done {w : World} {B p g cap n : Nat} {ts : Nat → Int} {ad0 ad ln cp : Nat → Nat} {f : Nat → Nat → Int} (h : CS w B p g cap n n ts ad0 ad ln cp f) (hl : ∀ i, i < n → 1 ≤ ln i ∧ ln i ≤ 16) : MS w B p (.slice (some ⟨g, 0, none⟩) n cap) n ts ad ln cp f :=
  ⟨h.ci.hp, h.ci.cell, h.pfrz, .inl h.own, fun e => h.ci.hg.2.2 (by simpa [Value.ownBlock] using e), fun i hi => ⟨(h.ci.new i hi).1, (h.ci.new i hi).2.1, (h.ci.new i hi).2.2.2, fun e => (h.ci.new i hi).2.2.1 (show g = ad i by simpa [Value.ownBlock] using e).symm, (hl i hi).1, (hl i hi).2, h.lcp i hi⟩, h.inj, h.ci.inner, h.afr⟩
set_option maxRecDepth 100000 in
set_option maxHeartbeats 3200000 in
theorem copy_s (base p n : Nat) (L : Value) (ts : Nat → Int) (ad ln cp : Nat → Nat) (f : Nat → Nat → Int) (w : World) (hm : MS w base p L n ts ad ln cp f) (hn2 : n ≤ 1000) :
    Calls Try.prog 13 #[.pointer (some ⟨p, 0, none⟩)] w (CopyPost n ts ln f w) := by
  have c0 := hm.cell
  rcases hm.own.form2 with ⟨rfl, rfl⟩ | ⟨g, cap, rfl, hcap⟩
  · clear hm
    go_enter Try.func13, Try.ntmps13
    go_upto_region 4 with (go_at_call 24; refine (cloneB_nil _).mono ?_; rintro e w1 ⟨rfl, rfl⟩)
    refine at_world (fun W => W.cell? ⟨w.heap.size, 0, none⟩ = some (.slice none 0 0) ∧ Hid (Below w.heap.size w W ∧ MS W w.heap.size w.heap.size (.slice none 0 0) 0 ts ad ln cp f)) ⟨by simp [go_sem], Lib.hid ⟨(by repeat' (first | exact Below.refl _ _ | (refine Below.alloc ?_ ?_ _) | (refine Below.setCell ?_ ?_ _) | (refine Below.drew ?_) | (refine below_next ?_ ?_ (by assumption)) | omega | (simp; done) | (simp; omega))), ⟨by simp, by simp [go_sem], by simp [go_sem], .inl ⟨rfl, .inl ⟨rfl, rfl⟩⟩, by simp [Value.ownBlock], by intros; omega, by intros; omega, by intros; omega, by intros; omega⟩⟩⟩ ?_
    intro W0 ⟨k0, H0⟩
    go_wp2_with fail
    go_loopw [19] (fun i wr => i = .int .i64 0 ∧ wr = W0) (fun i _ => 0)
    case atStart => exact ⟨rfl, rfl⟩
    case round =>
      obtain ⟨rfl, rfl⟩ := hrel
      go_wp2_with fail
      go_ret
      exact ⟨_, _, _, _, rfl, H0.out⟩
  · have HM := Lib.hid hm
    have HL : Hid (∀ i, i < n → 1 ≤ ln i ∧ ln i ≤ 16) := Lib.hid (fun i hi => ⟨(hm.hA i hi).2.2.2.2.1, (hm.hA i hi).2.2.2.2.2.1⟩)
    clear hm
    go_enter Try.func13, Try.ntmps13
    go_upto_region 4 with (go_at_call 24; refine (cloneB_s g n cap ts ad ln cp _ hn2 (fun j u hu => HM.out.own.cells j u hu)).mono ?_; rintro e w1 ⟨g', c', rfl, q1, q4, q6⟩)
    have q2 : g' < w1.heap.size := (own_blk q4 g' rfl).2
    have q3 : n ≤ c' := by
      rcases q4.2 with ⟨e, _⟩ | ⟨g'', cap', cur, e, _, _, h2, _⟩
      · simp at e
      · simp at e; omega
    refine at_world (fun W => ∃ p', p' = w1.heap.size ∧ W.cell? ⟨p', 0, none⟩ = some (.slice (some ⟨g', 0, none⟩) n c') ∧ Hid (Below w.heap.size w W ∧ CS W w.heap.size p' g' c' n 0 ts ad ad ln cp f)) ⟨_, rfl, by simp [go_sem], Lib.hid ⟨q6.alloc q6.size _, ?_⟩⟩ ?_
    · have hsz : (w1.alloc (.cells #[.slice (some ⟨g', 0, none⟩) n c'] 50)).heap.size = w1.heap.size + 1 := by simp
      have hba := (Below.refl w1.heap.size w1).alloc (Nat.le_refl _) (.cells #[.slice (some ⟨g', 0, none⟩) n c'] 50)
      have ho := own_below q4 hba
      refine ⟨⟨⟨q6.size, by omega⟩, ⟨q1, by omega, by omega⟩, by simp [go_sem], q3, fun i hi => ?_, fun j => ho.frozenAt j, fun i hi => absurd hi (by omega), fun i hi => (HM.out.hA i hi).2.1, fun i _ _ => rfl, fun i j hi hj => ?_⟩, ho, by simp [go_sem], fun i hi => absurd hi (by omega), fun i j hi => absurd hi (by omega), fun i j hi => absurd hi (by omega)⟩
      · obtain ⟨x1, x2⟩ := xsM_at ts ad ln cp n i hi
        have k1 := ho.cells (g := g') rfl (i * 2) _ x1
        have k2 := ho.cells (g := g') rfl (i * 2 + 1) _ x2
        rw [m_plain] at k1 k2
        exact ⟨k1, k2⟩
      · have hlt := (HM.out.hA i hi).2.1
        exact (hba.cell (p := ⟨ad i, j, none⟩) (Nat.lt_of_lt_of_le hlt q6.size)).trans ((q6.cell (p := ⟨ad i, j, none⟩) hlt).trans (HM.out.inner i j hi hj))
    intro W0 ⟨p', hpe, k0, H0⟩
    simp only [← hpe]
    clear hpe q1 q2 q3 q4 q6 c0 w1
    go_wp2_with fail
    go_loopw [19] (fun i wr => ∃ (k : Nat) (ad' cp' : Nat → Nat), k ≤ n ∧ i = .int .i64 k ∧ CS wr w.heap.size p' g' c' n k ts ad ad' ln cp' f ∧ Below w.heap.size w wr) (fun i _ => n - (intOf i).toNat)
    case atStart => exact ⟨0, ad, cp, by omega, rfl, H0.out.2, H0.out.1⟩
    case round =>
      obtain ⟨k, ad', cp', hk, rfl, hci, hb⟩ := hrel
      have c0 := hci.ci.cell
      by_cases hlt : k < n
      · have HC := Lib.hid hci
        have HB := Lib.hid hb
        obtain ⟨c1, c2⟩ := hci.ci.rows k hlt
        have f2 := hci.ci.frz (k * 2 + 1)
        have HR := Lib.hid (fun j (hj : j < ln k) => hci.ci.inner k j hlt hj)
        have HK := Lib.hid (HL.out k hlt)
        have hk0 : (0 : Int) ≤ (k : Int) := by omega
        have hk1 : (k : Int) < (n : Int) := by omega
        have hs := hb.size
        clear hci hb k0 c1
        obtain ⟨wo, rfl⟩ : ∃ wo : World, wo = wr := ⟨_, rfl⟩
        have CL := fun (W : World) (h : ∀ j, j < ln k → W.cell? ⟨ad' k, j, none⟩ = some (.int .i64 (f k j))) => clone_c ⟨ad' k, 0, none⟩ (ln k) (cp' k) (f k) W HK.out.1 (by have := HK.out.2; omega) (fun j hj => by rw [m_plain]; exact h j hj)
        go_upto_region 7 with fail
        go_region_with (go_at_call 25; refine (CL wo.drew HR.out).mono ?_; rintro e w1 ⟨gn, cn, rfl, hrn0⟩; have hrn := hrn0.undrew; clear hrn0; have q3 := copy_keep HC.out.ci hlt hrn.2.2.2.2.2; have q0 := q3.1; have q1 := q3.2.1; have q2 := q3.2.2; clear q3)
        all_goals have HS : Hid (CS (w1.setCell ⟨g', k * 2 + 1, none⟩ (.slice (some ⟨gn, 0, none⟩) (ln k) cn)) w.heap.size p' g' c' n (k + 1) ts ad (fun i => if i = k then gn else ad' i) ln (fun i => if i = k then cn else cp' i) f ∧ Below w.heap.size w (w1.setCell ⟨g', k * 2 + 1, none⟩ (.slice (some ⟨gn, 0, none⟩) (ln k) cn))) := Lib.hid ⟨HC.out.step hlt hrn, (HB.out.trans (hrn.2.2.2.2.2.mono hs)).setCell (p := ⟨g', k * 2 + 1, none⟩) HC.out.ci.hg.1 _⟩
        all_goals refine at_normal (fun W => Hid (CS W w.heap.size p' g' c' n (k + 1) ts ad (fun i => if i = k then gn else ad' i) ln (fun i => if i = k then cn else cp' i) f ∧ Below w.heap.size w W)) HS ?_
        all_goals clear HS q0 q1 q2 hrn
        all_goals intro W HS
        all_goals go_wp2_with fail
        all_goals exact ⟨⟨k + 1, _, _, by omega, by go_num, HS.out.1, HS.out.2⟩, by simp [intOf]; omega⟩
      · obtain rfl : k = n := by omega
        have HC := Lib.hid hci
        have HB := Lib.hid hb
        clear hci hb hk hlt
        go_wp2_with fail
        go_ret
        exact ⟨p', _, ad', cp', rfl, HB.out, HC.out.done HL.out⟩
end Go.Proofs.Ytkgdogdallojlaa.C
