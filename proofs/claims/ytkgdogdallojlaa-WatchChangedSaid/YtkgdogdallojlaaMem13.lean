/- the reference's memory in any state: Cut: a walk. -/
import Derived.Test.YtkgdogdallojlaaMem12
namespace Go.Proofs.Ytkgdogdallojlaa.C
open Go.RowKit
set_option linter.unusedSimpArgs false
set_option linter.unusedVariables false
theorem MS.cutNew {w w1 : World} {base p n : Nat} {L : Value} {ts : Nat → Int} {ad ln cp : Nat → Nat} {f : Nat → Nat → Int} (hm : MS w base p L n ts ad ln cp f) (hb0 : base ≤ w.heap.size) (k : Nat) (hk : k ≤ n) {L' : Value} {b : Nat} (hb : Below w.heap.size w w1) (hL' : L'.ownBlock = some b) (hbb : w.heap.size ≤ b) (hst : St w1 base L' k (xsM ts ad ln cp k)) :
    Below base w (w1.setCell ⟨p, 0, none⟩ L') ∧ MS (w1.setCell ⟨p, 0, none⟩ L') base p L' k ts ad ln cp f ∧ ∀ b, b < w.heap.size → b ≠ p → (w1.setCell ⟨p, 0, none⟩ L').heap[b]? = w.heap[b]? := by
  have h1 := hm.below hb
  have hs : (w1.setCell ⟨p, 0, none⟩ L').heap.size = w1.heap.size := by simp
  have kp := fun b (hb : b ≠ p) => Below.heap_setCell w1 ⟨p, 0, none⟩ L' b hb
  have hpw := hm.hp.2
  refine ⟨(hb.mono hb0).setCell (p := ⟨p, 0, none⟩) hm.hp.1 _, ⟨⟨hm.hp.1, by rw [hs]; exact h1.hp.2⟩, World.cell?_setCell_same _ _ _ h1.cell, by simpa [go_sem] using h1.frz, hst.keep (by omega) (fun x e => kp x (fun q => by rw [hL'] at e; injection e with e; omega)), fun e => by rw [hL'] at e; injection e with e; omega, fun i hi => ?_, fun i j hi hj => hm.inj i j (by omega) (by omega), fun i j hi hj => ?_, fun i j hi hj => ?_⟩, fun x hx hne => (kp x hne).trans (hb.block x hx)⟩
  · have hA := h1.hA i (by omega)
    have hA0 := hm.hA i (by omega)
    exact ⟨hA.1, by rw [hs]; exact hA.2.1, hA.2.2.1, fun e => by rw [hL'] at e; injection e with e; omega, hA.2.2.2.2⟩
  · exact (m_kept (p := ⟨ad i, j, none⟩) (kp _ (hm.hA i (by omega)).2.2.1)).trans (h1.inner i j (by omega) hj)
  · exact (m_frz (p := ⟨ad i, j, none⟩) (kp _ (hm.hA i (by omega)).2.2.1)).trans (h1.ifrz i j (by omega) hj)
theorem own_some {w w1 : World} {e : TypeId} {v : Value} {n : Nat} {xs : List Value} {x : Nat} (h : w1.ownsRow w.heap.size e 2 v n xs) (hat : v.ownBlock = (Value.slice (some ⟨w.heap.size, 0, none⟩) 0 0).ownBlock ∨ v.ownBlock = some x) : ∃ g cap, v = .slice (some ⟨g, 0, none⟩) n cap ∧ w.heap.size ≤ g := by
  rcases h.2 with ⟨rfl, _⟩ | ⟨g, cap, cur, rfl, hg, _⟩
  · simp [Value.ownBlock] at hat
  · exact ⟨g, cap, rfl, hg⟩
set_option maxRecDepth 100000 in
set_option maxHeartbeats 3200000 in
theorem rcut_s (base p n : Nat) (L : Value) (ts : Nat → Int) (ad ln cp : Nat → Nat) (f : Nat → Nat → Int) (c : Int) (w : World) (hm : MS w base p L n ts ad ln cp f) (hb0 : base ≤ w.heap.size) (hn : n ≤ 1000) :
    Calls Try.prog 8 #[.pointer (some ⟨p, 0, none⟩), .int .i64 c] w (CutPost w base p n L ts ad ln cp f c) := by
  have hif := cutM_if c n
  have hle := cutM_le c n
  have c0 := hm.cell
  have f0 := hm.frz
  have hpw := hm.hp.2
  have ne1 : ¬ w.heap.size = p := by omega
  rcases hm.own.form2 with ⟨rfl, rfl⟩ | ⟨g, cap, rfl, hcap⟩
  · obtain ⟨k, hk⟩ : ∃ k, cutM c 0 = k := ⟨_, rfl⟩
    obtain rfl : k = 0 := by omega
    rw [hk] at hif
    have hba : Below w.heap.size w (w.alloc (.cells #[] 52)) := (Below.refl _ _).alloc (Nat.le_refl _) _
    have HR := Lib.hid (hm.cutNew hb0 0 (Nat.le_refl _) (L' := .slice (some ⟨w.heap.size, 0, none⟩) 0 0) hba rfl (Nat.le_refl _) (.inl (own_mono (own_empty w 52 2) hb0)))
    have hsw : (w.alloc (.cells #[] 52)).setCell ⟨p, 0, none⟩ (.slice (some ⟨w.heap.size, 0, none⟩) 0 0) = (w.setCell ⟨p, 0, none⟩ (.slice (some ⟨w.heap.size, 0, none⟩) 0 0)).alloc (.cells #[] 52) := by simp [go_sem, hpw, ne1]
    rw [hsw] at HR
    clear hm hle hba hsw
    simp at hif
    go_enter Try.func8, Try.ntmps8
    go_wp2_with fail
    all_goals exact bodyPost_end (v := .tuple #[]) (by simp [results, Try.results8, go_sem, *]) rfl ⟨rfl, HR.out.1, ⟨.slice (some ⟨w.heap.size, 0, none⟩) 0 0, .inr ⟨_, Nat.le_refl _, rfl⟩, by rw [hk]; exact HR.out.2.1⟩, HR.out.2.2⟩
  · obtain ⟨k, hk⟩ : ∃ k, cutM c n = k := ⟨_, rfl⟩
    rw [hk] at hif hle
    obtain ⟨i0, hi, hz⟩ := Option.map_eq_some_iff.1 infoB
    simp only [Prod.mk.injEq] at hz
    obtain ⟨hz0, hz1, hz2⟩ := hz
    have HM := Lib.hid hm
    have hcw : ∀ j u, (xsM ts ad ln cp k)[j]? = some u → (w.alloc (.cells #[] 52)).cell? ((⟨g, 0, none⟩ : Addr).add j) = some u := fun j u hu => by
      rw [m_plain]
      exact cell_later ((Below.refl _ _).alloc (Nat.le_refl _) _) (hm.own.cells j u (xsM_take _ _ _ _ _ _ hle j u hu))
    have HCW := Lib.hid hcw
    clear hm hcw
    have hk0 : (0 : Int) ≤ (k : Int) := by omega
    have hk1 : (k : Int) ≤ (cap : Int) := by omega
    have hk2 : k ≤ cap := by omega
    go_enter Try.func8, Try.ntmps8
    go_wp2_with (at_builtin; refine wpList_append_own_at _ rfl _ _ 43 rfl w.heap.size 52 i0 (.agg #[.int .i64 0, .slice none 0 0]) 2 32 Try.underlying43 hi hz0 hz1 hz2 rfl (by omega) (.slice (some ⟨w.heap.size, 0, none⟩) 0 0) 0 [] (by rfl) (own_empty w 52 2) ⟨g, 0, none⟩ k _ (xsM ts ad ln cp k) (by rfl) (xsM_len _ _ _ _ _) HCW.out (xsM_one _ _ _ _ _) (by unfold maxLen; omega) (by omega) (by simp) ?_; intro v' w1 hown hg _ hat; have hb1 : Below w.heap.size w w1 := (((Below.refl _ _).alloc (Nat.le_refl _) _).grown hg (by simp) (by rintro q hq; simp [Value.ownBlock] at hq; omega)); have q0 := cell_later hb1 c0; have q1 : w1.frozen? ⟨p, 0, none⟩ = false := (hb1.frozen (p := ⟨p, 0, none⟩) hpw).trans f0; simp only [Nat.zero_add, List.nil_append] at hown; obtain ⟨g', cap', rfl, hgg⟩ := own_some hown hat; have HR : Hid (Below base w (w1.setCell ⟨p, 0, none⟩ (.slice (some ⟨g', 0, none⟩) k cap')) ∧ MS (w1.setCell ⟨p, 0, none⟩ (.slice (some ⟨g', 0, none⟩) k cap')) base p (.slice (some ⟨g', 0, none⟩) k cap') k ts ad ln cp f ∧ ∀ b, b < w.heap.size → b ≠ p → (w1.setCell ⟨p, 0, none⟩ (.slice (some ⟨g', 0, none⟩) k cap')).heap[b]? = w.heap[b]?) := Lib.hid (HM.out.cutNew hb0 k hle hb1 rfl hgg (.inl (own_mono hown hb0))); clear hown hg hat hb1)
    all_goals exact bodyPost_end (v := .tuple #[]) (by simp [results, Try.results8, go_sem, *]) rfl ⟨rfl, HR.out.1, ⟨.slice (some ⟨g', 0, none⟩) k cap', .inr ⟨g', hgg, rfl⟩, by rw [hk]; exact HR.out.2.1⟩, HR.out.2.2⟩
end Go.Proofs.Ytkgdogdallojlaa.C
