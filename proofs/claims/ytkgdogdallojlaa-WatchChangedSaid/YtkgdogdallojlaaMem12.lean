/- memory and the reference's memory in any state: Cut: walks. -/
import Derived.Test.YtkgdogdallojlaaMem11
namespace Go.Proofs.Ytkgdogdallojlaa.C
open Go.RowKit
set_option linter.unusedSimpArgs false
set_option linter.unusedVariables false
def cutM (c : Int) (n : Nat) : Nat := (max 0 (min c n)).toNat
theorem cutM_le (c : Int) (n : Nat) : cutM c n ≤ n := by unfold cutM; omega
theorem cutM_if (c : Int) (n : Nat) : (if 0 < (if (n : Int) < c then (n : Int) else c) then (if (n : Int) < c then (n : Int) else c) else 0) = ((cutM c n : Nat) : Int) := by
  unfold cutM; split <;> split <;> omega
theorem St.form2 {w : World} {base : Nat} {L : Value} {n : Nat} {xs : List Value} (h : St w base L n xs) : (L = .slice none 0 0 ∧ n = 0) ∨ ∃ g cap, L = .slice (some ⟨g, 0, none⟩) n cap ∧ n ≤ cap := by
  rcases h with h | ⟨g, rfl, h1, h2, h3, h4⟩
  · rcases h.2 with ⟨rfl, h0⟩ | ⟨g, cap, cur, rfl, _, _, h2, _⟩
    · exact .inl ⟨rfl, h0⟩
    · exact .inr ⟨g, cap, rfl, h2⟩
  · exact .inr ⟨g, n, rfl, Nat.le_refl _⟩
theorem xsM_take (ts : Nat → Int) (ad ln cp : Nat → Nat) (n k : Nat) (h : k ≤ n) (j : Nat) (u : Value) (hu : (xsM ts ad ln cp k)[j]? = some u) : (xsM ts ad ln cp n)[j]? = some u := by
  induction n with
  | zero =>
    obtain rfl : k = 0 := by omega
    exact hu
  | succ n ih =>
    by_cases e : k = n + 1
    · subst e; exact hu
    · have hj := (List.getElem?_eq_some_iff.1 hu).1
      rw [xsM_len] at hj
      rw [xsM, List.getElem?_append_left (by rw [xsM_len]; omega)]
      exact ih (by omega)
def CutPost (w : World) (base p n : Nat) (L : Value) (ts : Nat → Int) (ad ln cp : Nat → Nat) (f : Nat → Nat → Int) (c : Int) (e : Ending) (w' : World) : Prop :=
  e = .returned (.tuple #[]) ∧ Below base w w' ∧ (∃ L', (L'.ownBlock = L.ownBlock ∨ ∃ b, w.heap.size ≤ b ∧ L'.ownBlock = some b) ∧ MS w' base p L' (cutM c n) ts ad ln cp f) ∧ ∀ b, b < w.heap.size → b ≠ p → w'.heap[b]? = w.heap[b]?
theorem MS.cut {w : World} {base p n : Nat} {L : Value} {ts : Nat → Int} {ad ln cp : Nat → Nat} {f : Nat → Nat → Int} (hm : MS w base p L n ts ad ln cp f) (k : Nat) (hk : k ≤ n) {L' : Value} (hL' : L'.ownBlock = L.ownBlock) (hst : ∀ w', w.heap.size ≤ w'.heap.size → (∀ b, b ≠ p → w'.heap[b]? = w.heap[b]?) → St w' base L' k (xsM ts ad ln cp k)) :
    Below base w (w.setCell ⟨p, 0, none⟩ L') ∧ MS (w.setCell ⟨p, 0, none⟩ L') base p L' k ts ad ln cp f ∧ ∀ b, b < w.heap.size → b ≠ p → (w.setCell ⟨p, 0, none⟩ L').heap[b]? = w.heap[b]? := by
  have hs : (w.setCell ⟨p, 0, none⟩ L').heap.size = w.heap.size := by simp
  have kp := fun b (hb : b ≠ p) => Below.heap_setCell w ⟨p, 0, none⟩ L' b hb
  refine ⟨(Below.refl _ _).setCell (p := ⟨p, 0, none⟩) hm.hp.1 _, ⟨⟨hm.hp.1, by rw [hs]; exact hm.hp.2⟩, World.cell?_setCell_same _ _ _ hm.cell, by simpa [go_sem] using hm.frz, hst _ (by omega) kp, by rw [hL']; exact hm.hL, fun i hi => by rw [hs, hL']; exact hm.hA i (by omega), fun i j hi hj => hm.inj i j (by omega) (by omega), fun i j hi hj => ?_, fun i j hi hj => ?_⟩, fun b _ hb => kp b hb⟩
  · exact (m_kept (p := ⟨ad i, j, none⟩) (kp _ (hm.hA i (by omega)).2.2.1)).trans (hm.inner i j (by omega) hj)
  · exact (m_frz (p := ⟨ad i, j, none⟩) (kp _ (hm.hA i (by omega)).2.2.1)).trans (hm.ifrz i j (by omega) hj)
set_option maxHeartbeats 1600000 in
theorem cut_s (base p n : Nat) (L : Value) (ts : Nat → Int) (ad ln cp : Nat → Nat) (f : Nat → Nat → Int) (c : Int) (w : World) (hm : MS w base p L n ts ad ln cp f) :
    Calls Try.prog 7 #[.pointer (some ⟨p, 0, none⟩), .int .i64 c] w (CutPost w base p n L ts ad ln cp f c) := by
  have hif := cutM_if c n
  have hle := cutM_le c n
  rcases hm.own.form2 with ⟨rfl, rfl⟩ | ⟨g, cap, rfl, hcap⟩
  · obtain ⟨k, hk⟩ : ∃ k, cutM c 0 = k := ⟨_, rfl⟩
    obtain rfl : k = 0 := by omega
    rw [hk] at hif
    have HR := Lib.hid (hm.cut 0 (Nat.le_refl _) (L' := .slice none 0 0) rfl (fun w' _ _ => .inl ⟨rfl, .inl ⟨rfl, rfl⟩⟩))
    have c0 := hm.cell
    have f0 := hm.frz
    clear hm hle
    simp at hif
    go_enter Try.func7, Try.ntmps7
    go_wp2_with fail
    all_goals exact bodyPost_end (v := .tuple #[]) (by simp [results, Try.results7, go_sem, *]) rfl ⟨rfl, HR.out.1, ⟨.slice none 0 0, .inl rfl, by rw [hk]; exact HR.out.2.1⟩, HR.out.2.2⟩
  · obtain ⟨k, hk⟩ : ∃ k, cutM c n = k := ⟨_, rfl⟩
    rw [hk] at hif hle
    have HR := Lib.hid (hm.cut k hle (L' := .slice (some ⟨g, 0, none⟩) k k) rfl (fun w' hs hb => by
      have hg := hm.own.blk g rfl
      have hgp : g ≠ p := fun e => hm.hL (by rw [e]; rfl)
      exact .inr ⟨g, rfl, hg.1, by omega, xsM_len _ _ _ _ _, fun j u hu => (m_kept (p := ⟨g, j, none⟩) (hb g hgp)).trans (hm.own.cells j u (xsM_take _ _ _ _ _ _ hle j u hu))⟩))
    have c0 := hm.cell
    have f0 := hm.frz
    clear hm
    have hk0 : (0 : Int) ≤ (k : Int) := by omega
    have hk1 : (k : Int) ≤ (cap : Int) := by omega
    have hk2 : k ≤ cap := by omega
    go_enter Try.func7, Try.ntmps7
    go_wp2_with fail
    all_goals exact bodyPost_end (v := .tuple #[]) (by simp [results, Try.results7, go_sem, *]) rfl ⟨rfl, HR.out.1, ⟨.slice (some ⟨g, 0, none⟩) k k, .inl rfl, by rw [hk]; exact HR.out.2.1⟩, HR.out.2.2⟩
end Go.Proofs.Ytkgdogdallojlaa.C
