/- slices.Clone of blocks, with what the call owns; plain facts on rows of blocks: for Copy of any state. -/
import Derived.Test.YtkgdogdallojlaaMem13
namespace Go.Proofs.Ytkgdogdallojlaa.C
open Go.RowKit
set_option linter.unusedSimpArgs false
set_option linter.unusedVariables false
theorem xsM_set (ts : Nat → Int) (ad ln cp : Nat → Nat) (n k gn cn : Nat) (hk : k < n) :
    (xsM ts ad ln cp n).set (k * 2 + 1) (.slice (some ⟨gn, 0, none⟩) (ln k) cn) = xsM ts (fun i => if i = k then gn else ad i) ln (fun i => if i = k then cn else cp i) n := by
  induction n with
  | zero => omega
  | succ n ih =>
    by_cases e : k = n
    · subst e
      rw [xsM, xsM, List.set_append_right _ _ (by rw [xsM_len]; omega), xsM_len]
      have e1 : k * 2 + 1 - k * 2 = 1 := by omega
      rw [e1]
      rw [xsM_congr (ts' := ts) (ad' := fun i => if i = k then gn else ad i) (ln' := ln) (cp' := fun i => if i = k then cn else cp i) k (fun i hi => by simp [Nat.ne_of_lt hi])]
      simp
    · rw [xsM, xsM, List.set_append_left _ _ (by rw [xsM_len]; omega), ih (by omega)]
      simp [show n ≠ k from fun q => e q.symm]
set_option maxHeartbeats 1600000 in
theorem cloneB_s (g n cap : Nat) (ts : Nat → Int) (ad ln cp : Nat → Nat) (w : World) (hn2 : n ≤ 1000) (hc : ∀ j u, (xsM ts ad ln cp n)[j]? = some u → w.cell? ⟨g, j, none⟩ = some u) :
    Calls Try.prog 24 #[.slice (some ⟨g, 0, none⟩) n cap] w fun e w' => ∃ g' c', e = .returned (.slice (some ⟨g', 0, none⟩) n c') ∧ w.heap.size ≤ g' ∧ w'.ownsRow w.heap.size 52 2 (.slice (some ⟨g', 0, none⟩) n c') n (xsM ts ad ln cp n) ∧ Below w.heap.size w w' := by
  obtain ⟨i0, hi, hz⟩ := Option.map_eq_some_iff.1 infoB
  simp only [Prod.mk.injEq] at hz
  obtain ⟨hz0, hz1, hz2⟩ := hz
  have hnil := fun W => run_eql_slice_nil (P := Try.prog) W 43 52 (some ⟨g, 0, none⟩) n cap Try.underlying43
  have hcw : ∀ j u, (xsM ts ad ln cp n)[j]? = some u → (w.alloc (.cells #[] 52)).cell? ((⟨g, 0, none⟩ : Addr).add j) = some u := fun j u hu => by
    rw [m_plain]
    exact cell_later ((Below.refl _ _).alloc (Nat.le_refl _) _) (hc j u hu)
  clear hc
  go_enter Try.func24, Try.ntmps24
  go_wp2_with (at_builtin; refine wpList_append_own_at _ rfl _ _ 43 rfl w.heap.size 52 i0 (.agg #[.int .i64 0, .slice none 0 0]) 2 32 Try.underlying43 hi hz0 hz1 hz2 rfl (by omega) (.slice (some ⟨w.heap.size, 0, none⟩) 0 0) 0 [] (by rfl) (own_empty w 52 2) ⟨g, 0, none⟩ n cap (xsM ts ad ln cp n) (by rfl) (xsM_len _ _ _ _ _) hcw (xsM_one _ _ _ _ _) (by unfold maxLen; omega) (by omega) (by simp) ?_; intro v' w1 hown hg _ hat)
  have hb : Below w.heap.size w w1 := ((Below.refl _ _).alloc (Nat.le_refl _) _).grown hg (by simp) (by rintro k hk; simp [Value.ownBlock] at hk; omega)
  simp only [Nat.zero_add, List.nil_append] at hown
  obtain ⟨g', c', rfl, hgg⟩ := own_some hown hat
  have HP := Lib.hid (And.intro hgg (And.intro hown hb))
  clear hown hg hat hb hgg hcw hz0 hz1 hz2 hi
  go_wp2_with fail
  go_ret
  exact ⟨g', c', rfl, HP.out⟩
theorem cloneB_nil (w : World) : Calls Try.prog 24 #[.slice none 0 0] w fun e w' => e = .returned (.slice none 0 0) ∧ w = w' := by
  have hnil := fun W => run_eql_slice_nil (P := Try.prog) W 43 52 none 0 0 Try.underlying43
  go_enter Try.func24, Try.ntmps24
  go_wp2_with fail
  go_ret
  exact ⟨rfl, rfl⟩
end Go.Proofs.Ytkgdogdallojlaa.C
