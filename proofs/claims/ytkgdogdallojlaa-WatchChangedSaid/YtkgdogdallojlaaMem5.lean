/- memory: Clone of numbers, of blocks; Copy: walks. -/
import Derived.Test.YtkgdogdallojlaaMem4
import Derived.Maps.AppendAt
import Derived.OwnWalk
import Derived.Lib.LazyBuf
import Derived.Laws.OwnMore
namespace Go.Proofs.Ytkgdogdallojlaa.C
open Go.RowKit
set_option linter.unusedSimpArgs false
set_option linter.unusedVariables false
/-- A new row. -/
def RowNew (w : World) (g cap n : Nat) (f : Nat → Int) (w' : World) : Prop :=
  w.heap.size ≤ g ∧ g < w'.heap.size ∧ n ≤ cap ∧ (∀ j, j < n → w'.cell? ⟨g, j, none⟩ = some (.int .i64 (f j))) ∧ (∀ j, j < n → w'.frozen? ⟨g, j, none⟩ = false) ∧ Below w.heap.size w w'
def ClonePost (n : Nat) (f : Nat → Int) (w : World) (e : Ending) (w' : World) : Prop := ∃ g cap, e = .returned (.slice (some ⟨g, 0, none⟩) n cap) ∧ RowNew w g cap n f w'
theorem own_empty (w : World) (e : TypeId) (s : Nat) : (w.alloc (.cells #[] e)).ownsRow w.heap.size e s (.slice (some ⟨w.heap.size, 0, none⟩) 0 0) 0 [] :=
  ⟨by simp, .inr ⟨w.heap.size, 0, #[], rfl, Nat.le_refl _, by simpa using heap_alloc_new w (.cells #[] e), Nat.le_refl _, Nat.zero_le _, by simp, by simp⟩⟩
theorem own_row {w : World} {base n : Nat} {e : TypeId} {v : Value} {f : Nat → Value} (h : w.ownsRow base e 1 v n ((List.range n).map f)) (hn : 1 ≤ n) :
    ∃ g cap, v = .slice (some ⟨g, 0, none⟩) n cap ∧ base ≤ g ∧ g < w.heap.size ∧ n ≤ cap ∧ (∀ j, j < n → w.cell? ⟨g, j, none⟩ = some (f j)) ∧ (∀ j, w.frozen? ⟨g, j, none⟩ = false) := by
  have hh := h
  rcases h.2 with ⟨_, h0⟩ | ⟨g, cap, cur, rfl, hb, hc, hl, hm, hs, ht⟩
  · omega
  refine ⟨g, cap, rfl, hb, (Array.getElem?_eq_some_iff.1 hc).1, hl, fun j hj => ?_, fun j => ?_⟩
  · have := hh.cells (g := g) rfl j (f j) (by simp [hj])
    rwa [m_plain] at this
  · exact hh.frozenAt j
set_option maxHeartbeats 1600000 in
theorem clone_c (a : Addr) (n cap : Nat) (f : Nat → Int) (w : World) (hn : 1 ≤ n) (hn2 : n ≤ 1000) (hc : ∀ j, j < n → w.cell? (a.add j) = some (.int .i64 (f j))) :
    Calls Try.prog 25 #[.slice (some a) n cap] w (ClonePost n f w) := by
  have HC := Lib.hid hc
  clear hc
  obtain ⟨i0, hi, hz⟩ := Option.map_eq_some_iff.1 infoM
  simp only [Prod.mk.injEq] at hz
  obtain ⟨hz0, hz1, hz2⟩ := hz
  have hnil := fun W => run_eql_slice_nil (P := Try.prog) W 22 3 (some a) n cap Try.underlying22
  have hcw : ∀ j u, ((List.range n).map fun j => Value.int .i64 (f j))[j]? = some u → (w.alloc (.cells #[] 3)).cell? (a.add j) = some u := by
    intro j u hu
    have hj : j < n := by
      rcases Nat.lt_or_ge j n with h | h
      · exact h
      · simp [h] at hu
    simp [hj] at hu
    rw [← hu]
    exact cell_later ((Below.refl _ _).alloc (Nat.le_refl _) _) (HC.out j hj)
  go_enter Try.func25, Try.ntmps25
  go_wp2_with (at_builtin; refine wpList_append_own_at _ rfl _ _ 22 rfl w.heap.size 3 i0 (.int .i64 0) 1 8 Try.underlying22 hi hz0 hz1 hz2 rfl (by omega) (.slice (some ⟨w.heap.size, 0, none⟩) 0 0) 0 [] (by rfl) (own_empty w 3 1) a n cap ((List.range n).map fun j => Value.int .i64 (f j)) (by rfl) (by simp) hcw (by simp [Value.oneCell']) (by unfold maxLen; omega) (by omega) (by simp) ?_; intro v' w1 hown hg _ hat)
  have hb : Below w.heap.size w w1 := ((Below.refl _ _).alloc (Nat.le_refl _) _).grown hg (by simp) (by rintro k hk; simp [Value.ownBlock] at hk; omega)
  simp only [Nat.zero_add, List.nil_append] at hown
  obtain ⟨g, c, rfl, hg1, hg2, hg3, hg4, hg5⟩ := own_row hown hn
  have HP : Hid (RowNew w g c n f w1) := Lib.hid ⟨hg1, hg2, hg3, hg4, fun j _ => hg5 j, hb⟩
  clear hown hg hat hb hg1 hg2 hg3 hg4 hg5 hcw hz0 hz1 hz2 hi
  go_wp2_with fail
  go_ret
  exact ⟨g, c, rfl, HP.out⟩
theorem xsM_one (ts : Nat → Int) (ad ln cp : Nat → Nat) (n : Nat) : ∀ u ∈ xsM ts ad ln cp n, u.oneCell' = true := by
  induction n with
  | zero => intro u hu; simp [xsM] at hu
  | succ n ih =>
    intro u hu
    simp [xsM] at hu
    rcases hu with hu | rfl | rfl
    · exact ih u hu
    · simp [Value.oneCell']
    · simp [Value.oneCell']
theorem xsM_news {w : World} {g n : Nat} {ts : Nat → Int} {ad ln cp : Nat → Nat} (h : ∀ i, i < n → w.cell? ⟨g, i * 2, none⟩ = some (.int .i64 (ts i)) ∧ w.cell? ⟨g, i * 2 + 1, none⟩ = some (.slice (some ⟨ad i, 0, none⟩) (ln i) (cp i))) :
    ∀ j u, (xsM ts ad ln cp n)[j]? = some u → w.cell? ((⟨g, 0, none⟩ : Addr).add j) = some u := by
  intro j u hu
  have hj : j < n * 2 := by
    have := (List.getElem?_eq_some_iff.1 hu).1
    rwa [xsM_len] at this
  rw [m_plain]
  have hi : j / 2 < n := by omega
  obtain ⟨x1, x2⟩ := xsM_at ts ad ln cp n (j / 2) hi
  obtain ⟨h1, h2⟩ := h (j / 2) hi
  rcases Nat.mod_two_eq_zero_or_one j with e | e
  · have ej : j / 2 * 2 = j := by omega
    rw [ej] at x1 h1
    rw [x1] at hu
    rw [h1, hu]
  · have ej : j / 2 * 2 + 1 = j := by omega
    rw [ej] at x2 h2
    rw [x2] at hu
    rw [h2, hu]
/-- A new row of blocks. -/
def RowsNew (w : World) (g cap n : Nat) (ts : Nat → Int) (ad ln cp : Nat → Nat) (w' : World) : Prop :=
  w.heap.size ≤ g ∧ g < w'.heap.size ∧ n ≤ cap ∧ (∀ i, i < n → w'.cell? ⟨g, i * 2, none⟩ = some (.int .i64 (ts i)) ∧ w'.cell? ⟨g, i * 2 + 1, none⟩ = some (.slice (some ⟨ad i, 0, none⟩) (ln i) (cp i))) ∧ (∀ j, w'.frozen? ⟨g, j, none⟩ = false) ∧ Below w.heap.size w w'
set_option maxHeartbeats 1600000 in
theorem cloneB_c (g n cap : Nat) (ts : Nat → Int) (ad ln cp : Nat → Nat) (w : World) (hn : 1 ≤ n) (hn2 : n ≤ 1000) (hc : ∀ i, i < n → w.cell? ⟨g, i * 2, none⟩ = some (.int .i64 (ts i)) ∧ w.cell? ⟨g, i * 2 + 1, none⟩ = some (.slice (some ⟨ad i, 0, none⟩) (ln i) (cp i))) :
    Calls Try.prog 24 #[.slice (some ⟨g, 0, none⟩) n cap] w fun e w' => ∃ g' c', e = .returned (.slice (some ⟨g', 0, none⟩) n c') ∧ RowsNew w g' c' n ts ad ln cp w' := by
  obtain ⟨i0, hi, hz⟩ := Option.map_eq_some_iff.1 infoB
  simp only [Prod.mk.injEq] at hz
  obtain ⟨hz0, hz1, hz2⟩ := hz
  have hnil := fun W => run_eql_slice_nil (P := Try.prog) W 43 52 (some ⟨g, 0, none⟩) n cap Try.underlying43
  have hcw : ∀ j u, (xsM ts ad ln cp n)[j]? = some u → (w.alloc (.cells #[] 52)).cell? ((⟨g, 0, none⟩ : Addr).add j) = some u :=
    xsM_news fun i hi => ⟨cell_later ((Below.refl _ _).alloc (Nat.le_refl _) _) (hc i hi).1, cell_later ((Below.refl _ _).alloc (Nat.le_refl _) _) (hc i hi).2⟩
  clear hc
  go_enter Try.func24, Try.ntmps24
  go_wp2_with (at_builtin; refine wpList_append_own_at _ rfl _ _ 43 rfl w.heap.size 52 i0 (.agg #[.int .i64 0, .slice none 0 0]) 2 32 Try.underlying43 hi hz0 hz1 hz2 rfl (by omega) (.slice (some ⟨w.heap.size, 0, none⟩) 0 0) 0 [] (by rfl) (own_empty w 52 2) ⟨g, 0, none⟩ n cap (xsM ts ad ln cp n) (by rfl) (xsM_len _ _ _ _ _) hcw (xsM_one _ _ _ _ _) (by unfold maxLen; omega) (by omega) (by simp) ?_; intro v' w1 hown hg _ hat)
  have hb : Below w.heap.size w w1 := ((Below.refl _ _).alloc (Nat.le_refl _) _).grown hg (by simp) (by rintro k hk; simp [Value.ownBlock] at hk; omega)
  simp only [Nat.zero_add, List.nil_append] at hown
  obtain ⟨g', c', rfl, hg1, hg2⟩ := hown.form (by omega)
  have hcap : n ≤ c' := by
    rcases hown.2 with ⟨h1, h0⟩ | ⟨g'', cap', cur, h1, _, _, h2, _⟩
    · omega
    · simp at h1; omega
  have HP : Hid (RowsNew w g' c' n ts ad ln cp w1) := Lib.hid ⟨hg1, hg2, hcap, fun i hi => (by
    obtain ⟨x1, x2⟩ := xsM_at ts ad ln cp n i hi
    have k1 := hown.cells (g := g') rfl (i * 2) _ x1
    have k2 := hown.cells (g := g') rfl (i * 2 + 1) _ x2
    rw [m_plain] at k1 k2
    exact ⟨k1, k2⟩), fun j => hown.frozenAt j, hb⟩
  clear hown hg hat hb hg1 hg2 hcw hz0 hz1 hz2 hi hcap
  go_wp2_with fail
  go_ret
  exact ⟨g', c', rfl, HP.out⟩
end Go.Proofs.Ytkgdogdallojlaa.C
