/- memory: has, Get, Set of any places; a memory that is only read (MV): walks. -/
import Derived.Test.YtkgdogdallojlaaMem3
namespace Go.Proofs.Ytkgdogdallojlaa.C
open Go.RowKit
set_option linter.unusedSimpArgs false
set_option linter.unusedVariables false
/-- A memory that is read: block p holds a slice of n blocks, which lie in g. -/
structure MV (w : World) (p g n cap : Nat) (ts : Nat → Int) (ad ln cp : Nat → Nat) (f : Nat → Nat → Int) : Prop where
  cell : w.cell? ⟨p, 0, none⟩ = some (.slice (some ⟨g, 0, none⟩) n cap)
  hcap : n ≤ cap
  rows : ∀ i, i < n → w.cell? ⟨g, i * 2, none⟩ = some (.int .i64 (ts i)) ∧ w.cell? ⟨g, i * 2 + 1, none⟩ = some (.slice (some ⟨ad i, 0, none⟩) (ln i) (cp i))
  inner : ∀ i j, i < n → j < ln i → w.cell? ⟨ad i, j, none⟩ = some (.int .i64 (f i j))
theorem MR.view {w : World} {base p n : Nat} {L : Value} {ts : Nat → Int} {ad ln cp : Nat → Nat} {f : Nat → Nat → Int} (hm : MR w base p L n ts ad ln cp f) (hn : 1 ≤ n) : ∃ g cap, L = .slice (some ⟨g, 0, none⟩) n cap ∧ MV w p g n cap ts ad ln cp f ∧ base ≤ g ∧ g < w.heap.size ∧ g ≠ p ∧ (∀ i, i < n → ad i ≠ g) := by
  obtain ⟨g, cap, hL, hcap, h1, h2, h3, h4, h5⟩ := hm.row hn
  exact ⟨g, cap, hL, ⟨by rw [← hL]; exact hm.cell, hcap, h5, hm.inner⟩, h1, h2, h3, h4⟩
theorem MV.keep {w w' : World} {p g n cap : Nat} {ts : Nat → Int} {ad ln cp : Nat → Nat} {f : Nat → Nat → Int} (hm : MV w p g n cap ts ad ln cp f) (hp : w'.heap[p]? = w.heap[p]?) (hg : w'.heap[g]? = w.heap[g]?) (ha : ∀ i, i < n → w'.heap[ad i]? = w.heap[ad i]?) : MV w' p g n cap ts ad ln cp f :=
  ⟨(m_kept (p := ⟨p, 0, none⟩) hp).trans hm.cell, hm.hcap, fun i hi => ⟨(m_kept (p := ⟨g, i * 2, none⟩) hg).trans (hm.rows i hi).1, (m_kept (p := ⟨g, i * 2 + 1, none⟩) hg).trans (hm.rows i hi).2⟩, fun i j hi hj => (m_kept (p := ⟨ad i, j, none⟩) (ha i hi)).trans (hm.inner i j hi hj)⟩
def hasM (n : Nat) (ln : Nat → Nat) (id at' : Int) : Bool := decide (0 ≤ id ∧ id < n ∧ 0 ≤ at' ∧ at' < ln id.toNat)
set_option maxHeartbeats 1600000 in
theorem has_c (p g n cap : Nat) (ts : Nat → Int) (ad ln cp : Nat → Nat) (f : Nat → Nat → Int) (id at' : Int) (w : World) (hv : MV w p g n cap ts ad ln cp f) :
    Calls Try.prog 26 #[.pointer (some ⟨p, 0, none⟩), .int .i64 id, .int .i64 at'] w fun e w' => e = .returned (.bool (hasM n ln id at')) ∧ w = w' := by
  have c0 := hv.cell
  by_cases h1 : 0 ≤ id
  · obtain ⟨i, rfl⟩ := Int.eq_ofNat_of_zero_le h1
    by_cases h2 : i < n
    · obtain ⟨c1, c2⟩ := hv.rows i h2
      have g1 : decide (i < n) = true := decide_eq_true h2
      have hk0 : (0 : Int) ≤ (i : Int) := by omega
      have hk1 : (i : Int) < (n : Int) := by omega
      by_cases h3 : 0 ≤ at'
      · obtain ⟨j, rfl⟩ := Int.eq_ofNat_of_zero_le h3
        have e0 : hasM n ln (i : Int) (j : Int) = decide (j < ln i) := by
          unfold hasM
          by_cases h4 : j < ln i
          · rw [decide_eq_true h4]; exact decide_eq_true ⟨h1, by omega, h3, by simpa using h4⟩
          · rw [decide_eq_false h4]; exact decide_eq_false (fun q => h4 (by have := q.2.2.2; simpa using this))
        rw [e0]
        clear e0 h1 h3 hv
        rcases Bool.eq_false_or_eq_true (decide (j < ln i)) with g2 | g2
        · rw [g2]
          go_enter Try.func26, Try.ntmps26
          go_wp2_with fail
          go_ret
          exact ⟨rfl, rfl⟩
        · rw [g2]
          go_enter Try.func26, Try.ntmps26
          go_wp2_with fail
          go_ret
          exact ⟨rfl, rfl⟩
      · have e0 : hasM n ln (i : Int) at' = false := decide_eq_false (fun q => h3 q.2.2.1)
        rw [e0]
        have g3 : decide (0 ≤ at') = false := decide_eq_false h3
        have g4 : at' < 0 := by omega
        clear e0 h1 h3 hv
        go_enter Try.func26, Try.ntmps26
        go_wp2_with fail
        go_ret
        exact ⟨rfl, rfl⟩
    · have e0 : hasM n ln (i : Int) at' = false := decide_eq_false (fun q => h2 (by have := q.2.1; omega))
      rw [e0]
      have g1 : decide (i < n) = false := decide_eq_false h2
      clear e0 h1 hv
      go_enter Try.func26, Try.ntmps26
      go_wp2_with fail
      go_ret
      exact ⟨rfl, rfl⟩
  · have e0 : hasM n ln id at' = false := decide_eq_false (fun q => h1 q.1)
    rw [e0]
    have g3 : decide (0 ≤ id) = false := decide_eq_false h1
    have g4 : id < 0 := by omega
    clear e0 h1 hv
    go_enter Try.func26, Try.ntmps26
    go_wp2_with fail
    go_ret
    exact ⟨rfl, rfl⟩
set_option maxHeartbeats 1600000 in
theorem get_v (p g n cap : Nat) (ts : Nat → Int) (ad ln cp : Nat → Nat) (f : Nat → Nat → Int) (i j : Nat) (w : World) (hv : MV w p g n cap ts ad ln cp f) (hi : i < n) (hj : j < ln i) :
    Calls Try.prog 45 #[.pointer (some ⟨p, 0, none⟩), .int .i64 i, .int .i64 j] w fun e w' => e = .returned (.tuple #[.int .i64 (f i j), .bool true]) ∧ w = w' := by
  have HA := has_c p g n cap ts ad ln cp f i j w hv
  rw [show hasM n ln (i : Int) (j : Int) = true from decide_eq_true ⟨by omega, by omega, by omega, by simpa using hj⟩] at HA
  have HA := Lib.hid HA
  have c3 := hv.inner i j hi hj
  have c0 := hv.cell
  obtain ⟨c1, c2⟩ := hv.rows i hi
  clear hv
  have hk0 : (0 : Int) ≤ (i : Int) := by omega
  have hk1 : (i : Int) < (n : Int) := by omega
  have hk2 : (0 : Int) ≤ (j : Int) := by omega
  have hk3 : (j : Int) < (ln i : Int) := by omega
  go_enter Try.func45, Try.ntmps45
  go_wp2_with ((go_at_call 26; refine (HA.out).mono ?_; rintro e w' ⟨rfl, rfl⟩))
  exact bodyPost_ret (v := .tuple #[.int .i64 (f i j), .bool true]) (by simp [results, Try.results45, go_sem, *]) rfl ⟨rfl, rfl⟩
set_option maxHeartbeats 1600000 in
theorem set_out (p g n cap : Nat) (ts : Nat → Int) (ad ln cp : Nat → Nat) (f : Nat → Nat → Int) (id at' v : Int) (w : World) (hv : MV w p g n cap ts ad ln cp f) (hn : hasM n ln id at' = false) :
    Calls Try.prog 14 #[.pointer (some ⟨p, 0, none⟩), .int .i64 id, .int .i64 at', .int .i64 v] w fun e w' => e = .returned (.bool false) ∧ w = w' := by
  have HA := has_c p g n cap ts ad ln cp f id at' w hv
  rw [hn] at HA
  have HA := Lib.hid HA
  clear hv hn
  go_enter Try.func14, Try.ntmps14
  go_wp2_with ((go_at_call 26; refine (HA.out).mono ?_; rintro e w' ⟨rfl, rfl⟩))
  go_ret
  exact ⟨rfl, rfl⟩
end Go.Proofs.Ytkgdogdallojlaa.C
