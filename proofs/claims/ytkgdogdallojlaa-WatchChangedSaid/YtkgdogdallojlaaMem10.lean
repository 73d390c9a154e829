/- memory and the reference's memory in any state: has, Get, Len: walks. -/
import Derived.Test.YtkgdogdallojlaaMem9
namespace Go.Proofs.Ytkgdogdallojlaa.C
open Go.RowKit
set_option linter.unusedSimpArgs false
set_option linter.unusedVariables false
theorem MS.view {w : World} {base p n : Nat} {L : Value} {ts : Nat → Int} {ad ln cp : Nat → Nat} {f : Nat → Nat → Int} (hm : MS w base p L n ts ad ln cp f) (hn : 1 ≤ n) : ∃ g cap, L = .slice (some ⟨g, 0, none⟩) n cap ∧ MV w p g n cap ts ad ln cp f ∧ base ≤ g ∧ g < w.heap.size ∧ g ≠ p ∧ (∀ i, i < n → ad i ≠ g) := by
  obtain ⟨ao, cap, hL, hcap, hs⟩ := hm.own.form
  obtain ⟨g, rfl⟩ := hs hn
  subst hL
  have hb := hm.own.blk g rfl
  refine ⟨g, cap, rfl, ⟨hm.cell, hcap, fun i hi => ?_, hm.inner⟩, hb.1, hb.2, fun e => hm.hL (by rw [e]; rfl), fun i hi e => (hm.hA i hi).2.2.2.1 (by rw [e]; rfl)⟩
  obtain ⟨x1, x2⟩ := xsM_at ts ad ln cp n i hi
  exact ⟨hm.own.cells _ _ x1, hm.own.cells _ _ x2⟩
theorem MS.zero {w : World} {base p : Nat} {L : Value} {ts : Nat → Int} {ad ln cp : Nat → Nat} {f : Nat → Nat → Int} (hm : MS w base p L 0 ts ad ln cp f) : ∃ ao cap, w.cell? ⟨p, 0, none⟩ = some (.slice ao 0 cap) := by
  obtain ⟨ao, cap, hL, _⟩ := hm.own.form
  exact ⟨ao, cap, by rw [← hL]; exact hm.cell⟩
theorem hasM_zero (ln : Nat → Nat) (id at' : Int) : hasM 0 ln id at' = false := decide_eq_false (fun q => by have := q.1; have := q.2.1; omega)
theorem has_s (base p n : Nat) (L : Value) (ts : Nat → Int) (ad ln cp : Nat → Nat) (f : Nat → Nat → Int) (id at' : Int) (w : World) (hm : MS w base p L n ts ad ln cp f) :
    Calls Try.prog 26 #[.pointer (some ⟨p, 0, none⟩), .int .i64 id, .int .i64 at'] w fun e w' => e = .returned (.bool (hasM n ln id at')) ∧ w = w' := by
  by_cases hn : n = 0
  · subst hn
    obtain ⟨ao, cap, c0⟩ := hm.zero
    rw [hasM_zero]
    clear hm
    by_cases h1 : 0 ≤ id
    · obtain ⟨i, rfl⟩ := Int.eq_ofNat_of_zero_le h1
      have g1 : decide ((i : Int) < 0) = false := decide_eq_false (by omega)
      go_enter Try.func26, Try.ntmps26
      go_wp2_with fail
      go_ret
      exact ⟨rfl, rfl⟩
    · have g3 : decide (0 ≤ id) = false := decide_eq_false h1
      have g4 : id < 0 := by omega
      go_enter Try.func26, Try.ntmps26
      go_wp2_with fail
      go_ret
      exact ⟨rfl, rfl⟩
  · obtain ⟨g, cap, _, hv, _⟩ := hm.view (by omega)
    exact has_c p g n cap ts ad ln cp f id at' w hv
/-- What a Get tells. -/
def getM (n : Nat) (ln : Nat → Nat) (f : Nat → Nat → Int) (id at' : Int) : Value := if hasM n ln id at' = true then .tuple #[.int .i64 (f id.toNat at'.toNat), .bool true] else .tuple #[.int .i64 0, .bool false]
theorem hasM_nat {n : Nat} {ln : Nat → Nat} {id at' : Int} (h : hasM n ln id at' = true) : ∃ i j : Nat, id = i ∧ at' = j ∧ i < n ∧ j < ln i := by
  have q := of_decide_eq_true h
  obtain ⟨i, rfl⟩ := Int.eq_ofNat_of_zero_le q.1
  obtain ⟨j, rfl⟩ := Int.eq_ofNat_of_zero_le q.2.2.1
  exact ⟨i, j, rfl, rfl, by have := q.2.1; omega, by have := q.2.2.2; simpa using this⟩
theorem get_s (base p n : Nat) (L : Value) (ts : Nat → Int) (ad ln cp : Nat → Nat) (f : Nat → Nat → Int) (id at' : Int) (w : World) (hm : MS w base p L n ts ad ln cp f) :
    Calls Try.prog 45 #[.pointer (some ⟨p, 0, none⟩), .int .i64 id, .int .i64 at'] w fun e w' => e = .returned (getM n ln f id at') ∧ w = w' := by
  by_cases h : hasM n ln id at' = true
  · have e0 : getM n ln f id at' = .tuple #[.int .i64 (f id.toNat at'.toNat), .bool true] := if_pos h
    rw [e0]
    obtain ⟨i, j, rfl, rfl, hi, hj⟩ := hasM_nat h
    obtain ⟨g, cap, _, hv, _⟩ := hm.view (by omega)
    exact get_v p g n cap ts ad ln cp f i j w hv hi hj
  · have e0 : getM n ln f id at' = .tuple #[.int .i64 0, .bool false] := if_neg h
    rw [e0]
    have HA := has_s base p n L ts ad ln cp f id at' w hm
    rw [Bool.eq_false_iff.2 h] at HA
    have HA := Lib.hid HA
    clear h e0 hm
    go_enter Try.func45, Try.ntmps45
    go_wp2_with ((go_at_call 26; refine (HA.out).mono ?_; rintro e w' ⟨rfl, rfl⟩))
    exact bodyPost_ret (v := .tuple #[.int .i64 0, .bool false]) (by simp [results, Try.results45, go_sem, *]) rfl ⟨rfl, rfl⟩
set_option maxHeartbeats 1600000 in
theorem rget_s (base p n : Nat) (L : Value) (ts : Nat → Int) (ad ln cp : Nat → Nat) (f : Nat → Nat → Int) (id at' : Int) (w : World) (hm : MS w base p L n ts ad ln cp f) :
    Calls Try.prog 29 #[.pointer (some ⟨p, 0, none⟩), .int .i64 id, .int .i64 at'] w fun e w' => e = .returned (getM n ln f id at') ∧ w = w' := by
  by_cases h1 : 0 ≤ id
  · obtain ⟨i, rfl⟩ := Int.eq_ofNat_of_zero_le h1
    have k0 : decide ((i : Int) < 0) = false := decide_eq_false (by omega)
    by_cases h2 : i < n
    · obtain ⟨g, cap, _, hv, _⟩ := hm.view (by omega)
      have c0 := hv.cell
      obtain ⟨c1, c2⟩ := hv.rows i h2
      have g1 : decide (n ≤ i) = false := decide_eq_false (by omega)
      have hk0 : (0 : Int) ≤ (i : Int) := by omega
      have hk1 : (i : Int) < (n : Int) := by omega
      by_cases h3 : 0 ≤ at'
      · obtain ⟨j, rfl⟩ := Int.eq_ofNat_of_zero_le h3
        by_cases h4 : j < ln i
        · have e0 : getM n ln f (i : Int) (j : Int) = .tuple #[.int .i64 (f i j), .bool true] := if_pos (decide_eq_true ⟨h1, by omega, h3, by simpa using h4⟩)
          rw [e0]
          have c3 := hv.inner i j h2 h4
          have g2 : decide (ln i ≤ j) = false := decide_eq_false (by omega)
          have hk2 : (0 : Int) ≤ (j : Int) := by omega
          have hk3 : (j : Int) < (ln i : Int) := by omega
          clear e0 h1 h3 hv hm h2 h4
          go_enter Try.func29, Try.ntmps29
          go_wp2_with fail
          exact bodyPost_ret (v := .tuple #[.int .i64 (f i j), .bool true]) (by simp [results, Try.results29, go_sem, *]) rfl ⟨rfl, rfl⟩
        · have e0 : getM n ln f (i : Int) (j : Int) = .tuple #[.int .i64 0, .bool false] := if_neg (fun q => h4 (by have := (of_decide_eq_true q).2.2.2; simpa using this))
          rw [e0]
          have g2 : decide (ln i ≤ j) = true := decide_eq_true (by omega)
          clear e0 h1 h3 hv hm h2 h4
          go_enter Try.func29, Try.ntmps29
          go_wp2_with fail
          exact bodyPost_ret (v := .tuple #[.int .i64 0, .bool false]) (by simp [results, Try.results29, go_sem, *]) rfl ⟨rfl, rfl⟩
      · have e0 : getM n ln f (i : Int) at' = .tuple #[.int .i64 0, .bool false] := if_neg (fun q => h3 (of_decide_eq_true q).2.2.1)
        rw [e0]
        have g3 : decide (at' < 0) = true := decide_eq_true (by omega)
        have g4 : at' < 0 := by omega
        clear e0 h1 h3 hv hm h2
        go_enter Try.func29, Try.ntmps29
        go_wp2_with fail
        exact bodyPost_ret (v := .tuple #[.int .i64 0, .bool false]) (by simp [results, Try.results29, go_sem, *]) rfl ⟨rfl, rfl⟩
    · have e0 : getM n ln f (i : Int) at' = .tuple #[.int .i64 0, .bool false] := if_neg (fun q => h2 (by have := (of_decide_eq_true q).2.1; omega))
      rw [e0]
      obtain ⟨ao, cap, hL, _⟩ := hm.own.form
      have c0 : w.cell? ⟨p, 0, none⟩ = some (.slice ao n cap) := by rw [← hL]; exact hm.cell
      have g1 : decide (n ≤ i) = true := decide_eq_true (by omega)
      clear e0 h1 hm h2 hL
      go_enter Try.func29, Try.ntmps29
      go_wp2_with fail
      exact bodyPost_ret (v := .tuple #[.int .i64 0, .bool false]) (by simp [results, Try.results29, go_sem, *]) rfl ⟨rfl, rfl⟩
  · have e0 : getM n ln f id at' = .tuple #[.int .i64 0, .bool false] := if_neg (fun q => h1 (of_decide_eq_true q).1)
    rw [e0]
    have g3 : decide (id < 0) = true := decide_eq_true (by omega)
    have g4 : id < 0 := by omega
    clear e0 h1 hm
    go_enter Try.func29, Try.ntmps29
    go_wp2_with fail
    exact bodyPost_ret (v := .tuple #[.int .i64 0, .bool false]) (by simp [results, Try.results29, go_sem, *]) rfl ⟨rfl, rfl⟩
end Go.Proofs.Ytkgdogdallojlaa.C
