/- The reference's letter, digit, Key, sign: walks. -/
import Derived.Test.YtnnhdkchdjddkaaRefTyp
import Derived.Test.YtnnhdkchdjddkaaRLexP
import Derived.WalkKit
namespace Go.Proofs.Ytnnhdkchdjddkaa.C
open Go.RowKit
set_option linter.unusedSimpArgs false
set_option linter.unusedVariables false
theorem r_letter_c (c : Int) (w : World) : Calls Try.prog 11 #[.int .u8 c] w fun e w' => e = .returned (.bool (smallI c)) ∧ w = w' := by
  unfold smallI
  by_cases h1 : 97 ≤ c
  · have g1 : decide (97 ≤ c) = true := decide_eq_true h1
    go_enter Try.func11, Try.ntmps11
    go_wp2
    go_ret
    exact ⟨by simp [h1], rfl⟩
  · have g1 : decide (97 ≤ c) = false := decide_eq_false h1
    go_enter Try.func11, Try.ntmps11
    go_wp2
    go_ret
    exact ⟨by simp [h1], rfl⟩
theorem r_digit_c (c : Int) (w : World) : Calls Try.prog 12 #[.int .u8 c] w fun e w' => e = .returned (.bool (digitI c)) ∧ w = w' := by
  unfold digitI
  by_cases h1 : 48 ≤ c
  · have g1 : decide (48 ≤ c) = true := decide_eq_true h1
    go_enter Try.func12, Try.ntmps12
    go_wp2
    go_ret
    exact ⟨by simp [h1], rfl⟩
  · have g1 : decide (48 ≤ c) = false := decide_eq_false h1
    go_enter Try.func12, Try.ntmps12
    go_wp2
    go_ret
    exact ⟨by simp [h1], rfl⟩
set_option maxHeartbeats 1000000 in
theorem r_key_c (s : ByteArray) (w : World) : Calls Try.prog 13 #[.string s] w fun e w' => e = .returned (.bool (keyL s.data.toList)) ∧ Below w.heap.size w w' := by
  have HR := fun W => r_read_c s W
  have hk := read_in s
  have h1 : Hid (∀ K ∈ keyWords, (s.toList == K) = true → keyL s.data.toList = true) := Lib.hid (fun K hK h => by
    have := eq_of_beq h
    unfold keyL
    rw [← Lib.toList_data, this, decide_eq_true hK, Bool.or_true])
  have h0 : Hid ((∀ K ∈ keyWords, (s.toList == K) = false) → decide (0 < readT s) = keyL s.data.toList) := Lib.hid (fun h => by
    have hn : ¬ s.data.toList ∈ keyWords := fun hm => by
      have := h _ hm
      rw [Lib.toList_data] at this
      simp at this
    unfold keyL
    rw [decide_eq_false hn, Bool.or_false, hk])
  obtain ⟨q, hq⟩ : ∃ q, keyL s.data.toList = q := ⟨_, rfl⟩
  rw [hq] at h1 h0 ⊢
  clear hk hq
  go_enter Try.func13, Try.ntmps13
  go_wp2_with (go_at_call 24; refine (HR _).mono ?_; rintro e w1 ⟨rfl, hb1⟩)
  all_goals go_ret
  all_goals first
    | (exfalso; clear HR h0 h1; simp_all; done)
    | exact ⟨by rw [← h0.out (by intro K hK; simp only [keyWords, List.mem_cons, List.not_mem_nil, or_false] at hK; rcases hK with rfl | rfl | rfl | rfl | rfl | rfl | rfl | rfl | rfl | rfl | rfl | rfl | rfl | rfl | rfl | rfl | rfl | rfl | rfl | rfl | rfl | rfl <;> assumption)]; rfl, hb1⟩
    | (rename_i h; exact ⟨by rw [h1.out _ (by decide) h]; rfl, Below.refl _ _⟩)
end Go.Proofs.Ytnnhdkchdjddkaa.C
