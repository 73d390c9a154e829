/- The reference's sign, Number, number: walks. -/
import Derived.Test.YtnnhdkchdjddkaaRLex1
namespace Go.Proofs.Ytnnhdkchdjddkaa.C
open Go.RowKit
set_option linter.unusedSimpArgs false
set_option linter.unusedVariables false
def signs1I : List Int := [40, 41, 123, 125, 91, 93, 44, 59, 58, 61, 60, 62, 43, 45, 42, 47, 37, 38, 124, 94, 126]
theorem idx_signs (c : UInt8) : decide (0 ≤ Lib.indexByte signs1 c) = decide ((c.toNat : Int) ∈ signs1I) := by
  have h : ∀ n : Fin 256, decide (0 ≤ Lib.indexByte signs1 (UInt8.ofNat n.1)) = decide (((UInt8.ofNat n.1).toNat : Int) ∈ signs1I) := by decide +kernel
  have h2 := h ⟨c.toNat, c.toNat_lt⟩
  rw [UInt8.ofNat_toNat] at h2
  exact h2
theorem signL_none {l : List UInt8} (h2 : ¬ (2 ≤ l.length ∧ l.take 2 ∈ signs2)) : signL l = if chI l 0 ∈ signs1I then 1 else 0 := by
  unfold signL
  rw [if_neg h2]
  have h := idx_signs (l.getD 0 0)
  by_cases h3 : chI l 0 ∈ signs1I
  · rw [if_pos h3, if_pos]
    rw [show ((l.getD 0 0).toNat : Int) = chI l 0 from rfl, decide_eq_true h3] at h
    exact of_decide_eq_true h
  · rw [if_neg h3, if_neg]
    rw [show ((l.getD 0 0).toNat : Int) = chI l 0 from rfl, decide_eq_false h3] at h
    exact of_decide_eq_false h
set_option maxRecDepth 100000 in
set_option maxHeartbeats 3200000 in
theorem r_sign_c (s : ByteArray) (a : Nat) (w : World) (hs : s.size ≤ 4611686018427387904) (ha : a < s.size) :
    Calls Try.prog 15 #[.string s, .int .i64 (a : Int)] w fun e w' => e = .returned (.string (s.extract a (a + signL (s.data.toList.drop a)))) ∧ w = w' := by
  have hlen : (s.data.toList.drop a).length = s.size - a := by rw [List.length_drop, ← Lib.size_eq]
  have e1 : IntKind.i64.wrap ((a : Int) + 1) = (a : Int) + 1 := IntWalk.i64_in _ (by omega)
  have e2 : IntKind.i64.wrap ((a : Int) + 2) = (a : Int) + 2 := IntWalk.i64_in _ (by omega)
  have t1 : ((a : Int) + 1).toNat = a + 1 := by omega
  have t2 : ((a : Int) + 2).toNat = a + 2 := by omega
  have c3 : (a : Int) < (s.size : Int) := by omega
  have hx := chI_get s a ha
  have hc0 : chI (s.data.toList.drop a) 0 = ((s[a]'ha).toNat : Int) := by rw [chI_drop, Nat.add_zero, hx]
  have hX : (s.extract a (a + 2)).toList = (s.data.toList.drop a).take 2 := by rw [Lib.toList_data, Lib.extract_data, show a + 2 - a = 2 by omega]
  clear hx
  by_cases h2 : 2 ≤ (s.data.toList.drop a).length ∧ (s.data.toList.drop a).take 2 ∈ signs2
  · have hS : signL (s.data.toList.drop a) = 2 := by unfold signL; rw [if_pos h2]
    rw [hS]
    have g1 : decide ((a : Int) + 1 < (s.size : Int)) = true := decide_eq_true (by omega)
    have g2 : (a : Int) + 2 ≤ (s.size : Int) := by omega
    have hm := h2.2
    simp only [signs2, List.mem_cons, List.not_mem_nil, or_false] at hm
    obtain ⟨X, hXX⟩ : ∃ X, s.extract a (a + 2) = X := ⟨_, rfl⟩
    rw [hXX] at hX ⊢
    clear h2 hlen hS hc0
    rcases hm with hm | hm | hm | hm | hm | hm
    all_goals rw [hm] at hX
    all_goals clear hm
    all_goals (go_enter Try.func15, Try.ntmps15; go_wp2_with fail; go_ret; exact ⟨by first | rfl | (rw [← hXX]; rfl), rfl⟩)
  · have hS := signL_none h2
    rw [hc0] at hS
    have HS1 : Hid (∀ c ∈ signs1I, (((s[a]'ha).toNat : Int) == c) = true → s.extract a (a + signL (s.data.toList.drop a)) = s.extract a (a + 1)) := Lib.hid (fun c hc h => by rw [hS, if_pos (by rw [eq_of_beq h]; exact hc)])
    have HS0 : Hid ((∀ c ∈ signs1I, (((s[a]'ha).toNat : Int) == c) = false) → s.extract a (a + signL (s.data.toList.drop a)) = ⟨#[]⟩) := Lib.hid (fun h => by
      have hn : ¬ ((s[a]'ha).toNat : Int) ∈ signs1I := fun hm => by have := h _ hm; simp at this
      rw [hS, if_neg hn, Lib.extract_eq]
      simp)
    obtain ⟨T, hT⟩ : ∃ T, s.extract a (a + signL (s.data.toList.drop a)) = T := ⟨_, rfl⟩
    rw [hT] at HS1 HS0 ⊢
    clear hT hS hc0
    have g3 : (a : Int) + 1 ≤ (s.size : Int) := by omega
    by_cases h3 : a + 2 ≤ s.size
    · have g1 : decide ((a : Int) + 1 < (s.size : Int)) = true := decide_eq_true (by omega)
      have g2 : (a : Int) + 2 ≤ (s.size : Int) := by omega
      have hno : ∀ K ∈ signs2, ((s.extract a (a + 2)).toList == K) = false := fun K hK => by
        rw [beq_eq_false_iff_ne]
        intro h
        exact h2 ⟨by omega, by rw [← hX, h]; exact hK⟩
      have f0 := hno [61, 61] (by decide)
      have f1 := hno [33, 61] (by decide)
      have f2 := hno [60, 61] (by decide)
      have f3 := hno [62, 61] (by decide)
      have f4 := hno [60, 60] (by decide)
      have f5 := hno [62, 62] (by decide)
      clear hno h2 hX hlen
      go_enter Try.func15, Try.ntmps15
      go_wp2_with fail
      all_goals go_ret
      all_goals first
        | (exfalso; clear HS1 HS0; simp_all; done)
        | exact ⟨by rw [HS0.out (by intro K hK; simp only [signs1I, List.mem_cons, List.not_mem_nil, or_false] at hK; rcases hK with rfl | rfl | rfl | rfl | rfl | rfl | rfl | rfl | rfl | rfl | rfl | rfl | rfl | rfl | rfl | rfl | rfl | rfl | rfl | rfl | rfl <;> assumption)]; rfl, rfl⟩
        | (rename_i h; exact ⟨by rw [HS1.out _ (by decide) h]; rfl, rfl⟩)
    · have g1 : decide ((a : Int) + 1 < (s.size : Int)) = false := decide_eq_false (by omega)
      clear h2 hX hlen
      go_enter Try.func15, Try.ntmps15
      go_wp2_with fail
      all_goals go_ret
      all_goals first
        | (exfalso; clear HS1 HS0; simp_all; done)
        | exact ⟨by rw [HS0.out (by intro K hK; simp only [signs1I, List.mem_cons, List.not_mem_nil, or_false] at hK; rcases hK with rfl | rfl | rfl | rfl | rfl | rfl | rfl | rfl | rfl | rfl | rfl | rfl | rfl | rfl | rfl | rfl | rfl | rfl | rfl | rfl | rfl <;> assumption)]; rfl, rfl⟩
        | (rename_i h; exact ⟨by rw [HS1.out _ (by decide) h]; rfl, rfl⟩)
end Go.Proofs.Ytnnhdkchdjddkaa.C
