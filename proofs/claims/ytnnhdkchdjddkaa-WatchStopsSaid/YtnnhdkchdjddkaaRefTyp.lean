/- Contracts of the reference's types: the same closed forms as the program's; for every number, in whatever memory. -/
import Derived.Test.YtnnhdkchdjddkaaTyp
namespace Go.Proofs.Ytnnhdkchdjddkaa.C
open Go.RowKit
set_option linter.unusedSimpArgs false
set_option linter.unusedVariables false

theorem r_bits_c (t : Int) (w : World) : Calls Try.prog 44 #[.int .i64 t] w fun e w' => e = .returned (.int .i64 (bitsT t)) ∧ w = w' := by
  by_cases hlo : t < 1
  · have e0 : bitsT t = 0 := by unfold bitsT; rw [if_neg (by omega), if_neg (by omega), if_neg (by omega)]
    rw [e0]
    clear e0
    go_enter Try.func44, Try.ntmps44
    go_wp2
    go_ret
    exact ⟨rfl, rfl⟩
  by_cases hhi : 6 < t
  · have e0 : bitsT t = 0 := by unfold bitsT; rw [if_neg (by omega), if_neg (by omega), if_neg (by omega)]
    rw [e0]
    clear e0
    go_enter Try.func44, Try.ntmps44
    go_wp2
    go_ret
    exact ⟨rfl, rfl⟩
  rcases (by omega : t = 1 ∨ t = 2 ∨ t = 3 ∨ t = 4 ∨ t = 5 ∨ t = 6) with rfl | rfl | rfl | rfl | rfl | rfl
  · go_enter Try.func44, Try.ntmps44
    go_wp2
    go_ret
    exact ⟨rfl, rfl⟩
  · go_enter Try.func44, Try.ntmps44
    go_wp2
    go_ret
    exact ⟨rfl, rfl⟩
  · go_enter Try.func44, Try.ntmps44
    go_wp2
    go_ret
    exact ⟨rfl, rfl⟩
  · go_enter Try.func44, Try.ntmps44
    go_wp2
    go_ret
    exact ⟨rfl, rfl⟩
  · go_enter Try.func44, Try.ntmps44
    go_wp2
    go_ret
    exact ⟨rfl, rfl⟩
  · go_enter Try.func44, Try.ntmps44
    go_wp2
    go_ret
    exact ⟨rfl, rfl⟩
theorem r_max_c (t : Int) (w : World) : Calls Try.prog 36 #[.int .i64 t] w fun e w' => e = .returned (.int .i64 (maxT t)) ∧ w = w' := by
  rcases tcases t with rfl | rfl | rfl | rfl | rfl | rfl | ⟨h1, h2, h3, h4, h5, h6⟩
  · have e2 : bitsT 1 = 8 := rfl
    go_enter Try.func36, Try.ntmps36
    go_wp2_with ((go_at_call 44; refine (r_bits_c _ _).mono ?_; rintro e w' ⟨rfl, rfl⟩))
    go_ret
    exact ⟨rfl, rfl⟩
  · have e2 : bitsT 2 = 8 := rfl
    go_enter Try.func36, Try.ntmps36
    go_wp2_with ((go_at_call 44; refine (r_bits_c _ _).mono ?_; rintro e w' ⟨rfl, rfl⟩))
    go_ret
    exact ⟨rfl, rfl⟩
  · have e2 : bitsT 3 = 16 := rfl
    go_enter Try.func36, Try.ntmps36
    go_wp2_with ((go_at_call 44; refine (r_bits_c _ _).mono ?_; rintro e w' ⟨rfl, rfl⟩))
    go_ret
    exact ⟨rfl, rfl⟩
  · have e2 : bitsT 4 = 16 := rfl
    go_enter Try.func36, Try.ntmps36
    go_wp2_with ((go_at_call 44; refine (r_bits_c _ _).mono ?_; rintro e w' ⟨rfl, rfl⟩))
    go_ret
    exact ⟨rfl, rfl⟩
  · have e2 : bitsT 5 = 32 := rfl
    go_enter Try.func36, Try.ntmps36
    go_wp2_with ((go_at_call 44; refine (r_bits_c _ _).mono ?_; rintro e w' ⟨rfl, rfl⟩))
    go_ret
    exact ⟨rfl, rfl⟩
  · have e2 : bitsT 6 = 32 := rfl
    go_enter Try.func36, Try.ntmps36
    go_wp2_with ((go_at_call 44; refine (r_bits_c _ _).mono ?_; rintro e w' ⟨rfl, rfl⟩))
    go_ret
    exact ⟨rfl, rfl⟩
  · have e0 : maxT t = 0 := by simp [maxT, h1, h2, h3, h4, h5, h6]
    have e2 : bitsT t = 0 := by simp [bitsT, h1, h2, h3, h4, h5, h6]
    rw [e0]
    clear h1 h2 h3 h4 h5 h6 e0
    go_enter Try.func36, Try.ntmps36
    go_wp2_with ((go_at_call 44; refine (r_bits_c _ _).mono ?_; rintro e w' ⟨rfl, rfl⟩))
    go_ret
    exact ⟨rfl, rfl⟩
theorem wrap_i8 (n : Int) : IntKind.i8.wrap n = (n + 128) % 256 - 128 := by
  simp [IntKind.wrap, IntKind.bits, IntKind.signed]
  split <;> omega
theorem wrap_i16 (n : Int) : IntKind.i16.wrap n = (n + 32768) % 65536 - 32768 := by
  simp [IntKind.wrap, IntKind.bits, IntKind.signed]
  split <;> omega
theorem wrap_u16 (n : Int) : IntKind.u16.wrap n = n % 65536 := by simp [IntKind.wrap, IntKind.bits, IntKind.signed]
theorem r_name_c (t : Int) (w : World) : Calls Try.prog 35 #[.int .i64 t] w fun e w' => e = .returned (.string (nameT t)) ∧ Below w.heap.size w w' := by
  rcases tcases t with rfl | rfl | rfl | rfl | rfl | rfl | ⟨h1, h2, h3, h4, h5, h6⟩
  · have e2 : bitsT 1 = 8 := rfl
    go_enter Try.func35, Try.ntmps35
    go_wp2_with ((go_at_call 44; refine (r_bits_c _ _).mono ?_; rintro e w' ⟨rfl, rfl⟩))
    go_ret
    exact ⟨rfl, (Below.refl _ _).alloc (Nat.le_refl _) _⟩
  · have e2 : bitsT 2 = 8 := rfl
    go_enter Try.func35, Try.ntmps35
    go_wp2_with ((go_at_call 44; refine (r_bits_c _ _).mono ?_; rintro e w' ⟨rfl, rfl⟩))
    go_ret
    exact ⟨rfl, (Below.refl _ _).alloc (Nat.le_refl _) _⟩
  · have e2 : bitsT 3 = 16 := rfl
    go_enter Try.func35, Try.ntmps35
    go_wp2_with ((go_at_call 44; refine (r_bits_c _ _).mono ?_; rintro e w' ⟨rfl, rfl⟩))
    go_ret
    exact ⟨rfl, (Below.refl _ _).alloc (Nat.le_refl _) _⟩
  · have e2 : bitsT 4 = 16 := rfl
    go_enter Try.func35, Try.ntmps35
    go_wp2_with ((go_at_call 44; refine (r_bits_c _ _).mono ?_; rintro e w' ⟨rfl, rfl⟩))
    go_ret
    exact ⟨rfl, (Below.refl _ _).alloc (Nat.le_refl _) _⟩
  · have e2 : bitsT 5 = 32 := rfl
    go_enter Try.func35, Try.ntmps35
    go_wp2_with ((go_at_call 44; refine (r_bits_c _ _).mono ?_; rintro e w' ⟨rfl, rfl⟩))
    go_ret
    exact ⟨rfl, (Below.refl _ _).alloc (Nat.le_refl _) _⟩
  · have e2 : bitsT 6 = 32 := rfl
    go_enter Try.func35, Try.ntmps35
    go_wp2_with ((go_at_call 44; refine (r_bits_c _ _).mono ?_; rintro e w' ⟨rfl, rfl⟩))
    go_ret
    exact ⟨rfl, (Below.refl _ _).alloc (Nat.le_refl _) _⟩
  · have e0 : nameT t = ⟨#[]⟩ := by simp [nameT, h1, h2, h3, h4, h5, h6]
    have e2 : bitsT t = 0 := by simp [bitsT, h1, h2, h3, h4, h5, h6]
    rw [e0]
    clear h1 h2 h3 h4 h5 h6 e0
    go_enter Try.func35, Try.ntmps35
    go_wp2_with ((go_at_call 44; refine (r_bits_c _ _).mono ?_; rintro e w' ⟨rfl, rfl⟩))
    go_ret
    exact ⟨rfl, Below.refl _ _⟩
theorem nameT_get (k : Nat) (h : k < 6) : nameT ((k : Int) + 1) = namesL.getD k ByteArray.empty := by
  rcases (by omega : k = 0 ∨ k = 1 ∨ k = 2 ∨ k = 3 ∨ k = 4 ∨ k = 5) with rfl | rfl | rfl | rfl | rfl | rfl <;> rfl
theorem beq_swap (a b : List UInt8) : (a == b) = (b == a) := by
  rw [Bool.eq_iff_iff]; simp; exact ⟨Eq.symm, Eq.symm⟩
theorem r_read_c (s : ByteArray) (w : World) : Calls Try.prog 24 #[.string s] w fun e w' => e = .returned (.int .i64 (readT s)) ∧ Below w.heap.size w w' := by
  go_enter Try.func24, Try.ntmps24
  go_wp2
  go_loopw [3] (fun i wr => ∃ k : Nat, k ≤ 6 ∧ i = .int .i64 ((k : Int) + 1) ∧ Hid (∀ j, j < k → (s.toList == (namesL.getD j ByteArray.empty).toList) = false) ∧ Below w.heap.size w wr) (fun i _ => 7 - (intOf i).toNat)
  case atStart => exact ⟨0, Nat.zero_le _, rfl, fun j hj => absurd hj (Nat.not_lt_zero _), Below.refl _ _⟩
  case round =>
    obtain ⟨k, hk, rfl, hn, hb⟩ := hrel
    by_cases hlt : k < 6
    · have hng := nameT_get k hlt
      obtain ⟨x, hx⟩ : ∃ x, x = nameT ((k : Int) + 1) := ⟨_, rfl⟩
      have HC : ∀ W : World, Calls Try.prog 35 #[.int .i64 ((k : Int) + 1)] W fun e w' => e = .returned (.string x) ∧ Below W.heap.size W w' := by rw [hx]; exact fun W => r_name_c _ W
      rw [← hx] at hng
      by_cases heq : (s.toList == x.toList) = true
      · have FIN : Hid (readT s = (k : Int) + 1) := by
          show readT s = (k : Int) + 1
          unfold readT
          rw [idxT_found (l := namesL) (k := k) hlt (by rw [← hng]; exact heq) hn.out]
        have heq2 : (x.toList == s.toList) = true := by rw [beq_swap]; exact heq
        clear hx hn heq
        have HNG : Hid (x = namesL.getD k ByteArray.empty) := hng
        clear hng
        go_wp2_with ((go_at_call 35; refine (HC _).mono ?_; rintro e w' ⟨rfl, hb1⟩))
        go_ret
        exact ⟨ret_i64 FIN.out.symm, hb.trans (hb1.mono hb.size)⟩
      · have hne : (s.toList == x.toList) = false := by simpa using heq
        have hnext : ∀ j, j < k + 1 → (s.toList == (namesL.getD j ByteArray.empty).toList) = false := by
          intro j hj
          by_cases e : j = k
          · rw [e, ← hng]; exact hne
          · exact hn.out j (by omega)
        have HN : Hid (∀ j, j < k + 1 → (s.toList == (namesL.getD j ByteArray.empty).toList) = false) := hnext
        have hne2 : (x.toList == s.toList) = false := by rw [beq_swap]; exact hne
        clear hnext heq hx hn hng hne
        go_wp2_with ((go_at_call 35; refine (HC _).mono ?_; rintro e w' ⟨rfl, hb1⟩))
        go_roundw
        case rel => exact ⟨k + 1, by omega, by go_num, HN, hb.trans (hb1.mono hb.size)⟩
        case measure => simp [intOf]; omega
    · obtain rfl : k = 6 := by omega
      have FIN : Hid (readT s = 0) := by
        show readT s = 0
        unfold readT
        rw [idxT_none (fun j hj => hn.out j hj)]; rfl
      clear hn
      go_wp2
      go_ret
      exact ⟨ret_i64 FIN.out.symm, hb⟩
end Go.Proofs.Ytnnhdkchdjddkaa.C
