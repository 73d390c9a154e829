/- Contracts of the package typ: each function's answer in closed form; for every number, in whatever memory. -/
import Derived.Test.YtnnhdkchdjddkaaProg
import Derived.WalkKit
import Derived.WalkLawsBesides
import Derived.KernelRfl
import Derived.Below
import Derived.Outline
namespace Go.Proofs.Ytnnhdkchdjddkaa.C
open Go.RowKit

def bitsT (t : Int) : Int := if t = 5 ∨ t = 6 then 32 else if t = 3 ∨ t = 4 then 16 else if t = 1 ∨ t = 2 then 8 else 0
def minT (t : Int) : Int := if t = 1 then -128 else if t = 3 then -32768 else if t = 5 then -2147483648 else 0
def maxT (t : Int) : Int := if t = 1 then 127 else if t = 2 then 255 else if t = 3 then 32767 else if t = 4 then 65535 else if t = 5 then 2147483647 else if t = 6 then 4294967295 else 0
def wrapT (t v : Int) : Int := if t = 1 then (v + 128) % 256 - 128 else if t = 2 then v % 256 else if t = 3 then (v + 32768) % 65536 - 32768 else if t = 4 then v % 65536 else if t = 5 then (v + 2147483648) % 4294967296 - 2147483648 else if t = 6 then v % 4294967296 else 0
def isT (t : Int) : Prop := t = 1 ∨ t = 2 ∨ t = 3 ∨ t = 4 ∨ t = 5 ∨ t = 6
instance (t : Int) : Decidable (isT t) := by unfold isT; infer_instance
theorem ret_i64 {a b : Int} (h : a = b) : Ending.returned (.int .i64 a) = .returned (.int .i64 b) := by rw [h]
theorem ret_bool {a b : Bool} (h : a = b) : Ending.returned (.bool a) = .returned (.bool b) := by rw [h]

theorem bits_c (t : Int) (w : World) : Calls Try.prog 33 #[.int .i64 t] w fun e w' => e = .returned (.int .i64 (bitsT t)) ∧ w = w' := by
  by_cases h5 : t = 5
  · subst h5; go_enter Try.func33, Try.ntmps33; go_wp2; go_ret; exact ⟨rfl, rfl⟩
  by_cases h6 : t = 6
  · subst h6; go_enter Try.func33, Try.ntmps33; go_wp2; go_ret; exact ⟨rfl, rfl⟩
  by_cases h3 : t = 3
  · subst h3; go_enter Try.func33, Try.ntmps33; go_wp2; go_ret; exact ⟨rfl, rfl⟩
  by_cases h4 : t = 4
  · subst h4; go_enter Try.func33, Try.ntmps33; go_wp2; go_ret; exact ⟨rfl, rfl⟩
  by_cases h1 : t = 1
  · subst h1; go_enter Try.func33, Try.ntmps33; go_wp2; go_ret; exact ⟨rfl, rfl⟩
  by_cases h2 : t = 2
  · subst h2; go_enter Try.func33, Try.ntmps33; go_wp2; go_ret; exact ⟨rfl, rfl⟩
  have e0 : bitsT t = 0 := by simp [bitsT, h1, h2, h3, h4, h5, h6]
  rw [e0]
  have b5 := beq_eq_false_iff_ne.mpr h5
  have b6 := beq_eq_false_iff_ne.mpr h6
  have b3 := beq_eq_false_iff_ne.mpr h3
  have b4 := beq_eq_false_iff_ne.mpr h4
  have b1 := beq_eq_false_iff_ne.mpr h1
  have b2 := beq_eq_false_iff_ne.mpr h2
  clear h1 h2 h3 h4 h5 h6 e0
  go_enter Try.func33, Try.ntmps33
  go_wp2
  go_ret
  exact ⟨rfl, rfl⟩

theorem wrapT_bd (t v : Int) : -2147483648 ≤ wrapT t v ∧ wrapT t v ≤ 4294967295 := by
  unfold wrapT
  split
  · omega
  split
  · omega
  split
  · omega
  split
  · omega
  split
  · omega
  split <;> omega
theorem tcases (t : Int) : t = 1 ∨ t = 2 ∨ t = 3 ∨ t = 4 ∨ t = 5 ∨ t = 6 ∨ (t ≠ 1 ∧ t ≠ 2 ∧ t ≠ 3 ∧ t ≠ 4 ∧ t ≠ 5 ∧ t ≠ 6) := by omega
def signedT (t : Int) : Bool := decide (t = 1 ∨ t = 3 ∨ t = 5)
theorem signed_c (t : Int) (w : World) : Calls Try.prog 43 #[.int .i64 t] w fun e w' => e = .returned (.bool (signedT t)) ∧ w = w' := by
  rcases tcases t with rfl | rfl | rfl | rfl | rfl | rfl | ⟨h1, h2, h3, h4, h5, h6⟩
  · go_enter Try.func43, Try.ntmps43
    go_wp2
    go_ret
    exact ⟨rfl, rfl⟩
  · go_enter Try.func43, Try.ntmps43
    go_wp2
    go_ret
    exact ⟨rfl, rfl⟩
  · go_enter Try.func43, Try.ntmps43
    go_wp2
    go_ret
    exact ⟨rfl, rfl⟩
  · go_enter Try.func43, Try.ntmps43
    go_wp2
    go_ret
    exact ⟨rfl, rfl⟩
  · go_enter Try.func43, Try.ntmps43
    go_wp2
    go_ret
    exact ⟨rfl, rfl⟩
  · go_enter Try.func43, Try.ntmps43
    go_wp2
    go_ret
    exact ⟨rfl, rfl⟩
  · have e0 : signedT t = false := by simp [signedT, h1, h3, h5]
    rw [e0]
    have b5 := beq_eq_false_iff_ne.mpr h5
    have b3 := beq_eq_false_iff_ne.mpr h3
    have b1 := beq_eq_false_iff_ne.mpr h1
    clear h1 h2 h3 h4 h5 h6 e0
    go_enter Try.func43, Try.ntmps43
    go_wp2
    go_ret
    exact ⟨rfl, rfl⟩
theorem min_c (t : Int) (w : World) : Calls Try.prog 57 #[.int .i64 t] w fun e w' => e = .returned (.int .i64 (minT t)) ∧ w = w' := by
  rcases tcases t with rfl | rfl | rfl | rfl | rfl | rfl | ⟨h1, h2, h3, h4, h5, h6⟩
  · have e1 : signedT 1 = true := rfl
    have e2 : bitsT 1 = 8 := rfl
    go_enter Try.func57, Try.ntmps57
    go_wp2_with (first | (go_at_call 43; refine (signed_c _ _).mono ?_; rintro e w' ⟨rfl, rfl⟩) | (go_at_call 33; refine (bits_c _ _).mono ?_; rintro e w' ⟨rfl, rfl⟩))
    go_ret
    exact ⟨rfl, rfl⟩
  · have e1 : signedT 2 = false := rfl
    have e2 : bitsT 2 = 8 := rfl
    go_enter Try.func57, Try.ntmps57
    go_wp2_with (first | (go_at_call 43; refine (signed_c _ _).mono ?_; rintro e w' ⟨rfl, rfl⟩) | (go_at_call 33; refine (bits_c _ _).mono ?_; rintro e w' ⟨rfl, rfl⟩))
    go_ret
    exact ⟨rfl, rfl⟩
  · have e1 : signedT 3 = true := rfl
    have e2 : bitsT 3 = 16 := rfl
    go_enter Try.func57, Try.ntmps57
    go_wp2_with (first | (go_at_call 43; refine (signed_c _ _).mono ?_; rintro e w' ⟨rfl, rfl⟩) | (go_at_call 33; refine (bits_c _ _).mono ?_; rintro e w' ⟨rfl, rfl⟩))
    go_ret
    exact ⟨rfl, rfl⟩
  · have e1 : signedT 4 = false := rfl
    have e2 : bitsT 4 = 16 := rfl
    go_enter Try.func57, Try.ntmps57
    go_wp2_with (first | (go_at_call 43; refine (signed_c _ _).mono ?_; rintro e w' ⟨rfl, rfl⟩) | (go_at_call 33; refine (bits_c _ _).mono ?_; rintro e w' ⟨rfl, rfl⟩))
    go_ret
    exact ⟨rfl, rfl⟩
  · have e1 : signedT 5 = true := rfl
    have e2 : bitsT 5 = 32 := rfl
    go_enter Try.func57, Try.ntmps57
    go_wp2_with (first | (go_at_call 43; refine (signed_c _ _).mono ?_; rintro e w' ⟨rfl, rfl⟩) | (go_at_call 33; refine (bits_c _ _).mono ?_; rintro e w' ⟨rfl, rfl⟩))
    go_ret
    exact ⟨rfl, rfl⟩
  · have e1 : signedT 6 = false := rfl
    have e2 : bitsT 6 = 32 := rfl
    go_enter Try.func57, Try.ntmps57
    go_wp2_with (first | (go_at_call 43; refine (signed_c _ _).mono ?_; rintro e w' ⟨rfl, rfl⟩) | (go_at_call 33; refine (bits_c _ _).mono ?_; rintro e w' ⟨rfl, rfl⟩))
    go_ret
    exact ⟨rfl, rfl⟩
  · have e0 : minT t = 0 := by simp [minT, h1, h3, h5]
    rw [e0]
    clear e0
    have e1 : signedT t = false := by simp [signedT, h1, h3, h5]
    have e2 : bitsT t = 0 := by simp [bitsT, h1, h2, h3, h4, h5, h6]
    clear h1 h2 h3 h4 h5 h6
    go_enter Try.func57, Try.ntmps57
    go_wp2_with (first | (go_at_call 43; refine (signed_c _ _).mono ?_; rintro e w' ⟨rfl, rfl⟩) | (go_at_call 33; refine (bits_c _ _).mono ?_; rintro e w' ⟨rfl, rfl⟩))
    go_ret
    exact ⟨rfl, rfl⟩
theorem max_c (t : Int) (w : World) : Calls Try.prog 34 #[.int .i64 t] w fun e w' => e = .returned (.int .i64 (maxT t)) ∧ w = w' := by
  rcases tcases t with rfl | rfl | rfl | rfl | rfl | rfl | ⟨h1, h2, h3, h4, h5, h6⟩
  · have e1 : signedT 1 = true := rfl
    have e2 : bitsT 1 = 8 := rfl
    go_enter Try.func34, Try.ntmps34
    go_wp2_with (first | (go_at_call 43; refine (signed_c _ _).mono ?_; rintro e w' ⟨rfl, rfl⟩) | (go_at_call 33; refine (bits_c _ _).mono ?_; rintro e w' ⟨rfl, rfl⟩))
    go_ret
    exact ⟨rfl, rfl⟩
  · have e1 : signedT 2 = false := rfl
    have e2 : bitsT 2 = 8 := rfl
    go_enter Try.func34, Try.ntmps34
    go_wp2_with (first | (go_at_call 43; refine (signed_c _ _).mono ?_; rintro e w' ⟨rfl, rfl⟩) | (go_at_call 33; refine (bits_c _ _).mono ?_; rintro e w' ⟨rfl, rfl⟩))
    go_ret
    exact ⟨rfl, rfl⟩
  · have e1 : signedT 3 = true := rfl
    have e2 : bitsT 3 = 16 := rfl
    go_enter Try.func34, Try.ntmps34
    go_wp2_with (first | (go_at_call 43; refine (signed_c _ _).mono ?_; rintro e w' ⟨rfl, rfl⟩) | (go_at_call 33; refine (bits_c _ _).mono ?_; rintro e w' ⟨rfl, rfl⟩))
    go_ret
    exact ⟨rfl, rfl⟩
  · have e1 : signedT 4 = false := rfl
    have e2 : bitsT 4 = 16 := rfl
    go_enter Try.func34, Try.ntmps34
    go_wp2_with (first | (go_at_call 43; refine (signed_c _ _).mono ?_; rintro e w' ⟨rfl, rfl⟩) | (go_at_call 33; refine (bits_c _ _).mono ?_; rintro e w' ⟨rfl, rfl⟩))
    go_ret
    exact ⟨rfl, rfl⟩
  · have e1 : signedT 5 = true := rfl
    have e2 : bitsT 5 = 32 := rfl
    go_enter Try.func34, Try.ntmps34
    go_wp2_with (first | (go_at_call 43; refine (signed_c _ _).mono ?_; rintro e w' ⟨rfl, rfl⟩) | (go_at_call 33; refine (bits_c _ _).mono ?_; rintro e w' ⟨rfl, rfl⟩))
    go_ret
    exact ⟨rfl, rfl⟩
  · have e1 : signedT 6 = false := rfl
    have e2 : bitsT 6 = 32 := rfl
    go_enter Try.func34, Try.ntmps34
    go_wp2_with (first | (go_at_call 43; refine (signed_c _ _).mono ?_; rintro e w' ⟨rfl, rfl⟩) | (go_at_call 33; refine (bits_c _ _).mono ?_; rintro e w' ⟨rfl, rfl⟩))
    go_ret
    exact ⟨rfl, rfl⟩
  · have e0 : maxT t = 0 := by simp [maxT, h1, h2, h3, h4, h5, h6]
    rw [e0]
    clear e0
    have e1 : signedT t = false := by simp [signedT, h1, h3, h5]
    have e2 : bitsT t = 0 := by simp [bitsT, h1, h2, h3, h4, h5, h6]
    clear h1 h2 h3 h4 h5 h6
    go_enter Try.func34, Try.ntmps34
    go_wp2_with (first | (go_at_call 43; refine (signed_c _ _).mono ?_; rintro e w' ⟨rfl, rfl⟩) | (go_at_call 33; refine (bits_c _ _).mono ?_; rintro e w' ⟨rfl, rfl⟩))
    go_ret
    exact ⟨rfl, rfl⟩
theorem and_mask (a : Int) (i : Nat) (hi : i ≤ 32) : Go.bits .and .i64 a (2 ^ i - 1) = a % 2 ^ i := by
  have hpos : 0 < 2 ^ i := Nat.two_pow_pos i
  have hle : 2 ^ i ≤ 2 ^ 32 := Nat.pow_le_pow_right (by decide) hi
  have hc : ((2 : Int) ^ i - 1) = ((2 ^ i - 1 : Nat) : Int) := by rw [Int.natCast_sub hpos]; simp
  have hm : (2 ^ i - 1) % 2 ^ 64 = 2 ^ i - 1 := Nat.mod_eq_of_lt (by omega)
  show IntKind.i64.wrap (((BitVec.ofInt 64 a &&& BitVec.ofInt 64 (2 ^ i - 1)).toNat : Nat) : Int) = _
  rw [hc]
  simp only [BitVec.toNat_and, BitVec.ofInt_natCast, BitVec.toNat_ofNat, hm, BitVec.toNat_ofInt]
  rw [Nat.and_two_pow_sub_one_eq_mod]
  have e : ((2 ^ 64 : Nat) : Int) = 18446744073709551616 := by decide
  rw [e]
  have h0 : 0 ≤ a % 18446744073709551616 := Int.emod_nonneg _ (by decide)
  have hcast : (((a % 18446744073709551616).toNat % 2 ^ i : Nat) : Int) = a % 2 ^ i := by
    rw [Int.natCast_emod, Int.toNat_of_nonneg h0]
    have hd : ((2 ^ i : Nat) : Int) ∣ 18446744073709551616 := by
      have : (2 ^ i : Nat) ∣ 2 ^ 64 := Nat.pow_dvd_pow 2 (by omega)
      rw [← e]; exact Int.natCast_dvd_natCast.mpr this
    have := Int.emod_emod_of_dvd a hd
    rw [this]; simp
  rw [hcast, IntKind.wrap_i64]
  have hp : (0 : Int) < 2 ^ i := Int.pow_pos (by decide)
  have h1 : 0 ≤ a % 2 ^ i := Int.emod_nonneg _ (by omega)
  have h2 : a % 2 ^ i < 2 ^ i := Int.emod_lt_of_pos _ hp
  have h3 : (2 : Int) ^ i ≤ 4294967296 := by
    have : ((2 ^ i : Nat) : Int) ≤ ((2 ^ 32 : Nat) : Int) := by exact_mod_cast hle
    simpa using this
  omega
theorem and_255 (a : Int) : Go.bits .and .i64 a 255 = a % 256 := and_mask a 8 (by decide)
theorem and_65535 (a : Int) : Go.bits .and .i64 a 65535 = a % 65536 := and_mask a 16 (by decide)
theorem and_4294967295 (a : Int) : Go.bits .and .i64 a 4294967295 = a % 4294967296 := and_mask a 32 (by decide)

theorem bitsT_pos (t : Int) : decide (0 < bitsT t) = decide (isT t) := by
  rcases tcases t with rfl | rfl | rfl | rfl | rfl | rfl | ⟨h1, h2, h3, h4, h5, h6⟩
  iterate 6 (first | rfl | skip)
  simp [bitsT, isT, h1, h2, h3, h4, h5, h6]
def inT (t v : Int) : Bool := decide (isT t ∧ minT t ≤ v ∧ v ≤ maxT t)
theorem in_c (t v : Int) (w : World) : Calls Try.prog 48 #[.int .i64 t, .int .i64 v] w fun e w' => e = .returned (.bool (inT t v)) ∧ w = w' := by
  by_cases ht : isT t
  · have hb : decide (0 < bitsT t) = true := by rw [bitsT_pos]; simp [ht]
    by_cases h1 : minT t ≤ v
    · have e0 : inT t v = decide (v ≤ maxT t) := by simp [inT, ht, h1]
      have h2 : decide (minT t ≤ v) = true := decide_eq_true h1
      rw [e0]
      clear ht h1 e0
      go_enter Try.func48, Try.ntmps48
      go_wp2_with (first | (go_at_call 33; refine (bits_c _ _).mono ?_; rintro e w' ⟨rfl, rfl⟩) | (go_at_call 57; refine (min_c _ _).mono ?_; rintro e w' ⟨rfl, rfl⟩) | (go_at_call 34; refine (max_c _ _).mono ?_; rintro e w' ⟨rfl, rfl⟩))
      go_ret
      exact ⟨rfl, rfl⟩
    · have e0 : inT t v = false := by simp [inT, h1]
      have h2 : decide (minT t ≤ v) = false := decide_eq_false h1
      rw [e0]
      clear ht h1 e0
      go_enter Try.func48, Try.ntmps48
      go_wp2_with (first | (go_at_call 33; refine (bits_c _ _).mono ?_; rintro e w' ⟨rfl, rfl⟩) | (go_at_call 57; refine (min_c _ _).mono ?_; rintro e w' ⟨rfl, rfl⟩) | (go_at_call 34; refine (max_c _ _).mono ?_; rintro e w' ⟨rfl, rfl⟩))
      go_ret
      exact ⟨rfl, rfl⟩
  · have hb : decide (0 < bitsT t) = false := by rw [bitsT_pos]; simp [ht]
    have e0 : inT t v = false := by simp [inT, ht]
    rw [e0]
    clear ht e0
    go_enter Try.func48, Try.ntmps48
    go_wp2_with (first | (go_at_call 33; refine (bits_c _ _).mono ?_; rintro e w' ⟨rfl, rfl⟩) | (go_at_call 57; refine (min_c _ _).mono ?_; rintro e w' ⟨rfl, rfl⟩) | (go_at_call 34; refine (max_c _ _).mono ?_; rintro e w' ⟨rfl, rfl⟩))
    go_ret
    exact ⟨rfl, rfl⟩
theorem wrap_c (t v : Int) (w : World) : Calls Try.prog 23 #[.int .i64 t, .int .i64 v] w fun e w' => e = .returned (.int .i64 (wrapT t v)) ∧ w = w' := by
  rcases tcases t with rfl | rfl | rfl | rfl | rfl | rfl | ⟨h1, h2, h3, h4, h5, h6⟩
  · have e2 : bitsT 1 = 8 := rfl
    have e3 : maxT 1 = 127 := rfl
    have ea := and_255 v
    have e0 : wrapT 1 v = (v + 128) % 256 - 128 := rfl
    rw [e0]
    clear e0
    by_cases h : 127 < v % 256
    · go_enter Try.func23, Try.ntmps23
      go_wp2_with (first | (go_at_call 33; refine (bits_c _ _).mono ?_; rintro e w' ⟨rfl, rfl⟩) | (go_at_call 34; refine (max_c _ _).mono ?_; rintro e w' ⟨rfl, rfl⟩))
      go_ret
      exact ⟨ret_i64 (by omega), rfl⟩
    · go_enter Try.func23, Try.ntmps23
      go_wp2_with (first | (go_at_call 33; refine (bits_c _ _).mono ?_; rintro e w' ⟨rfl, rfl⟩) | (go_at_call 34; refine (max_c _ _).mono ?_; rintro e w' ⟨rfl, rfl⟩))
      go_ret
      exact ⟨ret_i64 (by omega), rfl⟩
  · have e2 : bitsT 2 = 8 := rfl
    have e3 : maxT 2 = 255 := rfl
    have ea := and_255 v
    have e0 : wrapT 2 v = v % 256 := rfl
    rw [e0]
    clear e0
    have h : v % 256 ≤ 255 := by omega
    go_enter Try.func23, Try.ntmps23
    go_wp2_with (first | (go_at_call 33; refine (bits_c _ _).mono ?_; rintro e w' ⟨rfl, rfl⟩) | (go_at_call 34; refine (max_c _ _).mono ?_; rintro e w' ⟨rfl, rfl⟩))
    go_ret
    exact ⟨rfl, rfl⟩
  · have e2 : bitsT 3 = 16 := rfl
    have e3 : maxT 3 = 32767 := rfl
    have ea := and_65535 v
    have e0 : wrapT 3 v = (v + 32768) % 65536 - 32768 := rfl
    rw [e0]
    clear e0
    by_cases h : 32767 < v % 65536
    · go_enter Try.func23, Try.ntmps23
      go_wp2_with (first | (go_at_call 33; refine (bits_c _ _).mono ?_; rintro e w' ⟨rfl, rfl⟩) | (go_at_call 34; refine (max_c _ _).mono ?_; rintro e w' ⟨rfl, rfl⟩))
      go_ret
      exact ⟨ret_i64 (by omega), rfl⟩
    · go_enter Try.func23, Try.ntmps23
      go_wp2_with (first | (go_at_call 33; refine (bits_c _ _).mono ?_; rintro e w' ⟨rfl, rfl⟩) | (go_at_call 34; refine (max_c _ _).mono ?_; rintro e w' ⟨rfl, rfl⟩))
      go_ret
      exact ⟨ret_i64 (by omega), rfl⟩
  · have e2 : bitsT 4 = 16 := rfl
    have e3 : maxT 4 = 65535 := rfl
    have ea := and_65535 v
    have e0 : wrapT 4 v = v % 65536 := rfl
    rw [e0]
    clear e0
    have h : v % 65536 ≤ 65535 := by omega
    go_enter Try.func23, Try.ntmps23
    go_wp2_with (first | (go_at_call 33; refine (bits_c _ _).mono ?_; rintro e w' ⟨rfl, rfl⟩) | (go_at_call 34; refine (max_c _ _).mono ?_; rintro e w' ⟨rfl, rfl⟩))
    go_ret
    exact ⟨rfl, rfl⟩
  · have e2 : bitsT 5 = 32 := rfl
    have e3 : maxT 5 = 2147483647 := rfl
    have ea := and_4294967295 v
    have e0 : wrapT 5 v = (v + 2147483648) % 4294967296 - 2147483648 := rfl
    rw [e0]
    clear e0
    by_cases h : 2147483647 < v % 4294967296
    · go_enter Try.func23, Try.ntmps23
      go_wp2_with (first | (go_at_call 33; refine (bits_c _ _).mono ?_; rintro e w' ⟨rfl, rfl⟩) | (go_at_call 34; refine (max_c _ _).mono ?_; rintro e w' ⟨rfl, rfl⟩))
      go_ret
      exact ⟨ret_i64 (by omega), rfl⟩
    · go_enter Try.func23, Try.ntmps23
      go_wp2_with (first | (go_at_call 33; refine (bits_c _ _).mono ?_; rintro e w' ⟨rfl, rfl⟩) | (go_at_call 34; refine (max_c _ _).mono ?_; rintro e w' ⟨rfl, rfl⟩))
      go_ret
      exact ⟨ret_i64 (by omega), rfl⟩
  · have e2 : bitsT 6 = 32 := rfl
    have e3 : maxT 6 = 4294967295 := rfl
    have ea := and_4294967295 v
    have e0 : wrapT 6 v = v % 4294967296 := rfl
    rw [e0]
    clear e0
    have h : v % 4294967296 ≤ 4294967295 := by omega
    go_enter Try.func23, Try.ntmps23
    go_wp2_with (first | (go_at_call 33; refine (bits_c _ _).mono ?_; rintro e w' ⟨rfl, rfl⟩) | (go_at_call 34; refine (max_c _ _).mono ?_; rintro e w' ⟨rfl, rfl⟩))
    go_ret
    exact ⟨rfl, rfl⟩
  · have e0 : wrapT t v = 0 := by simp [wrapT, h1, h2, h3, h4, h5, h6]
    have e2 : bitsT t = 0 := by simp [bitsT, h1, h2, h3, h4, h5, h6]
    rw [e0]
    clear h1 h2 h3 h4 h5 h6 e0
    go_enter Try.func23, Try.ntmps23
    go_wp2_with ((go_at_call 33; refine (bits_c _ _).mono ?_; rintro e w' ⟨rfl, rfl⟩))
    go_ret
    exact ⟨rfl, rfl⟩
def upT (t : Int) : Int := if t = 6 then 6 else if isT t then 5 else 0
theorem up_c (t : Int) (w : World) : Calls Try.prog 31 #[.int .i64 t] w fun e w' => e = .returned (.int .i64 (upT t)) ∧ w = w' := by
  rcases tcases t with rfl | rfl | rfl | rfl | rfl | rfl | ⟨h1, h2, h3, h4, h5, h6⟩
  · have e2 : bitsT 1 = 8 := rfl
    go_enter Try.func31, Try.ntmps31
    go_wp2_with ((go_at_call 33; refine (bits_c _ _).mono ?_; rintro e w' ⟨rfl, rfl⟩))
    go_ret
    exact ⟨rfl, rfl⟩
  · have e2 : bitsT 2 = 8 := rfl
    go_enter Try.func31, Try.ntmps31
    go_wp2_with ((go_at_call 33; refine (bits_c _ _).mono ?_; rintro e w' ⟨rfl, rfl⟩))
    go_ret
    exact ⟨rfl, rfl⟩
  · have e2 : bitsT 3 = 16 := rfl
    go_enter Try.func31, Try.ntmps31
    go_wp2_with ((go_at_call 33; refine (bits_c _ _).mono ?_; rintro e w' ⟨rfl, rfl⟩))
    go_ret
    exact ⟨rfl, rfl⟩
  · have e2 : bitsT 4 = 16 := rfl
    go_enter Try.func31, Try.ntmps31
    go_wp2_with ((go_at_call 33; refine (bits_c _ _).mono ?_; rintro e w' ⟨rfl, rfl⟩))
    go_ret
    exact ⟨rfl, rfl⟩
  · have e2 : bitsT 5 = 32 := rfl
    go_enter Try.func31, Try.ntmps31
    go_wp2_with ((go_at_call 33; refine (bits_c _ _).mono ?_; rintro e w' ⟨rfl, rfl⟩))
    go_ret
    exact ⟨rfl, rfl⟩
  · have e2 : bitsT 6 = 32 := rfl
    go_enter Try.func31, Try.ntmps31
    go_wp2_with ((go_at_call 33; refine (bits_c _ _).mono ?_; rintro e w' ⟨rfl, rfl⟩))
    go_ret
    exact ⟨rfl, rfl⟩
  · have e0 : upT t = 0 := by simp [upT, isT, h1, h2, h3, h4, h5, h6]
    have e2 : bitsT t = 0 := by simp [bitsT, h1, h2, h3, h4, h5, h6]
    rw [e0]
    clear h1 h2 h3 h4 h5 h6 e0
    go_enter Try.func31, Try.ntmps31
    go_wp2_with ((go_at_call 33; refine (bits_c _ _).mono ?_; rintro e w' ⟨rfl, rfl⟩))
    go_ret
    exact ⟨rfl, rfl⟩
theorem bitsT_zero (t : Int) : (bitsT t == 0) = !decide (isT t) := by
  rcases tcases t with rfl | rfl | rfl | rfl | rfl | rfl | ⟨h1, h2, h3, h4, h5, h6⟩
  iterate 6 (first | rfl | skip)
  simp [bitsT, isT, h1, h2, h3, h4, h5, h6]
def joinT (t u : Int) : Int := if isT t ∧ isT u then (if t = 6 then 6 else upT u) else 0
theorem join_c (t u : Int) (w : World) : Calls Try.prog 32 #[.int .i64 t, .int .i64 u] w fun e w' => e = .returned (.int .i64 (joinT t u)) ∧ w = w' := by
  have hb := bitsT_zero t
  have hc := bitsT_zero u
  by_cases ht : isT t
  · by_cases hu : isT u
    · have e1 : decide (isT t) = true := decide_eq_true ht
      have e2 : decide (isT u) = true := decide_eq_true hu
      rw [e1] at hb
      rw [e2] at hc
      by_cases h6 : t = 6
      · have e0 : joinT t u = 6 := by subst h6; simp [joinT, ht, hu]
        rw [e0]
        subst h6
        have e3 : bitsT 6 = 32 := rfl
        clear ht hu e0 e1 e2 hb
        go_enter Try.func32, Try.ntmps32
        go_wp2_with (first | (go_at_call 33; refine (bits_c _ _).mono ?_; rintro e w' ⟨rfl, rfl⟩) | (go_at_call 31; refine (up_c _ _).mono ?_; rintro e w' ⟨rfl, rfl⟩))
        go_ret
        exact ⟨rfl, rfl⟩
      · have e0 : joinT t u = upT u := by simp [joinT, ht, hu, h6]
        have b6 := beq_eq_false_iff_ne.mpr h6
        rw [e0]
        clear ht hu e0 e1 e2 h6
        go_enter Try.func32, Try.ntmps32
        go_wp2_with (first | (go_at_call 33; refine (bits_c _ _).mono ?_; rintro e w' ⟨rfl, rfl⟩) | (go_at_call 31; refine (up_c _ _).mono ?_; rintro e w' ⟨rfl, rfl⟩))
        go_ret
        exact ⟨rfl, rfl⟩
    · have e1 : decide (isT t) = true := decide_eq_true ht
      have e2 : decide (isT u) = false := decide_eq_false hu
      have e0 : joinT t u = 0 := by simp [joinT, hu]
      rw [e1] at hb
      rw [e2] at hc
      rw [e0]
      clear ht hu e0 e1 e2
      go_enter Try.func32, Try.ntmps32
      go_wp2_with (first | (go_at_call 33; refine (bits_c _ _).mono ?_; rintro e w' ⟨rfl, rfl⟩) | (go_at_call 31; refine (up_c _ _).mono ?_; rintro e w' ⟨rfl, rfl⟩))
      go_ret
      exact ⟨rfl, rfl⟩
  · have e1 : decide (isT t) = false := decide_eq_false ht
    have e0 : joinT t u = 0 := by simp [joinT, ht]
    rw [e1] at hb
    rw [e0]
    clear ht e0 e1 hc
    go_enter Try.func32, Try.ntmps32
    go_wp2_with (first | (go_at_call 33; refine (bits_c _ _).mono ?_; rintro e w' ⟨rfl, rfl⟩) | (go_at_call 31; refine (up_c _ _).mono ?_; rintro e w' ⟨rfl, rfl⟩))
    go_ret
    exact ⟨rfl, rfl⟩
def nameT (t : Int) : ByteArray := if t = 1 then ⟨#[105, 56]⟩ else if t = 2 then ⟨#[117, 56]⟩ else if t = 3 then ⟨#[105, 49, 54]⟩ else if t = 4 then ⟨#[117, 49, 54]⟩ else if t = 5 then ⟨#[105, 51, 50]⟩ else if t = 6 then ⟨#[117, 51, 50]⟩ else ⟨#[]⟩
def namesB : Obj := .cells #[.string ⟨#[105, 56]⟩, .string ⟨#[117, 56]⟩, .string ⟨#[105, 49, 54]⟩, .string ⟨#[117, 49, 54]⟩, .string ⟨#[105, 51, 50]⟩, .string ⟨#[117, 51, 50]⟩] 9 (0, 0)
def idxT (l : List ByteArray) (s : ByteArray) : Int := ((l.findIdx? fun x => s.toList == x.toList).map fun (n : Nat) => (n : Int)).getD (-1)
theorem idxT_found {l : List ByteArray} {s : ByteArray} {k : Nat} (hk : k < l.length) (h : (s.toList == (l.getD k ByteArray.empty).toList) = true) (hn : ∀ j, j < k → (s.toList == (l.getD j ByteArray.empty).toList) = false) : idxT l s = k := by
  have e : l.findIdx? (fun x => s.toList == x.toList) = some k := by
    rw [List.findIdx?_eq_some_iff_getElem]
    refine ⟨hk, ?_, ?_⟩
    · simpa [List.getD_eq_getElem?_getD, List.getElem?_eq_getElem hk] using h
    · intro j hj
      have := hn j hj
      have hj2 : j < l.length := by omega
      simpa [List.getD_eq_getElem?_getD, List.getElem?_eq_getElem hj2] using this
  simp [idxT, e]
theorem idxT_none {l : List ByteArray} {s : ByteArray} (hn : ∀ j, j < l.length → (s.toList == (l.getD j ByteArray.empty).toList) = false) : idxT l s = -1 := by
  have e : l.findIdx? (fun x => s.toList == x.toList) = none := by
    rw [List.findIdx?_eq_none_iff]
    intro x hx
    obtain ⟨j, hj, rfl⟩ := List.getElem_of_mem hx
    have := hn j hj
    simpa [List.getD_eq_getElem?_getD, List.getElem?_eq_getElem hj] using this
  simp [idxT, e]
def namesL : List ByteArray := [⟨#[105, 56]⟩, ⟨#[117, 56]⟩, ⟨#[105, 49, 54]⟩, ⟨#[117, 49, 54]⟩, ⟨#[105, 51, 50]⟩, ⟨#[117, 51, 50]⟩]
def readT (s : ByteArray) : Int := idxT namesL s + 1
theorem idxT_range (l : List ByteArray) (s : ByteArray) : -1 ≤ idxT l s ∧ idxT l s < l.length := by
  unfold idxT
  cases h : l.findIdx? (fun x => s.toList == x.toList) with
  | none => simp; omega
  | some n =>
    have := (List.findIdx?_eq_some_iff_findIdx_eq.mp h).1
    simp; omega
end Go.Proofs.Ytnnhdkchdjddkaa.C
