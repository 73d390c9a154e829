/- lex.small, digit, within, Lex's test of a remark; lex.run at each of them: walks. -/
import Derived.Test.YtfdlkbkheginlaaDoorChecked
import Derived.Test.YtfdlkbkheginlaaDoorLexP
import Derived.WalkKit
import Derived.Lib.Hide
namespace Go.Proofs.YtfdlkbkheginlaaDoor.C
open Go.RowKit
set_option linter.unusedSimpArgs false
set_option linter.unusedVariables false
theorem small_c (c : Int) (w : World) : Calls Tryd.prog 18 #[.int .u8 c] w fun e w' => e = .returned (.bool (smallI c)) ∧ w' = w := by
  unfold smallI
  by_cases h1 : 97 ≤ c
  · have g1 : decide (97 ≤ c) = true := decide_eq_true h1
    go_enter Tryd.func18, Tryd.ntmps18
    go_wp2
    go_ret
    exact ⟨by simp [h1], rfl⟩
  · have g1 : decide (97 ≤ c) = false := decide_eq_false h1
    go_enter Tryd.func18, Tryd.ntmps18
    go_wp2
    go_ret
    exact ⟨by simp [h1], rfl⟩
theorem digit_c (c : Int) (w : World) : Calls Tryd.prog 21 #[.int .u8 c] w fun e w' => e = .returned (.bool (digitI c)) ∧ w' = w := by
  unfold digitI
  by_cases h1 : 48 ≤ c
  · have g1 : decide (48 ≤ c) = true := decide_eq_true h1
    go_enter Tryd.func21, Tryd.ntmps21
    go_wp2
    go_ret
    exact ⟨by simp [h1], rfl⟩
  · have g1 : decide (48 ≤ c) = false := decide_eq_false h1
    go_enter Tryd.func21, Tryd.ntmps21
    go_wp2
    go_ret
    exact ⟨by simp [h1], rfl⟩
theorem within_c (c : Int) (w : World) : Calls Tryd.prog 19 #[.int .u8 c] w fun e w' => e = .returned (.bool (withinI c)) ∧ w' = w := by
  have HS := fun W => small_c c W
  have HD := fun W => digit_c c W
  unfold withinI
  obtain ⟨a, ha⟩ : ∃ a, smallI c = a := ⟨_, rfl⟩
  obtain ⟨b, hb⟩ : ∃ b, digitI c = b := ⟨_, rfl⟩
  simp only [ha, hb] at HS HD ⊢
  clear ha hb
  cases a <;> cases b <;> (go_enter Tryd.func19, Tryd.ntmps19; go_wp2_with (first | (go_at_call 18; refine (HS _).mono ?_; rintro e w' ⟨rfl, rfl⟩) | (go_at_call 21; refine (HD _).mono ?_; rintro e w' ⟨rfl, rfl⟩)); go_ret; exact ⟨by first | rfl | simp | (simp; rfl), rfl⟩)
theorem body_c (c : Int) (w : World) : Calls Tryd.prog 14 #[.int .u8 c] w fun e w' => e = .returned (.bool (bodyI c)) ∧ w' = w := by
  unfold bodyI
  go_enter Tryd.func14, Tryd.ntmps14
  go_wp2
  go_ret
  exact ⟨by simp [bne, BEq.beq], rfl⟩
theorem chI_get (s : ByteArray) (i : Nat) (h : i < s.size) : chI s.data.toList i = ((s[i]'h).toNat : Int) := by
  unfold chI
  obtain ⟨⟨l⟩⟩ := s
  have hl : i < l.length := h
  simp [List.getD, hl]
  rfl
set_option maxHeartbeats 400000 in
theorem runDigit_c (s : ByteArray) (a : Nat) (w : World) (hs : s.size ≤ 4611686018427387904) (ha : a ≤ s.size) :
    Calls Tryd.prog 13 #[.string s, .int .i64 (a : Int), .func (.func (21)) #[] #[]] w fun e w' => e = .returned (.int .i64 (runL digitI (s.data.toList.drop a) : Nat)) ∧ w' = w := by
  have hlen : (s.data.toList.drop a).length = s.size - a := by rw [List.length_drop, ← Lib.size_eq]
  obtain ⟨R, hR⟩ : ∃ R, runL digitI (s.data.toList.drop a) = R := ⟨_, rfl⟩
  have hlt : ∀ k, k < R → a + k < s.size ∧ digitI (chI s.data.toList (a + k)) = true := fun k hk => by
    have := runL_lt digitI (s.data.toList.drop a) k (by omega)
    rw [chI_drop, hlen] at this
    exact ⟨by omega, this.2⟩
  have hend : a + R < s.size → digitI (chI s.data.toList (a + R)) = false := fun h => by
    have := runL_end digitI (s.data.toList.drop a) (by omega)
    rw [chI_drop, hR] at this
    exact this
  have hle : a + R ≤ s.size := by have := runL_le digitI (s.data.toList.drop a); omega
  rw [hR]
  have Hlt := Lib.hid hlt
  have Hend := Lib.hid hend
  clear hlt hend hR hlen
  go_enter Tryd.func13, Tryd.ntmps13
  go_wp2
  go_loop [7] (fun i => ∃ k : Nat, k ≤ R ∧ i = .int .i64 k) (fun i => R - (intOf i).toNat)
  case atStart => exact ⟨0, Nat.zero_le _, rfl⟩
  case round =>
    obtain ⟨k, hk, rfl⟩ := hrel
    have e1 : IntKind.i64.wrap ((a : Int) + k) = ((a + k : Nat) : Int) := by rw [IntWalk.i64_in _ (by omega)]; omega
    by_cases h1 : k < R
    · obtain ⟨h2, h3⟩ := Hlt.out k h1
      have h4 : ((a + k : Nat) : Int) < (s.size : Int) := by omega
      have HC := fun W => digit_c ((s[a + k]'h2).toNat : Int) W
      rw [← chI_get s (a + k) h2, h3, chI_get s (a + k) h2] at HC
      clear h3 Hlt Hend
      go_wp2_with (go_at_call 21; refine (HC _).mono ?_; rintro e w' ⟨rfl, rfl⟩)
      exact ⟨⟨k + 1, by omega, by go_num⟩, by simp [intOf]; omega⟩
    · obtain rfl : k = R := by omega
      by_cases h2 : a + k < s.size
      · have h3 := Hend.out h2
        have h4 : ((a + k : Nat) : Int) < (s.size : Int) := by omega
        have HC := fun W => digit_c ((s[a + k]'h2).toNat : Int) W
        rw [← chI_get s (a + k) h2, h3, chI_get s (a + k) h2] at HC
        clear h3 Hlt Hend h1 hk
        go_wp2_with (go_at_call 21; refine (HC _).mono ?_; rintro e w' ⟨rfl, rfl⟩)
        go_ret
        exact ⟨rfl, rfl⟩
      · have h4 : ¬ ((a + k : Nat) : Int) < (s.size : Int) := by omega
        clear Hlt Hend h1 hk
        go_wp2_with fail
        go_ret
        exact ⟨rfl, rfl⟩
set_option maxHeartbeats 400000 in
theorem runWithin_c (s : ByteArray) (a : Nat) (w : World) (hs : s.size ≤ 4611686018427387904) (ha : a ≤ s.size) :
    Calls Tryd.prog 13 #[.string s, .int .i64 (a : Int), .func (.func (19)) #[] #[]] w fun e w' => e = .returned (.int .i64 (runL withinI (s.data.toList.drop a) : Nat)) ∧ w' = w := by
  have hlen : (s.data.toList.drop a).length = s.size - a := by rw [List.length_drop, ← Lib.size_eq]
  obtain ⟨R, hR⟩ : ∃ R, runL withinI (s.data.toList.drop a) = R := ⟨_, rfl⟩
  have hlt : ∀ k, k < R → a + k < s.size ∧ withinI (chI s.data.toList (a + k)) = true := fun k hk => by
    have := runL_lt withinI (s.data.toList.drop a) k (by omega)
    rw [chI_drop, hlen] at this
    exact ⟨by omega, this.2⟩
  have hend : a + R < s.size → withinI (chI s.data.toList (a + R)) = false := fun h => by
    have := runL_end withinI (s.data.toList.drop a) (by omega)
    rw [chI_drop, hR] at this
    exact this
  have hle : a + R ≤ s.size := by have := runL_le withinI (s.data.toList.drop a); omega
  rw [hR]
  have Hlt := Lib.hid hlt
  have Hend := Lib.hid hend
  clear hlt hend hR hlen
  go_enter Tryd.func13, Tryd.ntmps13
  go_wp2
  go_loop [7] (fun i => ∃ k : Nat, k ≤ R ∧ i = .int .i64 k) (fun i => R - (intOf i).toNat)
  case atStart => exact ⟨0, Nat.zero_le _, rfl⟩
  case round =>
    obtain ⟨k, hk, rfl⟩ := hrel
    have e1 : IntKind.i64.wrap ((a : Int) + k) = ((a + k : Nat) : Int) := by rw [IntWalk.i64_in _ (by omega)]; omega
    by_cases h1 : k < R
    · obtain ⟨h2, h3⟩ := Hlt.out k h1
      have h4 : ((a + k : Nat) : Int) < (s.size : Int) := by omega
      have HC := fun W => within_c ((s[a + k]'h2).toNat : Int) W
      rw [← chI_get s (a + k) h2, h3, chI_get s (a + k) h2] at HC
      clear h3 Hlt Hend
      go_wp2_with (go_at_call 19; refine (HC _).mono ?_; rintro e w' ⟨rfl, rfl⟩)
      exact ⟨⟨k + 1, by omega, by go_num⟩, by simp [intOf]; omega⟩
    · obtain rfl : k = R := by omega
      by_cases h2 : a + k < s.size
      · have h3 := Hend.out h2
        have h4 : ((a + k : Nat) : Int) < (s.size : Int) := by omega
        have HC := fun W => within_c ((s[a + k]'h2).toNat : Int) W
        rw [← chI_get s (a + k) h2, h3, chI_get s (a + k) h2] at HC
        clear h3 Hlt Hend h1 hk
        go_wp2_with (go_at_call 19; refine (HC _).mono ?_; rintro e w' ⟨rfl, rfl⟩)
        go_ret
        exact ⟨rfl, rfl⟩
      · have h4 : ¬ ((a + k : Nat) : Int) < (s.size : Int) := by omega
        clear Hlt Hend h1 hk
        go_wp2_with fail
        go_ret
        exact ⟨rfl, rfl⟩
set_option maxHeartbeats 400000 in
theorem runBody_c (s : ByteArray) (a : Nat) (w : World) (hs : s.size ≤ 4611686018427387904) (ha : a ≤ s.size) :
    Calls Tryd.prog 13 #[.string s, .int .i64 (a : Int), .func (.func (14)) #[] #[]] w fun e w' => e = .returned (.int .i64 (runL bodyI (s.data.toList.drop a) : Nat)) ∧ w' = w := by
  have hlen : (s.data.toList.drop a).length = s.size - a := by rw [List.length_drop, ← Lib.size_eq]
  obtain ⟨R, hR⟩ : ∃ R, runL bodyI (s.data.toList.drop a) = R := ⟨_, rfl⟩
  have hlt : ∀ k, k < R → a + k < s.size ∧ bodyI (chI s.data.toList (a + k)) = true := fun k hk => by
    have := runL_lt bodyI (s.data.toList.drop a) k (by omega)
    rw [chI_drop, hlen] at this
    exact ⟨by omega, this.2⟩
  have hend : a + R < s.size → bodyI (chI s.data.toList (a + R)) = false := fun h => by
    have := runL_end bodyI (s.data.toList.drop a) (by omega)
    rw [chI_drop, hR] at this
    exact this
  have hle : a + R ≤ s.size := by have := runL_le bodyI (s.data.toList.drop a); omega
  rw [hR]
  have Hlt := Lib.hid hlt
  have Hend := Lib.hid hend
  clear hlt hend hR hlen
  go_enter Tryd.func13, Tryd.ntmps13
  go_wp2
  go_loop [7] (fun i => ∃ k : Nat, k ≤ R ∧ i = .int .i64 k) (fun i => R - (intOf i).toNat)
  case atStart => exact ⟨0, Nat.zero_le _, rfl⟩
  case round =>
    obtain ⟨k, hk, rfl⟩ := hrel
    have e1 : IntKind.i64.wrap ((a : Int) + k) = ((a + k : Nat) : Int) := by rw [IntWalk.i64_in _ (by omega)]; omega
    by_cases h1 : k < R
    · obtain ⟨h2, h3⟩ := Hlt.out k h1
      have h4 : ((a + k : Nat) : Int) < (s.size : Int) := by omega
      have HC := fun W => body_c ((s[a + k]'h2).toNat : Int) W
      rw [← chI_get s (a + k) h2, h3, chI_get s (a + k) h2] at HC
      clear h3 Hlt Hend
      go_wp2_with (go_at_call 14; refine (HC _).mono ?_; rintro e w' ⟨rfl, rfl⟩)
      exact ⟨⟨k + 1, by omega, by go_num⟩, by simp [intOf]; omega⟩
    · obtain rfl : k = R := by omega
      by_cases h2 : a + k < s.size
      · have h3 := Hend.out h2
        have h4 : ((a + k : Nat) : Int) < (s.size : Int) := by omega
        have HC := fun W => body_c ((s[a + k]'h2).toNat : Int) W
        rw [← chI_get s (a + k) h2, h3, chI_get s (a + k) h2] at HC
        clear h3 Hlt Hend h1 hk
        go_wp2_with (go_at_call 14; refine (HC _).mono ?_; rintro e w' ⟨rfl, rfl⟩)
        go_ret
        exact ⟨rfl, rfl⟩
      · have h4 : ¬ ((a + k : Nat) : Int) < (s.size : Int) := by omega
        clear Hlt Hend h1 hk
        go_wp2_with fail
        go_ret
        exact ⟨rfl, rfl⟩
end Go.Proofs.YtfdlkbkheginlaaDoor.C
