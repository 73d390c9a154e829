/- The reference's number: walk. -/
import Derived.Test.YtnnhdkchdjddkaaRLex3
namespace Go.Proofs.Ytnnhdkchdjddkaa.C
open Go.RowKit
set_option linter.unusedSimpArgs false
set_option linter.unusedVariables false
set_option maxRecDepth 100000 in
set_option maxHeartbeats 3200000 in
theorem r_num_c (s : ByteArray) (a : Nat) (w : World) (hs : s.size ≤ 4611686018427387904) (ha : a < s.size) (h0 : 0 < runL digitI (s.data.toList.drop a)) :
    Calls Try.prog 14 #[.string s, .int .i64 (a : Int)] w fun e w' => e = .returned (.tuple #[.int .i64 ((a + cntL (s.data.toList.drop a) : Nat) : Int), .int .i64 (numberL (s.data.toList.drop a)).2]) ∧ w = w' := by
  rw [← rnumE_eq h0]
  have hlen : (s.data.toList.drop a).length = s.size - a := by rw [List.length_drop, ← Lib.size_eq]
  obtain ⟨n, hn⟩ : ∃ n, runL digitI (s.data.toList.drop a) = n := ⟨_, rfl⟩
  obtain ⟨C, hC⟩ : ∃ C, cntL (s.data.toList.drop a) = C := ⟨_, rfl⟩
  have hle : n ≤ s.size - a := by have := runL_le digitI (s.data.toList.drop a); omega
  have hCle : C ≤ s.size - a := by have := cntL_le (s.data.toList.drop a); omega
  have hdg : ∀ k, (h : k < n) → digitI ((s[a + k]'(by omega)).toNat : Int) = true := fun k hk => by
    obtain ⟨h1, h2⟩ := runL_lt digitI (s.data.toList.drop a) k (by omega)
    rw [chI_drop, chI_get s (a + k) (by omega)] at h2
    exact h2
  have hend : (h : a + n < s.size) → digitI ((s[a + n]'h).toNat : Int) = false := fun h => by
    have := runL_end digitI (s.data.toList.drop a) (by omega)
    rw [hn, chI_drop, chI_get s (a + n) (by omega)] at this
    exact this
  have hCu := hC
  unfold cntL at hCu
  rw [hn, hlen, chI_drop] at hCu
  have HN := r_number1_c (s.extract a (a + C)) w (by rw [Lib.size_eq, Lib.extract_data, List.length_take, List.length_drop, ← Lib.size_eq]; omega)
  rw [Lib.extract_data, show a + C - a = C by omega] at HN
  obtain ⟨E, hE⟩ : ∃ E, rnumE (s.data.toList.drop a) = E := ⟨_, rfl⟩
  rw [hE, hC]
  unfold rnumE at hE
  rw [hn, hC, hlen, chI_drop, chI_drop, Nat.add_zero, chI_get s a ha] at hE
  obtain ⟨⟨v, t, ok⟩, hr⟩ : ∃ r, rnumberL ((s.data.toList.drop a).take C) = r := ⟨_, rfl⟩
  rw [hr] at HN hE
  simp only at HN hE
  rw [hn] at h0
  have HE := Lib.hid hE
  have HCu := Lib.hid hCu
  have HDG := Lib.hid hdg
  have HEND := Lib.hid hend
  have HDTH : Hid (∀ (c : Int) (b : Bool), digitI c = b → ∀ W, Calls Try.prog 12 #[.int .u8 c] W fun e w' => e = .returned (.bool b) ∧ W = w') := Lib.hid (fun c b h W => by rw [← h]; exact r_digit_c c W)
  have e1 : IntKind.i64.wrap ((a : Int) + n) = (a : Int) + n := IntWalk.i64_in _ (by omega)
  have e2 : IntKind.i64.wrap ((a : Int) + n - a) = (n : Int) := by rw [IntWalk.i64_in _ (by omega)]; omega
  have e2b : IntKind.i64.wrap (n : Int) = (n : Int) := IntWalk.i64_in _ (by omega)
  have e3 : ((a : Int) + C).toNat = a + C := by omega
  have e4 : ((a : Int) + n).toNat = a + n := by omega
  have b1 : (a : Int) ≤ (a : Int) + C := by omega
  have b2 : (a : Int) + C ≤ (s.size : Int) := by omega
  have b0 : (0 : Int) ≤ (a : Int) + C := by omega
  have b3 : (a : Int) < (s.size : Int) := by omega
  clear hE hC hCu hn hdg hend hlen hr
  go_enter Try.func14, Try.ntmps14
  go_wp2_with fail
  go_loop [6] (fun k => ∃ j : Nat, j ≤ n ∧ k = .int .i64 ((a : Int) + j)) (fun k => a + n - (intOf k).toNat)
  case atStart => exact ⟨0, Nat.zero_le _, by simp⟩
  case round =>
    obtain ⟨j, hj, rfl⟩ := hrel
    have e5 : ((a : Int) + j).toNat = a + j := by omega
    by_cases hjn : j < n
    · have D1 := HDTH.out _ _ (HDG.out j hjn)
      have q1 : (a : Int) + j < (s.size : Int) := by omega
      have q0 : (0 : Int) ≤ (a : Int) + j := by omega
      have e6 : IntKind.i64.wrap ((a : Int) + j + 1) = (a : Int) + ((j + 1 : Nat) : Int) := by rw [IntWalk.i64_in _ (by omega)]; omega
      clear HDG HEND HCu HE HN
      go_wp2_with (go_at_call 12; refine (D1 _).mono ?_; rintro e w' ⟨rfl, rfl⟩)
      exact ⟨⟨j + 1, by omega, by first | rfl | (rw [e6]) | go_num⟩, by simp [intOf]; omega⟩
    · obtain rfl : j = n := by omega
      clear hjn hj e5
      by_cases h1 : a + j < s.size
      · have D1 := HDTH.out _ _ (HEND.out h1)
        have g1 : decide ((a : Int) + j < (s.size : Int)) = true := decide_eq_true (by omega)
        have hx := chI_get s (a + j) h1
        by_cases h2 : chI s.data.toList (a + j) = 117
        · have g2 : (((s[a + j]'h1).toNat : Int) == 117) = true := by rw [← hx, h2]; rfl
          have hCj : C = j + 1 := by rw [← HCu.out, if_pos ⟨by omega, h2⟩]
          have e7 : IntKind.i64.wrap ((a : Int) + j + 1) = (a : Int) + C := by rw [IntWalk.i64_in _ (by omega)]; omega
          have HCj := Lib.hid hCj
          clear h2 hx hCj
          by_cases h10 : 10 < j
          · have g10 : decide ((10 : Int) < (j : Int)) = true := decide_eq_true (by omega)
            have HE2 : Hid (E = 3) := Lib.hid (by rw [← HE.out, if_pos h10])
            have g1j : decide ((1 : Int) < (j : Int)) = true := decide_eq_true (by omega)
            clear HE HCu HN HDG HEND
            cases hz : (((s[a]'ha).toNat : Int) == 48)
            all_goals go_wp2_with ((go_at_call 12; refine (D1 _).mono ?_; rintro e w' ⟨rfl, rfl⟩))
            all_goals go_ret2
            all_goals exact ⟨by rw [HE2.out]; first | rfl | (congr 5; omega), rfl⟩
          · have g10 : decide ((10 : Int) < (j : Int)) = false := decide_eq_false (by omega)
            by_cases hz : 1 < j ∧ ((s[a]'ha).toNat : Int) = 48
            · have g1j : decide ((1 : Int) < (j : Int)) = true := decide_eq_true (by omega)
              have g48 : (((s[a]'ha).toNat : Int) == 48) = true := by rw [hz.2]; rfl
              have HE2 : Hid (E = 4) := Lib.hid (by rw [← HE.out, if_neg h10, if_pos hz])
              clear HE HCu HN HDG HEND hz
              go_wp2_with ((go_at_call 12; refine (D1 _).mono ?_; rintro e w' ⟨rfl, rfl⟩))
              go_ret2
              exact ⟨by rw [HE2.out]; first | rfl | (congr 5; omega), rfl⟩
            · have HZ : Hid (∃ x y : Bool, decide ((1 : Int) < (j : Int)) = x ∧ (((s[a]'ha).toNat : Int) == 48) = y ∧ (x && y) = false) := Lib.hid ⟨_, _, rfl, rfl, by
                rw [Bool.and_eq_false_iff, decide_eq_false_iff_not, beq_eq_false_iff_ne]
                by_cases h : 1 < j
                · exact .inr (fun h2 => hz ⟨h, h2⟩)
                · exact .inl (by omega)⟩
              have HE2 : Hid (E = if ok = false then 3 else if C < s.size - a ∧ withinI (chI s.data.toList (a + C)) = true then 4 else 0) := Lib.hid (by rw [← HE.out, if_neg h10, if_neg hz])
              obtain ⟨x, y, gx, gy, hxy⟩ := HZ.out
              clear HE HCu HDG HEND hz HZ h10
              cases ok
              · have HE3 : Hid (E = 3) := Lib.hid (by rw [HE2.out]; rfl)
                clear HE2
                cases x <;> cases y <;> first
                  | (exact absurd hxy (by decide))
                  | (go_wp2_with (first | (go_at_call 25; refine HN.mono ?_; rintro e w' ⟨rfl, rfl⟩) | (go_at_call 12; refine (D1 _).mono ?_; rintro e w' ⟨rfl, rfl⟩)); go_ret2; exact ⟨by rw [HE3.out]; first | rfl | (congr 5; omega), rfl⟩)
              · have HE3 : Hid (E = if C < s.size - a ∧ withinI (chI s.data.toList (a + C)) = true then 4 else 0) := Lib.hid (by rw [HE2.out]; rfl)
                clear HE2
                by_cases h3 : a + C < s.size
                · have hx := chI_get s (a + C) h3
                  have HE4 : Hid (E = if withinI (chI s.data.toList (a + C)) = true then 4 else 0) := Lib.hid (by
                    rw [HE3.out]
                    by_cases hw : withinI (chI s.data.toList (a + C)) = true
                    · rw [if_pos ⟨by omega, hw⟩, if_pos hw]
                    · rw [if_neg (fun h => hw h.2), if_neg hw])
                  rw [hx] at HE4
                  have g3 : decide ((a : Int) + C < (s.size : Int)) = true := decide_eq_true (by omega)
                  have L1 := fun W => r_letter_c ((s[a + C]'h3).toNat : Int) W
                  have L2 := fun W => r_digit_c ((s[a + C]'h3).toNat : Int) W
                  unfold withinI at HE4
                  obtain ⟨p1, hp1⟩ : ∃ b, smallI ((s[a + C]'h3).toNat : Int) = b := ⟨_, rfl⟩
                  obtain ⟨p2, hp2⟩ : ∃ b, digitI ((s[a + C]'h3).toNat : Int) = b := ⟨_, rfl⟩
                  obtain ⟨p3, hp3⟩ : ∃ b, (((s[a + C]'h3).toNat : Int) == 95) = b := ⟨_, rfl⟩
                  rw [hp1] at L1 HE4
                  rw [hp2] at L2 HE4
                  rw [show decide (((s[a + C]'h3).toNat : Int) = 95) = p3 from hp3] at HE4
                  clear hp1 hp2 hx HE3
                  cases x
                  · clear gy hxy
                    cases p1
                    · cases p2
                      · cases p3 <;> (go_wp2_with (first | (go_at_call 12; refine (D1 _).mono ?_; rintro e w' ⟨rfl, rfl⟩; clear D1) | (go_at_call 25; refine HN.mono ?_; rintro e w' ⟨rfl, rfl⟩; clear HN) | (go_at_call 11; refine (L1 _).mono ?_; rintro e w' ⟨rfl, rfl⟩) | (go_at_call 12; refine (L2 _).mono ?_; rintro e w' ⟨rfl, rfl⟩)); go_ret2; exact ⟨by rw [HE4.out]; first | rfl | (congr 5; omega), rfl⟩)
                      · (go_wp2_with (first | (go_at_call 12; refine (D1 _).mono ?_; rintro e w' ⟨rfl, rfl⟩; clear D1) | (go_at_call 25; refine HN.mono ?_; rintro e w' ⟨rfl, rfl⟩; clear HN) | (go_at_call 11; refine (L1 _).mono ?_; rintro e w' ⟨rfl, rfl⟩) | (go_at_call 12; refine (L2 _).mono ?_; rintro e w' ⟨rfl, rfl⟩)); go_ret2; exact ⟨by rw [HE4.out]; first | rfl | (congr 5; omega), rfl⟩)
                    · (go_wp2_with (first | (go_at_call 12; refine (D1 _).mono ?_; rintro e w' ⟨rfl, rfl⟩; clear D1) | (go_at_call 25; refine HN.mono ?_; rintro e w' ⟨rfl, rfl⟩; clear HN) | (go_at_call 11; refine (L1 _).mono ?_; rintro e w' ⟨rfl, rfl⟩) | (go_at_call 12; refine (L2 _).mono ?_; rintro e w' ⟨rfl, rfl⟩)); go_ret2; exact ⟨by rw [HE4.out]; first | rfl | (congr 5; omega), rfl⟩)
                  · obtain rfl : y = false := by simpa using hxy
                    clear hxy
                    cases p1
                    · cases p2
                      · cases p3 <;> (go_wp2_with (first | (go_at_call 12; refine (D1 _).mono ?_; rintro e w' ⟨rfl, rfl⟩; clear D1) | (go_at_call 25; refine HN.mono ?_; rintro e w' ⟨rfl, rfl⟩; clear HN) | (go_at_call 11; refine (L1 _).mono ?_; rintro e w' ⟨rfl, rfl⟩) | (go_at_call 12; refine (L2 _).mono ?_; rintro e w' ⟨rfl, rfl⟩)); go_ret2; exact ⟨by rw [HE4.out]; first | rfl | (congr 5; omega), rfl⟩)
                      · (go_wp2_with (first | (go_at_call 12; refine (D1 _).mono ?_; rintro e w' ⟨rfl, rfl⟩; clear D1) | (go_at_call 25; refine HN.mono ?_; rintro e w' ⟨rfl, rfl⟩; clear HN) | (go_at_call 11; refine (L1 _).mono ?_; rintro e w' ⟨rfl, rfl⟩) | (go_at_call 12; refine (L2 _).mono ?_; rintro e w' ⟨rfl, rfl⟩)); go_ret2; exact ⟨by rw [HE4.out]; first | rfl | (congr 5; omega), rfl⟩)
                    · (go_wp2_with (first | (go_at_call 12; refine (D1 _).mono ?_; rintro e w' ⟨rfl, rfl⟩; clear D1) | (go_at_call 25; refine HN.mono ?_; rintro e w' ⟨rfl, rfl⟩; clear HN) | (go_at_call 11; refine (L1 _).mono ?_; rintro e w' ⟨rfl, rfl⟩) | (go_at_call 12; refine (L2 _).mono ?_; rintro e w' ⟨rfl, rfl⟩)); go_ret2; exact ⟨by rw [HE4.out]; first | rfl | (congr 5; omega), rfl⟩)
                · have HE4 : Hid (E = 0) := Lib.hid (by rw [HE3.out, if_neg (by omega)])
                  have g3 : decide ((a : Int) + C < (s.size : Int)) = false := decide_eq_false (by omega)
                  clear HE3
                  cases x <;> cases y <;> first
                    | (exact absurd hxy (by decide))
                    | (go_wp2_with (first | (go_at_call 25; refine HN.mono ?_; rintro e w' ⟨rfl, rfl⟩) | (go_at_call 12; refine (D1 _).mono ?_; rintro e w' ⟨rfl, rfl⟩)); go_ret2; exact ⟨by rw [HE4.out]; first | rfl | (congr 5; omega), rfl⟩)
        · have g2 : (((s[a + j]'h1).toNat : Int) == 117) = false := by rw [← hx, beq_eq_false_iff_ne]; exact h2
          obtain rfl : C = j := by rw [← HCu.out, if_neg (fun h => h2 h.2)]
          clear h2 hx
          by_cases h10 : 10 < C
          · have g10 : decide ((10 : Int) < (C : Int)) = true := decide_eq_true (by omega)
            have HE2 : Hid (E = 3) := Lib.hid (by rw [← HE.out, if_pos h10])
            have g1j : decide ((1 : Int) < (C : Int)) = true := decide_eq_true (by omega)
            clear HE HCu HN HDG HEND
            cases hz : (((s[a]'ha).toNat : Int) == 48)
            all_goals go_wp2_with ((go_at_call 12; refine (D1 _).mono ?_; rintro e w' ⟨rfl, rfl⟩))
            all_goals go_ret2
            all_goals exact ⟨by rw [HE2.out]; first | rfl | (congr 5; omega), rfl⟩
          · have g10 : decide ((10 : Int) < (C : Int)) = false := decide_eq_false (by omega)
            by_cases hz : 1 < C ∧ ((s[a]'ha).toNat : Int) = 48
            · have g1j : decide ((1 : Int) < (C : Int)) = true := decide_eq_true (by omega)
              have g48 : (((s[a]'ha).toNat : Int) == 48) = true := by rw [hz.2]; rfl
              have HE2 : Hid (E = 4) := Lib.hid (by rw [← HE.out, if_neg h10, if_pos hz])
              clear HE HCu HN HDG HEND hz
              go_wp2_with ((go_at_call 12; refine (D1 _).mono ?_; rintro e w' ⟨rfl, rfl⟩))
              go_ret2
              exact ⟨by rw [HE2.out]; first | rfl | (congr 5; omega), rfl⟩
            · have HZ : Hid (∃ x y : Bool, decide ((1 : Int) < (C : Int)) = x ∧ (((s[a]'ha).toNat : Int) == 48) = y ∧ (x && y) = false) := Lib.hid ⟨_, _, rfl, rfl, by
                rw [Bool.and_eq_false_iff, decide_eq_false_iff_not, beq_eq_false_iff_ne]
                by_cases h : 1 < C
                · exact .inr (fun h2 => hz ⟨h, h2⟩)
                · exact .inl (by omega)⟩
              have HE2 : Hid (E = if ok = false then 3 else if C < s.size - a ∧ withinI (chI s.data.toList (a + C)) = true then 4 else 0) := Lib.hid (by rw [← HE.out, if_neg h10, if_neg hz])
              obtain ⟨x, y, gx, gy, hxy⟩ := HZ.out
              clear HE HCu HDG HEND hz HZ h10
              cases ok
              · have HE3 : Hid (E = 3) := Lib.hid (by rw [HE2.out]; rfl)
                clear HE2
                cases x <;> cases y <;> first
                  | (exact absurd hxy (by decide))
                  | (go_wp2_with (first | (go_at_call 25; refine HN.mono ?_; rintro e w' ⟨rfl, rfl⟩) | (go_at_call 12; refine (D1 _).mono ?_; rintro e w' ⟨rfl, rfl⟩)); go_ret2; exact ⟨by rw [HE3.out]; first | rfl | (congr 5; omega), rfl⟩)
              · have HE3 : Hid (E = if C < s.size - a ∧ withinI (chI s.data.toList (a + C)) = true then 4 else 0) := Lib.hid (by rw [HE2.out]; rfl)
                clear HE2
                have h3 : a + C < s.size := by omega
                have hx := chI_get s (a + C) h3
                have HE4 : Hid (E = if withinI (chI s.data.toList (a + C)) = true then 4 else 0) := Lib.hid (by
                  rw [HE3.out]
                  by_cases hw : withinI (chI s.data.toList (a + C)) = true
                  · rw [if_pos ⟨by omega, hw⟩, if_pos hw]
                  · rw [if_neg (fun h => hw h.2), if_neg hw])
                rw [hx] at HE4
                have g3 : decide ((a : Int) + C < (s.size : Int)) = true := decide_eq_true (by omega)
                have L1 := fun W => r_letter_c ((s[a + C]'h3).toNat : Int) W
                have L2 := fun W => r_digit_c ((s[a + C]'h3).toNat : Int) W
                unfold withinI at HE4
                obtain ⟨p1, hp1⟩ : ∃ b, smallI ((s[a + C]'h3).toNat : Int) = b := ⟨_, rfl⟩
                obtain ⟨p2, hp2⟩ : ∃ b, digitI ((s[a + C]'h3).toNat : Int) = b := ⟨_, rfl⟩
                obtain ⟨p3, hp3⟩ : ∃ b, (((s[a + C]'h3).toNat : Int) == 95) = b := ⟨_, rfl⟩
                rw [hp1] at L1 HE4
                rw [hp2] at L2 HE4
                rw [show decide (((s[a + C]'h3).toNat : Int) = 95) = p3 from hp3] at HE4
                clear hp1 hp2 hx HE3
                cases x
                · clear gy hxy
                  cases p1
                  · cases p2
                    · cases p3 <;> (go_wp2_with (first | (go_at_call 12; refine (D1 _).mono ?_; rintro e w' ⟨rfl, rfl⟩; clear D1) | (go_at_call 25; refine HN.mono ?_; rintro e w' ⟨rfl, rfl⟩; clear HN) | (go_at_call 11; refine (L1 _).mono ?_; rintro e w' ⟨rfl, rfl⟩) | (go_at_call 12; refine (L2 _).mono ?_; rintro e w' ⟨rfl, rfl⟩)); go_ret2; exact ⟨by rw [HE4.out]; first | rfl | (congr 5; omega), rfl⟩)
                    · (go_wp2_with (first | (go_at_call 12; refine (D1 _).mono ?_; rintro e w' ⟨rfl, rfl⟩; clear D1) | (go_at_call 25; refine HN.mono ?_; rintro e w' ⟨rfl, rfl⟩; clear HN) | (go_at_call 11; refine (L1 _).mono ?_; rintro e w' ⟨rfl, rfl⟩) | (go_at_call 12; refine (L2 _).mono ?_; rintro e w' ⟨rfl, rfl⟩)); go_ret2; exact ⟨by rw [HE4.out]; first | rfl | (congr 5; omega), rfl⟩)
                  · (go_wp2_with (first | (go_at_call 12; refine (D1 _).mono ?_; rintro e w' ⟨rfl, rfl⟩; clear D1) | (go_at_call 25; refine HN.mono ?_; rintro e w' ⟨rfl, rfl⟩; clear HN) | (go_at_call 11; refine (L1 _).mono ?_; rintro e w' ⟨rfl, rfl⟩) | (go_at_call 12; refine (L2 _).mono ?_; rintro e w' ⟨rfl, rfl⟩)); go_ret2; exact ⟨by rw [HE4.out]; first | rfl | (congr 5; omega), rfl⟩)
                · obtain rfl : y = false := by simpa using hxy
                  clear hxy
                  cases p1
                  · cases p2
                    · cases p3 <;> (go_wp2_with (first | (go_at_call 12; refine (D1 _).mono ?_; rintro e w' ⟨rfl, rfl⟩; clear D1) | (go_at_call 25; refine HN.mono ?_; rintro e w' ⟨rfl, rfl⟩; clear HN) | (go_at_call 11; refine (L1 _).mono ?_; rintro e w' ⟨rfl, rfl⟩) | (go_at_call 12; refine (L2 _).mono ?_; rintro e w' ⟨rfl, rfl⟩)); go_ret2; exact ⟨by rw [HE4.out]; first | rfl | (congr 5; omega), rfl⟩)
                    · (go_wp2_with (first | (go_at_call 12; refine (D1 _).mono ?_; rintro e w' ⟨rfl, rfl⟩; clear D1) | (go_at_call 25; refine HN.mono ?_; rintro e w' ⟨rfl, rfl⟩; clear HN) | (go_at_call 11; refine (L1 _).mono ?_; rintro e w' ⟨rfl, rfl⟩) | (go_at_call 12; refine (L2 _).mono ?_; rintro e w' ⟨rfl, rfl⟩)); go_ret2; exact ⟨by rw [HE4.out]; first | rfl | (congr 5; omega), rfl⟩)
                  · (go_wp2_with (first | (go_at_call 12; refine (D1 _).mono ?_; rintro e w' ⟨rfl, rfl⟩; clear D1) | (go_at_call 25; refine HN.mono ?_; rintro e w' ⟨rfl, rfl⟩; clear HN) | (go_at_call 11; refine (L1 _).mono ?_; rintro e w' ⟨rfl, rfl⟩) | (go_at_call 12; refine (L2 _).mono ?_; rintro e w' ⟨rfl, rfl⟩)); go_ret2; exact ⟨by rw [HE4.out]; first | rfl | (congr 5; omega), rfl⟩)
      · have g1 : decide ((a : Int) + j < (s.size : Int)) = false := decide_eq_false (by omega)
        have D1 : True := trivial
        obtain rfl : C = j := by rw [← HCu.out, if_neg (fun h => h1 (by omega))]
        by_cases h10 : 10 < C
        · have g10 : decide ((10 : Int) < (C : Int)) = true := decide_eq_true (by omega)
          have HE2 : Hid (E = 3) := Lib.hid (by rw [← HE.out, if_pos h10])
          have g1j : decide ((1 : Int) < (C : Int)) = true := decide_eq_true (by omega)
          clear HE HCu HN HDG HEND
          cases hz : (((s[a]'ha).toNat : Int) == 48)
          all_goals go_wp2_with fail
          all_goals go_ret2
          all_goals exact ⟨by rw [HE2.out]; first | rfl | (congr 5; omega), rfl⟩
        · have g10 : decide ((10 : Int) < (C : Int)) = false := decide_eq_false (by omega)
          by_cases hz : 1 < C ∧ ((s[a]'ha).toNat : Int) = 48
          · have g1j : decide ((1 : Int) < (C : Int)) = true := decide_eq_true (by omega)
            have g48 : (((s[a]'ha).toNat : Int) == 48) = true := by rw [hz.2]; rfl
            have HE2 : Hid (E = 4) := Lib.hid (by rw [← HE.out, if_neg h10, if_pos hz])
            clear HE HCu HN HDG HEND hz
            go_wp2_with fail
            go_ret2
            exact ⟨by rw [HE2.out]; first | rfl | (congr 5; omega), rfl⟩
          · have HZ : Hid (∃ x y : Bool, decide ((1 : Int) < (C : Int)) = x ∧ (((s[a]'ha).toNat : Int) == 48) = y ∧ (x && y) = false) := Lib.hid ⟨_, _, rfl, rfl, by
              rw [Bool.and_eq_false_iff, decide_eq_false_iff_not, beq_eq_false_iff_ne]
              by_cases h : 1 < C
              · exact .inr (fun h2 => hz ⟨h, h2⟩)
              · exact .inl (by omega)⟩
            have HE2 : Hid (E = if ok = false then 3 else if C < s.size - a ∧ withinI (chI s.data.toList (a + C)) = true then 4 else 0) := Lib.hid (by rw [← HE.out, if_neg h10, if_neg hz])
            obtain ⟨x, y, gx, gy, hxy⟩ := HZ.out
            clear HE HCu HDG HEND hz HZ h10
            cases ok
            · have HE3 : Hid (E = 3) := Lib.hid (by rw [HE2.out]; rfl)
              clear HE2
              cases x <;> cases y <;> first
                | (exact absurd hxy (by decide))
                | (go_wp2_with (go_at_call 25; refine HN.mono ?_; rintro e w' ⟨rfl, rfl⟩); go_ret2; exact ⟨by rw [HE3.out]; first | rfl | (congr 5; omega), rfl⟩)
            · have HE3 : Hid (E = if C < s.size - a ∧ withinI (chI s.data.toList (a + C)) = true then 4 else 0) := Lib.hid (by rw [HE2.out]; rfl)
              clear HE2
              have h3 : ¬ a + C < s.size := by omega
              have HE4 : Hid (E = 0) := Lib.hid (by rw [HE3.out, if_neg (by omega)])
              have g3 : decide ((a : Int) + C < (s.size : Int)) = false := decide_eq_false (by omega)
              clear HE3
              cases x <;> cases y <;> first
                | (exact absurd hxy (by decide))
                | (go_wp2_with (go_at_call 25; refine HN.mono ?_; rintro e w' ⟨rfl, rfl⟩); go_ret2; exact ⟨by rw [HE4.out]; first | rfl | (congr 5; omega), rfl⟩)
end Go.Proofs.Ytnnhdkchdjddkaa.C
