/- The reference's Number, number: walks. -/
import Derived.Test.YtnnhdkchdjddkaaRLex1
import Derived.OwnWalk
import Derived.BigGuard
namespace Go.Proofs.Ytnnhdkchdjddkaa.C
open Go.RowKit
set_option linter.unusedSimpArgs false
set_option linter.unusedVariables false
theorem last_u {s : ByteArray} (h : 0 < s.size) (h2 : chI s.data.toList (s.size - 1) = 117) : ∃ d, s.data.toList = d ++ [117] ∧ d.length = s.size - 1 := by
  have hl : s.data.toList.length = s.size := (Lib.size_eq s).symm
  refine ⟨s.data.toList.take (s.size - 1), ?_, by rw [List.length_take]; omega⟩
  have := take_snoc s.data.toList (s.size - 1) (by omega)
  rw [show s.size - 1 + 1 = s.data.toList.length by omega, List.take_length] at this
  rw [this]
  congr 1
  · rw [← this]
  · congr 1
    unfold chI at h2
    apply UInt8.toNat_inj.1
    show _ = 117
    omega
theorem last_no {s : ByteArray} (h2 : 0 < s.size → chI s.data.toList (s.size - 1) ≠ 117) : ∀ x, s.data.toList ≠ x ++ [117] := by
  intro x hx
  have hl : s.data.toList.length = s.size := (Lib.size_eq s).symm
  rw [hx] at hl
  simp at hl
  refine h2 (by omega) ?_
  rw [hx, show s.size - 1 = x.length by omega, chI_end]
  rfl
set_option maxRecDepth 100000 in
set_option maxHeartbeats 800000 in
theorem r_number1_c (s : ByteArray) (w : World) (hs : s.size ≤ 4611686018427387904) :
    Calls Try.prog 25 #[.string s] w fun e w' => e = .returned (.tuple #[.int .i64 (rnumberL s.data.toList).1, .int .i64 (rnumberL s.data.toList).2.1, .bool (rnumberL s.data.toList).2.2]) ∧ w = w' := by
  have hL : s.data.toList.length = s.size := (Lib.size_eq s).symm
  have key : ∃ (n : Nat) (t : Int), n ≤ s.size ∧ rnumberL s.data.toList = rvalueT (s.data.toList.take n) t ∧ ((0 < s.size ∧ chI s.data.toList (s.size - 1) = 117 ∧ n = s.size - 1 ∧ t = 6) ∨ (¬ (0 < s.size ∧ chI s.data.toList (s.size - 1) = 117) ∧ n = s.size ∧ t = 5)) := by
    by_cases h : 0 < s.size ∧ chI s.data.toList (s.size - 1) = 117
    · obtain ⟨d, hd, hl⟩ := last_u h.1 h.2
      refine ⟨s.size - 1, 6, by omega, ?_, .inl ⟨h.1, h.2, rfl, rfl⟩⟩
      rw [hd, rnumberL_u, ← hl, List.take_left]
    · refine ⟨s.size, 5, Nat.le_refl _, ?_, .inr ⟨h, rfl, rfl⟩⟩
      rw [rnumberL_no (last_no (fun h1 h2 => h ⟨h1, h2⟩)), ← hL, List.take_length]
  obtain ⟨n, t, hns, hR, hcase⟩ := key
  have hDl : (s.data.toList.take n).length = n := by rw [List.length_take]; omega
  obtain ⟨R, hRR⟩ : ∃ R, rnumberL s.data.toList = R := ⟨_, rfl⟩
  rw [hRR] at hR ⊢
  unfold rvalueT at hR
  rw [hDl] at hR
  obtain ⟨m, hm⟩ : ∃ m, runL digitI (s.data.toList.take n) = m := ⟨_, rfl⟩
  rw [hm] at hR
  have hmn : m ≤ n := by have := runL_le digitI (s.data.toList.take n); omega
  have hdg : ∀ k, (h : k < m) → digitI ((s[k]'(by omega)).toNat : Int) = true ∧ foldV 0 ((s.data.toList.take n).take (k + 1)) = 10 * foldV 0 ((s.data.toList.take n).take k) + (((s[k]'(by omega)).toNat : Int) - 48) := fun k hk => by
    obtain ⟨h1, h2⟩ := runL_lt digitI (s.data.toList.take n) k (by omega)
    have h4 := foldV_step (s.data.toList.take n) k h1
    rw [chI_takeR (by omega), chI_get s k (by omega)] at h2 h4
    exact ⟨h2, h4⟩
  have hend : (h : m < n) → digitI ((s[m]'(by omega)).toNat : Int) = false := fun h => by
    have := runL_end digitI (s.data.toList.take n) (by omega)
    rw [hm, chI_takeR h, chI_get s m (by omega)] at this
    exact this
  have hbd : ∀ k, k ≤ m → 0 ≤ foldV 0 ((s.data.toList.take n).take k) ∧ foldV 0 ((s.data.toList.take n).take k) < 10 ^ k := fun k hk => foldV_bound _ k (by rw [hm]; exact hk)
  obtain ⟨V, hV⟩ : ∃ V : Nat → Int, ∀ k, foldV 0 ((s.data.toList.take n).take k) = V k := ⟨_, fun _ => rfl⟩
  have hV0 : V 0 = 0 := (hV 0).symm
  have hfull : foldV 0 (s.data.toList.take n) = V n := by rw [← hV n, List.take_take, Nat.min_self]
  simp only [hV] at hdg hbd
  rw [hfull] at hR
  have hc0 : (h : 0 < n) → chI (s.data.toList.take n) 0 = ((s[0]'(by omega)).toNat : Int) := fun h => by rw [chI_takeR h, chI_get s 0 (by omega)]
  obtain ⟨c0, hc0'⟩ : ∃ c, chI (s.data.toList.take n) 0 = c := ⟨_, rfl⟩
  rw [hc0'] at hc0 hR
  have HR := Lib.hid hR
  have HDG := Lib.hid hdg
  have HEND := Lib.hid hend
  have HBD := Lib.hid hbd
  have HV0 := Lib.hid hV0
  have HC0 := Lib.hid hc0
  have ml5 := fun W => r_max_c 5 W
  have ml6 := fun W => r_max_c 6 W
  rw [show maxT 5 = 2147483647 from rfl] at ml5
  rw [show maxT 6 = 4294967295 from rfl] at ml6
  obtain ⟨mx, hmx⟩ : ∃ mx, maxL t = mx := ⟨_, rfl⟩
  rw [hmx] at HR
  have HDT := fun (c : Int) (b : Bool) (h : digitI c = b) (W : World) => (show Calls Try.prog 12 #[.int .u8 c] W fun e w' => e = .returned (.bool b) ∧ W = w' by rw [← h]; exact r_digit_c c W)
  have HDTH := Lib.hid HDT
  clear hR hdg hend hbd hV0 hc0 hc0' hfull hV hm hRR HDT
  have HF : Hid (n = 0 ∨ 10 < n ∨ (1 < n ∧ c0 = 48) ∨ m < n → R = (0, 0, false)) := Lib.hid (fun h => by rw [HR.out, if_pos h])
  have HT : Hid (¬ (n = 0 ∨ 10 < n ∨ (1 < n ∧ c0 = 48) ∨ m < n) → R = if mx < V n then (0, 0, false) else (V n, t, true)) := Lib.hid (fun h => by rw [HR.out, if_neg h])
  clear HR
  rcases hcase with ⟨h1, h2, h3, rfl⟩ | ⟨h1, h2, rfl⟩
  · obtain rfl : 4294967295 = mx := hmx
    have g0 : decide ((0 : Int) < (s.size : Int)) = true := decide_eq_true (by omega)
    have p0 : (0 : Int) < (s.size : Int) := by omega
    have e0 : IntKind.i64.wrap ((s.size : Int) - 1) = (n : Int) := by rw [IntWalk.i64_in _ (by omega)]; omega
    have p1 : (n : Int) < (s.size : Int) := by omega
    have hlt0 : n < s.size := by omega
    have gb : (((s[n]'hlt0).toNat : Int) == 117) = true := by
      rw [← chI_get s n hlt0, h3, h2]
      rfl
    have HN := Lib.hid h3
    clear h2 h3 h1 p0
    have p0 : (0 : Int) < (s.size : Int) := by omega
    go_enter Try.func25, Try.ntmps25
    go_wp2_with (first | (go_at_call 36; refine (ml5 _).mono ?_; rintro e w' ⟨rfl, rfl⟩; clear ml5) | (go_at_call 36; refine (ml6 _).mono ?_; rintro e w' ⟨rfl, rfl⟩))
    go_loop [8, 9] (fun v i => ∃ j : Nat, j ≤ m ∧ (j = 0 ∨ ¬ (10 < n ∨ (1 < n ∧ c0 = 48))) ∧ v = .int .i64 (V j) ∧ i = .int .i64 j) (fun _ i => n - (intOf i).toNat)
    case atStart => exact ⟨0, Nat.zero_le _, .inl rfl, by rw [HV0.out], rfl⟩
    case round =>
      obtain ⟨j, hj, hbad, rfl, rfl⟩ := hrel
      have HBAD := Lib.hid hbad
      clear hbad
      by_cases hjn : j < n
      · have q1 : (j : Int) < (n : Int) := by omega
        have q2 : (j : Int) < (s.size : Int) := by omega
        have q0 : (0 : Int) < (s.size : Int) := by omega
        have hpos : 0 < s.size := by omega
        by_cases hjm : j < m
        · have D1 := HDTH.out _ _ (HDG.out j hjm).1
          by_cases h10 : 10 < n
          · have HR2 := Lib.hid (HF.out (.inr (.inl h10)))
            have g10 : decide ((10 : Int) < (n : Int)) = true := decide_eq_true (by omega)
            clear HDG HBD HC0 HF HT HEND HBAD
            go_wp2_with (go_at_call 12; refine (D1 _).mono ?_; rintro e w' ⟨rfl, rfl⟩)
            go_ret3
            exact ⟨by rw [HR2.out]; rfl, rfl⟩
          · have g10 : decide ((10 : Int) < (n : Int)) = false := decide_eq_false (by omega)
            by_cases hz : 1 < n ∧ c0 = 48
            · have HR2 := Lib.hid (HF.out (.inr (.inr (.inl hz))))
              have g1 : decide ((1 : Int) < (n : Int)) = true := decide_eq_true (by omega)
              have g48 : (((s[0]'hpos).toNat : Int) == 48) = true := by rw [← HC0.out (by omega), hz.2]; rfl
              clear HDG HBD HC0 HF HT HEND HBAD hz
              go_wp2_with (go_at_call 12; refine (D1 _).mono ?_; rintro e w' ⟨rfl, rfl⟩)
              go_ret3
              exact ⟨by rw [HR2.out]; rfl, rfl⟩
            · have hnb : ¬ (10 < n ∨ (1 < n ∧ c0 = 48)) := by rintro (h | h); exact h10 h; exact hz h
              have hb := HBD.out j hj
              have hp := pow_le10 (k := j) (by omega)
              obtain ⟨d0, d3⟩ := HDG.out j hjm
              have d1 := digitI_range d0
              have hb1 := HBD.out (j + 1) (by omega)
              have hp1 := pow_le10 (k := j + 1) (by omega)
              have x1 : IntKind.u8.wrap (((s[j]'(by omega)).toNat : Int) - 48) = ((s[j]'(by omega)).toNat : Int) - 48 := by
                obtain ⟨c, hc⟩ : ∃ c : Int, ((s[j]'(by omega)).toNat : Int) = c := ⟨_, rfl⟩
                rw [hc] at d1 ⊢
                rw [(show ∀ x : Int, IntKind.u8.wrap x = x % 256 from fun _ => rfl)]
                omega
              have x4 : IntKind.i64.wrap (((s[j]'(by omega)).toNat : Int) - 48) = ((s[j]'(by omega)).toNat : Int) - 48 := IntWalk.i64_in _ (by omega)
              have x2 : IntKind.i64.wrap (10 * V j) = 10 * V j := IntWalk.i64_in _ (by omega)
              have x3 : IntKind.i64.wrap (10 * V j + (((s[j]'(by omega)).toNat : Int) - 48)) = V (j + 1) := by rw [d3]; exact IntWalk.i64_in _ (by omega)
              have HNB := Lib.hid hnb
              clear hb hp hb1 hp1 d3 d1 d0 HBD HF HT HEND HBAD hnb
              by_cases h1n : 1 < n
              · have g1 : decide ((1 : Int) < (n : Int)) = true := decide_eq_true (by omega)
                have g48 : (((s[0]'hpos).toNat : Int) == 48) = false := by rw [← HC0.out (by omega), beq_eq_false_iff_ne]; exact fun h => hz ⟨h1n, h⟩
                clear hz HC0 HDG
                go_wp2_with (go_at_call 12; refine (D1 _).mono ?_; rintro e w' ⟨rfl, rfl⟩)
                exact ⟨⟨j + 1, by omega, .inr HNB.out, rfl, by go_num⟩, by simp [intOf]; omega⟩
              · have g1 : decide ((1 : Int) < (n : Int)) = false := decide_eq_false (by omega)
                clear hz HC0 HDG
                go_wp2_with (go_at_call 12; refine (D1 _).mono ?_; rintro e w' ⟨rfl, rfl⟩)
                exact ⟨⟨j + 1, by omega, .inr HNB.out, rfl, by go_num⟩, by simp [intOf]; omega⟩
        · obtain rfl : j = m := by omega
          have D1 := HDTH.out _ _ (HEND.out hjn)
          have HR2 := Lib.hid (HF.out (.inr (.inr (.inr hjn))))
          clear HDG HBD HC0 HF HT HEND HBAD hjm
          go_wp2_with (go_at_call 12; refine (D1 _).mono ?_; rintro e w' ⟨rfl, rfl⟩)
          go_ret3
          exact ⟨by rw [HR2.out]; rfl, rfl⟩
      · obtain rfl : j = n := by omega
        have q1 : ¬ (j : Int) < (j : Int) := by omega
        have hb := HBD.out j hj
        by_cases h0 : j = 0
        · have HR2 := Lib.hid (HF.out (.inl h0))
          have g0 : ((j : Int) == 0) = true := by rw [h0]; rfl
          clear HDG HBD HC0 HF HT HEND HBAD hb h0
          go_wp2_with fail
          go_ret3
          exact ⟨by rw [HR2.out]; rfl, rfl⟩
        · have hnb : ¬ (10 < j ∨ (1 < j ∧ c0 = 48)) := HBAD.out.resolve_left h0
          have g0 : ((j : Int) == 0) = false := by rw [beq_eq_false_iff_ne]; omega
          have HR2 := Lib.hid (HT.out (by rintro (h | h | h | h); exact h0 h; exact hnb (.inl h); exact hnb (.inr h); omega))
          by_cases hx : 4294967295 < V j
          · have HR3 : Hid (R = (0, 0, false)) := Lib.hid (by rw [HR2.out, if_pos hx])
            have gx : decide (4294967295 < V j) = true := decide_eq_true hx
            clear HDG HBD HC0 HF HT HEND HBAD HR2 hb hnb h0
            go_wp2_with fail
            go_ret3
            exact ⟨by rw [HR3.out]; rfl, rfl⟩
          · have HR3 : Hid (R = (V j, 6, true)) := Lib.hid (by rw [HR2.out, if_neg hx])
            have gx : decide (4294967295 < V j) = false := decide_eq_false hx
            clear HDG HBD HC0 HF HT HEND HBAD HR2 hb hnb h0
            go_wp2_with fail
            go_ret3
            exact ⟨by rw [HR3.out]; rfl, rfl⟩
  · obtain rfl : 2147483647 = mx := hmx
    by_cases hz : s.size = 0
    · have g0 : decide ((0 : Int) < (s.size : Int)) = false := decide_eq_false (by omega)
      obtain rfl : n = 0 := by omega
      have hz0 : (s.size : Int) = 0 := by omega
      have HR2 := Lib.hid (HF.out (.inl rfl))
      clear h1 HDG HBD HC0 HF HT HEND hDl hns h2 hz hL
      go_enter Try.func25, Try.ntmps25
      go_wp2_with (go_at_call 36; refine (ml5 _).mono ?_; rintro e w' ⟨rfl, rfl⟩)
      go_loop [8, 9] (fun v i => v = .int .i64 0 ∧ i = .int .i64 0) (fun _ _ => 0)
      case atStart => exact ⟨rfl, rfl⟩
      case round =>
        obtain ⟨rfl, rfl⟩ := hrel
        go_wp2_with fail
        go_ret3
        exact ⟨by rw [HR2.out]; rfl, rfl⟩
    · have g0 : decide ((0 : Int) < (n : Int)) = true := decide_eq_true (by omega)
      obtain ⟨k, hk⟩ : ∃ k, s.size - 1 = k := ⟨_, rfl⟩
      have e0 : IntKind.i64.wrap ((n : Int) - 1) = (k : Int) := by rw [IntWalk.i64_in _ (by omega)]; omega
      have p1 : (k : Int) < (n : Int) := by omega
      have p2 : (0 : Int) < (n : Int) := by omega
      have hlt0 : k < s.size := by omega
      have gb : (((s[k]'hlt0).toNat : Int) == 117) = false := by
        rw [← chI_get s k hlt0, beq_eq_false_iff_ne, ← hk]
        exact fun h => h1 ⟨by omega, h⟩
      have hsn : (s.size : Int) = (n : Int) := by omega
      have HK := Lib.hid hk
      have hns3 : n ≤ s.size ∧ s.size ≤ n := by omega
      have HNS := Lib.hid hns3
      clear h1 h2 hk hz hns3
      go_enter Try.func25, Try.ntmps25
      go_wp2_with (first | (go_at_call 36; refine (ml5 _).mono ?_; rintro e w' ⟨rfl, rfl⟩; clear ml5) | (go_at_call 36; refine (ml6 _).mono ?_; rintro e w' ⟨rfl, rfl⟩))
      go_loop [8, 9] (fun v i => ∃ j : Nat, j ≤ m ∧ (j = 0 ∨ ¬ (10 < n ∨ (1 < n ∧ c0 = 48))) ∧ v = .int .i64 (V j) ∧ i = .int .i64 j) (fun _ i => n - (intOf i).toNat)
      case atStart => exact ⟨0, Nat.zero_le _, .inl rfl, by rw [HV0.out], rfl⟩
      case round =>
        obtain ⟨j, hj, hbad, rfl, rfl⟩ := hrel
        have HBAD := Lib.hid hbad
        clear hbad
        by_cases hjn : j < n
        · have q1 : (j : Int) < (n : Int) := by omega
          have q2 : (j : Int) < (s.size : Int) := by omega
          have q0 : (0 : Int) < (s.size : Int) := by omega
          have hpos : 0 < s.size := by omega
          by_cases hjm : j < m
          · have D1 := HDTH.out _ _ (HDG.out j hjm).1
            by_cases h10 : 10 < n
            · have HR2 := Lib.hid (HF.out (.inr (.inl h10)))
              have g10 : decide ((10 : Int) < (n : Int)) = true := decide_eq_true (by omega)
              clear HDG HBD HC0 HF HT HEND HBAD
              go_wp2_with (go_at_call 12; refine (D1 _).mono ?_; rintro e w' ⟨rfl, rfl⟩)
              go_ret3
              exact ⟨by rw [HR2.out]; rfl, rfl⟩
            · have g10 : decide ((10 : Int) < (n : Int)) = false := decide_eq_false (by omega)
              by_cases hz : 1 < n ∧ c0 = 48
              · have HR2 := Lib.hid (HF.out (.inr (.inr (.inl hz))))
                have g1 : decide ((1 : Int) < (n : Int)) = true := decide_eq_true (by omega)
                have g48 : (((s[0]'hpos).toNat : Int) == 48) = true := by rw [← HC0.out (by omega), hz.2]; rfl
                clear HDG HBD HC0 HF HT HEND HBAD hz
                go_wp2_with (go_at_call 12; refine (D1 _).mono ?_; rintro e w' ⟨rfl, rfl⟩)
                go_ret3
                exact ⟨by rw [HR2.out]; rfl, rfl⟩
              · have hnb : ¬ (10 < n ∨ (1 < n ∧ c0 = 48)) := by rintro (h | h); exact h10 h; exact hz h
                have hb := HBD.out j hj
                have hp := pow_le10 (k := j) (by omega)
                obtain ⟨d0, d3⟩ := HDG.out j hjm
                have d1 := digitI_range d0
                have hb1 := HBD.out (j + 1) (by omega)
                have hp1 := pow_le10 (k := j + 1) (by omega)
                have x1 : IntKind.u8.wrap (((s[j]'(by omega)).toNat : Int) - 48) = ((s[j]'(by omega)).toNat : Int) - 48 := by
                  obtain ⟨c, hc⟩ : ∃ c : Int, ((s[j]'(by omega)).toNat : Int) = c := ⟨_, rfl⟩
                  rw [hc] at d1 ⊢
                  rw [(show ∀ x : Int, IntKind.u8.wrap x = x % 256 from fun _ => rfl)]
                  omega
                have x4 : IntKind.i64.wrap (((s[j]'(by omega)).toNat : Int) - 48) = ((s[j]'(by omega)).toNat : Int) - 48 := IntWalk.i64_in _ (by omega)
                have x2 : IntKind.i64.wrap (10 * V j) = 10 * V j := IntWalk.i64_in _ (by omega)
                have x3 : IntKind.i64.wrap (10 * V j + (((s[j]'(by omega)).toNat : Int) - 48)) = V (j + 1) := by rw [d3]; exact IntWalk.i64_in _ (by omega)
                have HNB := Lib.hid hnb
                clear hb hp hb1 hp1 d3 d1 d0 HBD HF HT HEND HBAD hnb
                by_cases h1n : 1 < n
                · have g1 : decide ((1 : Int) < (n : Int)) = true := decide_eq_true (by omega)
                  have g48 : (((s[0]'hpos).toNat : Int) == 48) = false := by rw [← HC0.out (by omega), beq_eq_false_iff_ne]; exact fun h => hz ⟨h1n, h⟩
                  clear hz HC0 HDG
                  go_wp2_with (go_at_call 12; refine (D1 _).mono ?_; rintro e w' ⟨rfl, rfl⟩)
                  exact ⟨⟨j + 1, by omega, .inr HNB.out, rfl, by go_num⟩, by simp [intOf]; omega⟩
                · have g1 : decide ((1 : Int) < (n : Int)) = false := decide_eq_false (by omega)
                  clear hz HC0 HDG
                  go_wp2_with (go_at_call 12; refine (D1 _).mono ?_; rintro e w' ⟨rfl, rfl⟩)
                  exact ⟨⟨j + 1, by omega, .inr HNB.out, rfl, by go_num⟩, by simp [intOf]; omega⟩
          · obtain rfl : j = m := by omega
            have D1 := HDTH.out _ _ (HEND.out hjn)
            have HR2 := Lib.hid (HF.out (.inr (.inr (.inr hjn))))
            clear HDG HBD HC0 HF HT HEND HBAD hjm
            go_wp2_with (go_at_call 12; refine (D1 _).mono ?_; rintro e w' ⟨rfl, rfl⟩)
            go_ret3
            exact ⟨by rw [HR2.out]; rfl, rfl⟩
        · obtain rfl : j = n := by omega
          have q1 : ¬ (j : Int) < (j : Int) := by omega
          have hb := HBD.out j hj
          by_cases h0 : j = 0
          · have HR2 := Lib.hid (HF.out (.inl h0))
            have g0 : ((j : Int) == 0) = true := by rw [h0]; rfl
            clear HDG HBD HC0 HF HT HEND HBAD hb h0
            go_wp2_with fail
            go_ret3
            exact ⟨by rw [HR2.out]; rfl, rfl⟩
          · have hnb : ¬ (10 < j ∨ (1 < j ∧ c0 = 48)) := HBAD.out.resolve_left h0
            have g0 : ((j : Int) == 0) = false := by rw [beq_eq_false_iff_ne]; omega
            have HR2 := Lib.hid (HT.out (by rintro (h | h | h | h); exact h0 h; exact hnb (.inl h); exact hnb (.inr h); omega))
            by_cases hx : 2147483647 < V j
            · have HR3 : Hid (R = (0, 0, false)) := Lib.hid (by rw [HR2.out, if_pos hx])
              have gx : decide (2147483647 < V j) = true := decide_eq_true hx
              clear HDG HBD HC0 HF HT HEND HBAD HR2 hb hnb h0
              go_wp2_with fail
              go_ret3
              exact ⟨by rw [HR3.out]; rfl, rfl⟩
            · have HR3 : Hid (R = (V j, 5, true)) := Lib.hid (by rw [HR2.out, if_neg hx])
              have gx : decide (2147483647 < V j) = false := decide_eq_false hx
              clear HDG HBD HC0 HF HT HEND HBAD HR2 hb hnb h0
              go_wp2_with fail
              go_ret3
              exact ⟨by rw [HR3.out]; rfl, rfl⟩
end Go.Proofs.Ytnnhdkchdjddkaa.C
