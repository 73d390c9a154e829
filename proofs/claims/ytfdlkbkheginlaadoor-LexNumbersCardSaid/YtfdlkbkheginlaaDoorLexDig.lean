/- r1.Digits: walk. -/
import Derived.Test.YtfdlkbkheginlaaDoorLexD
import Derived.Laws.BytesArg
namespace Go.Proofs.YtfdlkbkheginlaaDoor.C
open Go.RowKit
set_option linter.unusedSimpArgs false
set_option linter.unusedVariables false
theorem conv_byteL (W : World) (x : Int) : (convert 32 9 (.slice (some ⟨W.heap.size, 0, none⟩) 1 1)).run Tryd.prog (W.alloc (.cells #[.int .u8 x] 5)) = .ok (.string (strOfNums [x])) (W.alloc (.cells #[.int .u8 x] 5)) :=
  run_convert_bytes_arg (P := Tryd.prog) (W.alloc (.cells #[.int .u8 x] 5)) 32 5 Tryd.underlying32 Tryd.underlying5 W.heap.size 0 1 1 [x] rfl (fun i hi => by
    obtain rfl : i = 0 := by omega
    simp [go_sem]) 9 Tryd.underlying9
set_option maxHeartbeats 1600000 in
theorem digits_c (u : Nat) (hu : u < 4294967296) (w : World) : Calls Tryd.prog 10 #[.int .i64 (u : Int)] w fun e w' => e = .returned (.string ⟨(digN u).toArray⟩) ∧ Below w.heap.size w w' := by
  have h0 : (0 : Int) ≤ (u : Int) := by omega
  have h0n : ¬ ((u : Int) < 0) := by omega
  have CV := conv_byteL
  have hcat : IntKind.i64.max = 9223372036854775807 := rfl
  have h10 := digN_10 hu
  have hw : IntKind.u64.wrap (u : Int) = (u : Int) := by rw [(show ∀ x : Int, IntKind.u64.wrap x = x % 18446744073709551616 from fun _ => rfl)]; omega
  go_enter Tryd.func10, Tryd.ntmps10
  go_wp2_with fail
  go_loopw [3, 4] (fun i s wr => ∃ (v : Nat) (acc : ByteArray), v ≤ u ∧ i = .int .u64 v ∧ s = .string acc ∧ Hid (digN v ++ acc.data.toList = digN u) ∧ Hid (Below w.heap.size w wr)) (fun i _ _ => (intOf i).toNat)
  case atStart => exact ⟨u, ByteArray.empty, Nat.le_refl _, rfl, rfl, Lib.hid (by show digN u ++ [] = _; simp), Lib.hid (Below.refl _ _)⟩
  case round =>
    obtain ⟨v, acc, hv, rfl, rfl, HD, HB⟩ := hrel
    have hsz : (digN v).length + acc.size = (digN u).length := by rw [← HD.out, List.length_append, ← Lib.size_eq]
    have hpos := digN_pos v
    have ha9 : acc.size ≤ 9 := by omega
    obtain ⟨wo, rfl⟩ : ∃ wo : World, wo = wr := ⟨_, rfl⟩
    by_cases h : v < 10
    · have k1 : ((v : Int) < 10) := by omega
      have k2 : ¬ ((10 : Int) ≤ (v : Int)) := by omega
      have k3 : decide ((10 : Int) ≤ (v : Int)) = false := decide_eq_false k2
      have w1 : IntKind.u64.wrap (48 + (v : Int)) = ((48 + v : Nat) : Int) := by rw [(show ∀ x : Int, IntKind.u64.wrap x = x % 18446744073709551616 from fun _ => rfl)]; omega
      obtain ⟨c, hc⟩ : ∃ c : Nat, 48 + v = c := ⟨_, rfl⟩
      rw [hc] at w1
      have w2 : IntKind.u8.wrap (c : Int) = (c : Int) := by rw [(show ∀ x : Int, IntKind.u8.wrap x = x % 256 from fun _ => rfl)]; omega
      have hz1 : (strOfNums [(c : Int)]).size = 1 := strOfNums_size _
      have HF : Hid (strOfNums [(c : Int)] ++ acc = ⟨(digN u).toArray⟩) := Lib.hid (by
        rw [← HD.out, digN_lt h]
        apply ByteArray.ext
        rw [ByteArray.data_append]
        apply Array.ext'
        rw [Array.toList_append, strOfNums_data]
        rw [← hc]
        rfl)
      clear hc hpos hsz HD
      go_wp2_with fail
      go_ret
      exact ⟨by rw [← HF.out]; rfl, HB.out.alloc HB.out.size _⟩
    · have k1 : ((10 : Int) ≤ (v : Int)) := by omega
      have k3 : decide ((10 : Int) ≤ (v : Int)) = true := decide_eq_true k1
      obtain ⟨c, hc⟩ : ∃ c : Nat, 48 + v % 10 = c := ⟨_, rfl⟩
      have m1 : (v : Int).tmod 10 = ((v % 10 : Nat) : Int) := by rw [Int.tmod_eq_emod_of_nonneg (by omega)]; omega
      have m2 : (v : Int).tdiv 10 = ((v / 10 : Nat) : Int) := by rw [Int.tdiv_eq_ediv_of_nonneg (by omega)]; omega
      obtain ⟨r, hr⟩ : ∃ r : Nat, v % 10 = r := ⟨_, rfl⟩
      obtain ⟨q, hq⟩ : ∃ q : Nat, v / 10 = q := ⟨_, rfl⟩
      have w1 : IntKind.u64.wrap (48 + (r : Int)) = (c : Int) := by rw [(show ∀ x : Int, IntKind.u64.wrap x = x % 18446744073709551616 from fun _ => rfl)]; omega
      have w2 : IntKind.u8.wrap (c : Int) = (c : Int) := by rw [(show ∀ x : Int, IntKind.u8.wrap x = x % 256 from fun _ => rfl)]; omega
      have w3 : IntKind.u64.wrap (q : Int) = (q : Int) := by rw [(show ∀ x : Int, IntKind.u64.wrap x = x % 18446744073709551616 from fun _ => rfl)]; omega
      have hz1 : (strOfNums [(c : Int)]).size = 1 := strOfNums_size _
      have HF : Hid (digN q ++ (strOfNums [(c : Int)] ++ acc).data.toList = digN u) := Lib.hid (by
        rw [← HD.out, digN_ge h, ByteArray.data_append, Array.toList_append, strOfNums_data, ← hq, ← hc, List.append_assoc]
        rfl)
      have hqv : q ≤ u := by omega
      have hqv2 : q < v := by omega
      rw [hr] at m1
      rw [hq] at m2
      clear hc hpos hsz HD hr hq
      go_wp2_with fail
      exact ⟨⟨q, _, hqv, rfl, rfl, HF, Lib.hid (HB.out.alloc HB.out.size _)⟩, by simp [intOf]; omega⟩
end Go.Proofs.YtfdlkbkheginlaaDoor.C
