/- ArithBits: walk. -/
import Derived.Test.YtjimfbkmfajkcabLaw6
import Derived.Test.YtjimfbkmfajkcabWords
import Derived.BigFrame
import Derived.BigGuard
import Derived.BigRegion
import Derived.Deep.CutBlock
import Derived.Lib.Hide
import Derived.Test.YtjimfbkmfajkcabBits
namespace Go.Proofs.Ytjimfbkmfajkcab.C
open Go.RowKit
set_option linter.unusedSimpArgs false
set_option linter.unusedVariables false
def bitOp (k : Nat) : BinOp := if k = 0 then .and else if k = 1 then .or else .xor
theorem bit_do5 {x y : Int} (hx : -2147483648 ≤ x ∧ x ≤ 2147483647) (hy : -2147483648 ≤ y ∧ y ≤ 2147483647) {k : Nat} (hk : k < 3) : doI (13 + (k : Int)) 5 x y = (bits (bitOp k) .i32 x y, 0) := by
  have ix := inT5.mpr hx
  have iy := inT5.mpr hy
  have b1 := bits_i32 (.inl rfl : isBit .and) x y hx hy
  have b2 := bits_i32 (.inr (.inl rfl) : isBit .or) x y hx hy
  have b3 := bits_i32 (.inr (.inr rfl) : isBit .xor) x y hx hy
  obtain rfl | rfl | rfl : k = 0 ∨ k = 1 ∨ k = 2 := by omega
  · simp [doI, ix, iy, bitOp, b1]
  · simp [doI, ix, iy, bitOp, b2]
  · simp [doI, ix, iy, bitOp, b3]
theorem bit_do6 {x y : Int} (hx : 0 ≤ x ∧ x ≤ 4294967295) (hy : 0 ≤ y ∧ y ≤ 4294967295) {k : Nat} (hk : k < 3) : doI (13 + (k : Int)) 6 x y = (bits (bitOp k) .u32 x y, 0) := by
  have ix := inT6.mpr hx
  have iy := inT6.mpr hy
  have b1 := bits_u32 (.inl rfl : isBit .and) x y hx hy
  have b2 := bits_u32 (.inr (.inl rfl) : isBit .or) x y hx hy
  have b3 := bits_u32 (.inr (.inr rfl) : isBit .xor) x y hx hy
  obtain rfl | rfl | rfl : k = 0 ∨ k = 1 ∨ k = 2 := by omega
  · simp [doI, ix, iy, bitOp, b1]
  · simp [doI, ix, iy, bitOp, b2]
  · simp [doI, ix, iy, bitOp, b3]
theorem u32max : IntKind.max .u32 = 4294967295 := by decide
set_option maxRecDepth 100000 in
set_option maxHeartbeats 3200000 in
theorem arithBits_c (x y c d : Int) (w : World) (h0 : -2147483648 ≤ x ∧ x ≤ 2147483647) (h1 : -2147483648 ≤ y ∧ y ≤ 2147483647) (h2 : 0 ≤ c ∧ c ≤ 4294967295) (h3 : 0 ≤ d ∧ d ≤ 4294967295) :
    Calls Try.prog 10 #[.int .i32 x, .int .i32 y, .int .u32 c, .int .u32 d] w fun e w' => e = .returned (.bool true) ∧ Below w.heap.size w w' := by
  have FL := fun (k : Nat) (hk : k < 3) => bit_do5 h0 h1 hk
  have FM := fun (k : Nat) (hk : k < 3) => bit_do6 h2 h3 hk
  have N1 : doI 7 5 x 0 = (-1 - x, 0) := by
    have e := bits_com x (by omega)
    simp [doI, inT5.mpr h0, show inT 5 0 = true from by decide, e, wrapT]
    omega
  have E1 : bits .xor .i32 (-1) x = -1 - x := by
    have e := bits_com x (by omega)
    have e2 := bits_i32 (.inr (.inr rfl) : isBit .xor) (-1) x (by omega) h0
    rw [← e2, e]
  have N2 : doI 7 6 c 0 = (4294967295 - c, 0) := by
    have e := bits_com c (by omega)
    simp [doI, inT6.mpr h2, show inT 6 0 = true from by decide, e, wrapT]
    omega
  have HH : Hid ((∀ k : Nat, k < 3 → doI (13 + (k : Int)) 5 x y = (bits (bitOp k) .i32 x y, 0)) ∧ (∀ k : Nat, k < 3 → doI (13 + (k : Int)) 6 c d = (bits (bitOp k) .u32 c d, 0)) ∧ doI 7 5 x 0 = (-1 - x, 0) ∧ doI 7 6 c 0 = (4294967295 - c, 0) ∧ bits .xor .i32 (-1) x = -1 - x) := Lib.hid ⟨FL, FM, N1, N2, E1⟩
  clear FL FM N1 N2 E1
  obtain ⟨a1, a1'⟩ := bits_i32_bd .and x y
  obtain ⟨a2, a2'⟩ := bits_i32_bd .or x y
  obtain ⟨a3, a3'⟩ := bits_i32_bd .xor x y
  obtain ⟨a4, a4'⟩ := bits_u32_bd .and c d
  obtain ⟨a5, a5'⟩ := bits_u32_bd .or c d
  obtain ⟨a6, a6'⟩ := bits_u32_bd .xor c d
  obtain ⟨h0a, h0b⟩ := h0
  obtain ⟨h1a, h1b⟩ := h1
  obtain ⟨h2a, h2b⟩ := h2
  obtain ⟨h3a, h3b⟩ := h3
  go_enter Try.func10, Try.ntmps10
  go_upto_region 4 with fail
  refine at_world (fun W => Hid (Below w.heap.size w W ∧ (∀ k : Nat, k < 3 → W.cell? ⟨w.heap.size, k, none⟩ = some (.int .i64 (bits (bitOp k) .i32 x y))) ∧ (∀ k : Nat, k < 3 → W.cell? ⟨w.heap.size + 1, k, none⟩ = some (.int .i64 (bits (bitOp k) .u32 c d))) ∧ (∀ k : Nat, k < 3 → W.cell? ⟨w.heap.size + 1 + 1, k, none⟩ = some (.int .i64 (13 + (k : Int)))))) ?_ ?_
  · refine Lib.hid ⟨(by repeat' (first | exact Below.refl _ _ | (refine Below.alloc ?_ ?_ _) | (refine Below.setCell ?_ ?_ _) | (refine Below.drew ?_) | (refine below_next ?_ ?_ (by assumption)) | omega | (simp; done) | (simp; omega))), ?_, ?_, ?_⟩
    · intro k hk
      obtain rfl | rfl | rfl : k = 0 ∨ k = 1 ∨ k = 2 := by omega
      all_goals simp [go_sem, bitOp]
    · intro k hk
      obtain rfl | rfl | rfl : k = 0 ∨ k = 1 ∨ k = 2 := by omega
      all_goals simp [go_sem, bitOp]
    · intro k hk
      obtain rfl | rfl | rfl : k = 0 ∨ k = 1 ∨ k = 2 := by omega
      all_goals simp [go_sem]
  intro W HW
  clear a1 a1' a2 a2' a3 a3' a4 a4' a5 a5' a6 a6'
  go_wp2_with fail
  go_loop [12] (fun i => ∃ k : Nat, k ≤ 3 ∧ i = .int .i64 k) (fun i => 3 - (intOf i).toNat)
  case atStart => exact ⟨0, by omega, rfl⟩
  case round =>
    obtain ⟨k, hk, rfl⟩ := hrel
    by_cases hlt : k < 3
    · have c1 := HW.out.2.1 k hlt
      have c2 := HW.out.2.2.1 k hlt
      have c3 := HW.out.2.2.2 k hlt
      have D1 := HH.out.1 k hlt
      have D2 := HH.out.2.1 k hlt
      obtain ⟨l, hl⟩ : ∃ l, bits (bitOp k) .i32 x y = l := ⟨_, rfl⟩
      obtain ⟨m, hm⟩ : ∃ l, bits (bitOp k) .u32 c d = l := ⟨_, rfl⟩
      rw [hl] at c1 D1
      rw [hm] at c2 D2
      clear hl hm
      go_wp2_with (first | (go_at_call 42; refine (do_c _ _ _ _ _).mono ?_; rintro e w' ⟨rfl, rfl⟩) | (go_at_call 45; refine (awake6_c _).mono ?_; rintro e w' ⟨rfl, rfl⟩))
      go_round
      case rel => exact ⟨k + 1, by omega, by go_num⟩
      case measure => simp [intOf]; omega
    · have hk3 : k = 3 := by omega
      subst hk3
      have N1 := HH.out.2.2.1
      have N2 := HH.out.2.2.2.1
      have E1 := HH.out.2.2.2.2
      have S1 : IntKind.i32.signed = true := rfl
      have S2 : IntKind.u32.signed = false := rfl
      have E2 : bits .xor .u32 IntKind.u32.max c = 4294967295 - c := by rw [u32max]; exact bits_com32 c ⟨h2a, h2b⟩
      go_wp2_with (first | (go_at_call 42; refine (do_c _ _ _ _ _).mono ?_; rintro e w' ⟨rfl, rfl⟩) | (go_at_call 45; refine (awake6_c _).mono ?_; rintro e w' ⟨rfl, rfl⟩))
      go_ret
      exact ⟨rfl, HW.out.1⟩
end Go.Proofs.Ytjimfbkmfajkcab.C
