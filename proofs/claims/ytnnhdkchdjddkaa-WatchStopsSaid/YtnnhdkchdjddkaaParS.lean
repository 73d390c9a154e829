/- The reference's rel: walk. -/
import Derived.Test.YtnnhdkchdjddkaaParR
namespace Go.Proofs.Ytnnhdkchdjddkaa.C
open Go.RowKit
set_option linter.unusedSimpArgs false
set_option linter.unusedVariables false
def relW : List ByteArray := [⟨#[]⟩, ⟨#[61, 61]⟩, ⟨#[33, 61]⟩, ⟨#[60]⟩, ⟨#[60, 61]⟩, ⟨#[62]⟩, ⟨#[62, 61]⟩]
def relL (d : List UInt8) : Int := if d = [61, 61] then 1 else if d = [33, 61] then 2 else if d = [60] then 3 else if d = [60, 61] then 4 else if d = [62] then 5 else if d = [62, 61] then 6 else 0
theorem relL_hit {s : ByteArray} {j : Nat} (h1 : 1 ≤ j) (h7 : j < 7) (h : (relW.getD j ByteArray.empty).data.toList = s.data.toList) : relL s.data.toList = (j : Int) := by
  rw [← h]
  rcases (by omega : j = 1 ∨ j = 2 ∨ j = 3 ∨ j = 4 ∨ j = 5 ∨ j = 6) with rfl | rfl | rfl | rfl | rfl | rfl <;> decide +kernel
theorem relL_miss {s : ByteArray} (h : ∀ j, 1 ≤ j → j < 7 → (relW.getD j ByteArray.empty).data.toList ≠ s.data.toList) : relL s.data.toList = 0 := by
  unfold relL
  rw [if_neg (fun e => h 1 (by omega) (by omega) e.symm), if_neg (fun e => h 2 (by omega) (by omega) e.symm), if_neg (fun e => h 3 (by omega) (by omega) e.symm), if_neg (fun e => h 4 (by omega) (by omega) e.symm), if_neg (fun e => h 5 (by omega) (by omega) e.symm), if_neg (fun e => h 6 (by omega) (by omega) e.symm)]
set_option maxHeartbeats 1600000 in
theorem r1_rel_c (s : ByteArray) (w : World) : Calls Try.prog 39 #[.string s] w fun e w' => e = .returned (.int .i64 (relL s.data.toList)) ∧ Below w.heap.size w w' := by
  have HCell := Lib.hid (strB_cell relW w)
  have hb : Below w.heap.size w (w.alloc (strB relW)) := (Below.refl _ _).alloc (Nat.le_refl _) _
  obtain ⟨q, hq⟩ : ∃ q, relL s.data.toList = q := ⟨_, rfl⟩
  have HHit : Hid (∀ j : Nat, 1 ≤ j → j < 7 → ((relW.getD j ByteArray.empty).toList == s.toList) = true → q = (j : Int)) := Lib.hid (fun j h1 h7 h => by
    rw [← hq]
    have := eq_of_beq h
    rw [Lib.toList_data, Lib.toList_data] at this
    exact relL_hit h1 h7 this)
  have HMiss : Hid ((∀ j : Nat, 1 ≤ j → j < 7 → ((relW.getD j ByteArray.empty).toList == s.toList) = false) → q = 0) := Lib.hid (fun h => by
    rw [← hq]
    refine relL_miss (fun j h1 h7 e => ?_)
    have := h j h1 h7
    rw [Lib.toList_data, Lib.toList_data, e] at this
    simp at this)
  rw [hq]
  clear hq
  obtain ⟨W1, hW1⟩ : ∃ W1, w.alloc (strB relW) = W1 := ⟨_, rfl⟩
  rw [hW1] at HCell hb
  have HB := Lib.hid hb
  simp only [strB, relW, List.map] at hW1
  clear hb
  go_enter Try.func39, Try.ntmps39
  go_upto_region 2 with fail
  clear hW1
  go_wp2_with fail
  go_loop [4] (fun i => ∃ j : Nat, 1 ≤ j ∧ j ≤ 7 ∧ i = .int .i64 j ∧ Hid (∀ r : Nat, 1 ≤ r → r < j → ((relW.getD r ByteArray.empty).toList == s.toList) = false)) (fun i => 7 - (intOf i).toNat)
  case atStart => exact ⟨1, by omega, by omega, rfl, Lib.hid (fun r h1 h2 => by omega)⟩
  case round =>
    obtain ⟨j, h1, h7, rfl, HN⟩ := hrel
    by_cases hj : j < 7
    · have q1 : (j : Int) < 7 := by omega
      have q0 : (0 : Int) ≤ (j : Int) := by omega
      have c0 := HCell.out j hj
      rw [Nat.zero_add] at c0
      obtain ⟨b, hb⟩ : ∃ b, ((relW.getD j ByteArray.empty).toList == s.toList) = b := ⟨_, rfl⟩
      obtain ⟨X, hX⟩ : ∃ X, relW.getD j ByteArray.empty = X := ⟨_, rfl⟩
      have hb2 := hb
      rw [hX] at c0 hb2
      have HBB := Lib.hid hb
      clear hb hX
      cases b
      · have HN2 : Hid (∀ r : Nat, 1 ≤ r → r < j + 1 → ((relW.getD r ByteArray.empty).toList == s.toList) = false) := Lib.hid (fun r a1 a2 => by
          by_cases e : r = j
          · subst e; exact HBB.out
          · exact HN.out r a1 (by omega))
        clear HN HBB HHit HMiss HCell
        go_wp2_with fail
        exact ⟨⟨j + 1, by omega, by omega, by go_num, HN2⟩, by simp [intOf]; omega⟩
      · have HQ := Lib.hid (HHit.out j h1 hj HBB.out)
        clear HN HBB HHit HMiss HCell
        go_wp2_with fail
        go_ret
        exact ⟨by rw [HQ.out]; rfl, HB.out⟩
    · obtain rfl : j = 7 := by omega
      have HQ := Lib.hid (HMiss.out HN.out)
      clear HN HHit HMiss HCell hj
      go_wp2_with fail
      go_ret
      exact ⟨by rw [HQ.out]; rfl, HB.out⟩
end Go.Proofs.Ytnnhdkchdjddkaa.C
