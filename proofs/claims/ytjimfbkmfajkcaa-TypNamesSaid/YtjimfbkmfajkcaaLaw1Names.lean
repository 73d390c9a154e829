/- The walk of the law on names of types. -/
import Derived.Test.YtjimfbkmfajkcaaLaw1
import Derived.Test.YtjimfbkmfajkcaaWords
namespace Go.Proofs.Ytjimfbkmfajkcaa.C
open Go.RowKit
set_option linter.unusedSimpArgs false
set_option linter.unusedVariables false

theorem names_get (k : Nat) (h : k < 6) : readT (namesL.getD k ByteArray.empty) = (k : Int) + 1 := by
  rcases (by omega : k = 0 ∨ k = 1 ∨ k = 2 ∨ k = 3 ∨ k = 4 ∨ k = 5) with rfl | rfl | rfl | rfl | rfl | rfl <;> decide +kernel
def isF (s : ByteArray) : Nat → Int
  | 0 => 0
  | k + 1 => if (s.toList == (namesL.getD k ByteArray.empty).toList) = true then (k : Int) + 1 else isF s k
theorem names_ne (i j : Nat) (hi : i < 6) (hj : j < 6) (h : (namesL.getD i ByteArray.empty).toList = (namesL.getD j ByteArray.empty).toList) : i = j := by
  have : ∀ i : Fin 6, ∀ j : Fin 6, (namesL.getD i ByteArray.empty).toList = (namesL.getD j ByteArray.empty).toList → i = j := by decide +kernel
  have := this ⟨i, hi⟩ ⟨j, hj⟩ h
  exact congrArg Fin.val this
theorem isF_none (s : ByteArray) (m : Nat) (h : ∀ j, j < m → (s.toList == (namesL.getD j ByteArray.empty).toList) = false) : isF s m = 0 := by
  induction m with
  | zero => rfl
  | succ m ih =>
    unfold isF
    rw [if_neg (by rw [h m (by omega)]; decide)]
    exact ih fun j hj => h j (by omega)
theorem isF_one (s : ByteArray) (k : Nat) (hk : k < 6) (h : (s.toList == (namesL.getD k ByteArray.empty).toList) = true) (m : Nat) (hm : k < m) (hm6 : m ≤ 6) : isF s m = (k : Int) + 1 := by
  induction m with
  | zero => omega
  | succ m ih =>
    unfold isF
    by_cases e : m = k
    · subst e; rw [if_pos h]
    · rw [if_neg ?_]
      · exact ih (by omega) (by omega)
      · intro h2
        have h1 := eq_of_beq h
        have h3 := eq_of_beq h2
        exact e (names_ne m k (by omega) hk (h3.symm.trans h1))
theorem isF_read (s : ByteArray) : isF s 6 = readT s := by
  by_cases h : ∃ k, k < 6 ∧ (s.toList == (namesL.getD k ByteArray.empty).toList) = true
  · obtain ⟨k, hk, h⟩ := h
    rw [isF_one s k hk h 6 hk (by omega)]
    unfold readT
    rw [idxT_found (l := namesL) (k := k) hk h ?_]
    intro j hj
    by_cases h2 : (s.toList == (namesL.getD j ByteArray.empty).toList) = true
    · have h1 := eq_of_beq h
      have h3 := eq_of_beq h2
      have := names_ne j k (by omega) hk (h3.symm.trans h1)
      omega
    · simpa using h2
  · have hn : ∀ j, j < 6 → (s.toList == (namesL.getD j ByteArray.empty).toList) = false := fun j hj => by
      by_cases h2 : (s.toList == (namesL.getD j ByteArray.empty).toList) = true
      · exact absurd ⟨j, hj, h2⟩ h
      · simpa using h2
    rw [isF_none s 6 hn]
    unfold readT
    rw [idxT_none (l := namesL) (fun j hj => hn j hj)]; rfl
theorem namesB_cell (w : World) (k : Nat) (h : k < 6) : (w.alloc namesB).cell? ⟨w.heap.size, k, none⟩ = some (.string (namesL.getD k ByteArray.empty)) := by
  rcases (by omega : k = 0 ∨ k = 1 ∨ k = 2 ∨ k = 3 ∨ k = 4 ∨ k = 5) with rfl | rfl | rfl | rfl | rfl | rfl <;> (unfold namesB namesL; go_simp)
set_option maxHeartbeats 1000000 in
theorem typNames_c (s : ByteArray) (w : World) : Calls Try.prog 5 #[.string s] w fun e w' => e = .returned (.bool true) ∧ Below w.heap.size w w' := by
  go_enter Try.func5, Try.ntmps5
  go_wp2
  go_loopw [4, 5] (fun is i wr => ∃ k : Nat, k ≤ 6 ∧ i = .int .i64 k ∧ is = .int .i64 (isF s k) ∧ Hid (Below (w.heap.size + 1) (w.alloc namesB) wr)) (fun _ i _ => 6 - (intOf i).toNat)
  case atStart => exact ⟨0, Nat.zero_le _, rfl, rfl, Below.refl _ _⟩
  case round =>
    obtain ⟨k, hk, rfl, rfl, hb⟩ := hrel
    have hlo : w.heap.size + 1 ≤ wr.heap.size := by have := hb.out.size; simpa using this
    by_cases hlt : k < 6
    · have hng := nameT_get k hlt
      have hrd := names_get k hlt
      have hc0 := namesB_cell w k hlt
      obtain ⟨x, hx⟩ : ∃ x, x = namesL.getD k ByteArray.empty := ⟨_, rfl⟩
      rw [← hx] at hng hrd hc0
      have HC : ∀ W : World, Calls Try.prog 25 #[.int .i64 ((k : Int) + 1)] W fun e w' => e = .returned (.string x) ∧ Below W.heap.size W w' := by rw [← hng]; exact fun W => name_c _ W
      have HR : ∀ W : World, Calls Try.prog 26 #[.string x] W fun e w' => e = .returned (.int .i64 ((k : Int) + 1)) ∧ Below W.heap.size W w' := by rw [← hrd]; exact fun W => read_c _ W
      have hcell : wr.cell? ⟨w.heap.size, k, none⟩ = some (.string x) := (hb.out.cell (p := ⟨w.heap.size, k, none⟩) (by simp)).trans hc0
      have HX : Hid (x = namesL.getD k ByteArray.empty) := hx
      have h0 : (0 : Int) ≤ (k : Int) := by omega
      have h6 : (k : Int) < 6 := by omega
      clear hng hrd hx hc0
      go_wp2
      refine region_in (Below wr.heap.size wr) (by kernel_rfl) (by kernel_rfl) (Below.refl _ _).drew (fun inst => ?_)
      have hq := fun x : WIn (Below wr.heap.size wr) => cell_later x.h hcell
      repeat (go_big_quiet_step (first | (go_at_call 25; exact call_grow (Nat.le_refl _) (HC _)) | (go_at_call 26; exact call_grow (Nat.le_refl _) (HR _))))
      refine wpQuiet_nil ?_
      intro w2 hb2
      have hcell2 := cell_later hb2 hcell
      have HB2 : Hid (Below (w.heap.size + 1) (w.alloc namesB) w2) := hb.out.trans (hb2.mono hlo)
      by_cases heq : (s.toList == x.toList) = true
      · have HI : Hid (isF s (k + 1) = (k : Int) + 1) := by show isF s (k + 1) = _; unfold isF; rw [if_pos (by rw [← HX.out]; exact heq)]
        clear hb hb2 hcell hq
        go_wp2
        go_roundw
        case rel => exact ⟨k + 1, by omega, by go_num, by rw [HI.out], HB2⟩
        case measure => simp [intOf]; omega
      · have hne : (s.toList == x.toList) = false := by simpa using heq
        have HI : Hid (isF s (k + 1) = isF s k) := by show isF s (k + 1) = _; rw [isF, if_neg (by rw [← HX.out]; exact heq)]
        clear hb hb2 hcell hq heq
        go_wp2
        go_roundw
        case rel => exact ⟨k + 1, by omega, by go_num, by rw [HI.out], HB2⟩
        case measure => simp [intOf]; omega
    · obtain rfl : k = 6 := by omega
      have he := isF_read s
      clear hk
      go_wp2_with (first | (go_at_call 26; refine (read_c _ _).mono ?_; rintro e w' ⟨rfl, hb3⟩) | (go_at_call 19; refine (awake1_c _).mono ?_; rintro e w' ⟨rfl, rfl⟩))
      go_ret
      have h1 := hb.out.trans (hb3.mono hlo)
      exact ⟨rfl, (((Below.refl w.heap.size w).alloc (Nat.le_refl _) namesB).trans (h1.mono (by omega)))⟩
end Go.Proofs.Ytjimfbkmfajkcaa.C
