/- Dominates, the program's and the reference's: walks. -/
import Derived.Test.YtacdeollnhkckaaShD3
namespace Go.Proofs.Ytacdeollnhkckaa.C
open Go.Shelf Go.RowKit Go.Lib Go.Sort
set_option linter.unusedSimpArgs false
set_option linter.unusedVariables false
/-- A row of numbers that is read. -/
def RowL (w : World) (A : Option Addr) (n : Nat) (l : List Int) : Prop := l.length = n ∧ n ≤ 9223372036854775806 ∧ (0 < n → ∃ ad, A = some ad ∧ ∀ j x, l[j]? = some x → w.cell? (ad.add j) = some (.int .i64 x))
theorem RowL.below {w w' : World} {A : Option Addr} {n : Nat} {l : List Int} (h : RowL w A n l) (hb : Below w.heap.size w w') : RowL w' A n l :=
  ⟨h.1, h.2.1, fun h0 => by obtain ⟨ad, e, hc⟩ := h.2.2 h0; exact ⟨ad, e, fun j x hj => cell_later hb (hc j x hj)⟩⟩
theorem IL.rowL {w : World} {B n c : Nat} {A : Option Addr} {l : List Int} (h : IL w B (.slice A n c) l) (hn : n ≤ 9223372036854775806) : RowL w A n l := by
  obtain ⟨c1, c2, c3⟩ := h.cap
  refine ⟨c3, hn, fun h0 => ?_⟩
  obtain ⟨g, rfl, _, _⟩ := h.some_ h0
  exact ⟨_, rfl, fun j x hj => by rw [add_plain, Nat.zero_add]; exact h.at_ hj⟩
set_option maxHeartbeats 3200000 in
theorem dominates_c (A : Option Addr) (n c : Nat) (l : List Int) (a b : Int) (w : World) (hl : RowL w A n l) :
    Calls Try.prog 11 #[.slice A n c, .int .i64 a, .int .i64 b] w fun e w' => e = .returned (.bool (Sh.domB l a (n + 1) b)) ∧ w = w' := by
  have hn := hl.2.1
  have en : IntKind.i64.wrap ((n : Int) + 1) = (n : Int) + 1 := IntWalk.i64_in _ (by omega)
  have HL := Lib.hid hl
  clear hl
  obtain ⟨R, hR⟩ : ∃ R, Sh.domB l a (n + 1) b = R := ⟨_, rfl⟩
  rw [hR]
  have HR : Hid (Sh.domB l a (n + 1 - 0) b = R) := Lib.hid hR
  clear hR
  go_enter Try.func11, Try.ntmps11
  go_wp2_with fail
  go_loop [2, 10] (fun u v => ∃ (k : Nat) (b' : Int), k ≤ n + 1 ∧ v = .int .i64 k ∧ u = .int .i64 b' ∧ Hid (Sh.domB l a (n + 1 - k) b' = R)) (fun _ v => n + 1 - (intOf v).toNat)
  case atStart => exact ⟨0, b, by omega, rfl, rfl, HR⟩
  case round =>
    clear HR
    obtain ⟨k, b', hk, rfl, rfl, HR⟩ := hrel
    by_cases hlt : k < n + 1
    · have hltd : decide (k < n + 1) = true := decide_eq_true hlt
      have hltd2 : decide ((k : Int) < (n : Int) + 1) = true := decide_eq_true (by omega)
      have hltd3 : decide (k ≤ n) = true := decide_eq_true (by omega)
      have ek : IntKind.i64.wrap ((k : Int) + 1) = (k : Int) + 1 := IntWalk.i64_in _ (by omega)
      have hr := HR.out
      rw [show n + 1 - k = (n - k) + 1 from by omega] at hr
      unfold Sh.domB at hr
      rw [HL.out.1] at hr
      by_cases h0 : b' < 0
      · have hd : decide (b' < 0) = true := decide_eq_true h0
        rw [if_pos (.inl h0)] at hr
        have HR2 := Lib.hid hr
        clear hr
        go_wp2_with fail
        go_ret
        exact ⟨by rw [← HR2.out]; rfl, rfl⟩
      · have hd : decide (b' < 0) = false := decide_eq_false h0
        by_cases h1 : (n : Int) ≤ b'
        · have hd1 : decide ((n : Int) ≤ b') = true := decide_eq_true h1
          rw [if_pos (.inr h1)] at hr
          have HR2 := Lib.hid hr
          clear hr
          go_wp2_with fail
          go_ret
          exact ⟨by rw [← HR2.out]; rfl, rfl⟩
        · have hd1 : decide ((n : Int) ≤ b') = false := decide_eq_false h1
          rw [if_neg (by omega)] at hr
          by_cases h2 : a = b'
          · have he : (a == b') = true := by rw [beq_iff_eq]; exact h2
            rw [if_pos h2] at hr
            have HR2 := Lib.hid hr
            have H2 := Lib.hid h2
            clear hr h2
            go_wp2_with fail
            go_ret
            exact ⟨by rw [← HR2.out]; rfl, rfl⟩
          · have he : (a == b') = false := by rw [beq_eq_false_iff_ne]; exact h2
            rw [if_neg h2] at hr
            obtain ⟨y, rfl⟩ := Int.eq_ofNat_of_zero_le (show 0 ≤ b' by omega)
            have hyd : decide (y < n) = true := decide_eq_true (by omega)
            have hyd2 : decide (n ≤ y) = false := decide_eq_false (by omega)
            obtain ⟨ad, rfl, hc⟩ := HL.out.2.2 (by omega)
            obtain ⟨v, hv⟩ : ∃ v, l[y]? = some v := ⟨_, List.getElem?_eq_getElem (by rw [HL.out.1]; omega)⟩
            have cv := hc y v hv
            rw [Int.toNat_natCast, List.getD_eq_getElem?_getD, hv] at hr
            have HR2 : Hid (Sh.domB l a (n + 1 - (k + 1)) v = R) := Lib.hid (by rw [show n + 1 - (k + 1) = n - k from by omega]; exact hr)
            clear hr hc hv h2
            go_wp2_with fail
            exact ⟨⟨k + 1, v, by omega, by go_num, rfl, HR2⟩, by simp [intOf]; omega⟩
    · have hltd : decide (k < n + 1) = false := decide_eq_false hlt
      have hltd2 : decide ((k : Int) < (n : Int) + 1) = false := decide_eq_false (by omega)
      have hltd3 : decide (k ≤ n) = false := decide_eq_false (by omega)
      have hr := HR.out
      rw [show n + 1 - k = 0 from by omega] at hr
      have HR2 : Hid (false = R) := Lib.hid hr
      clear hr
      go_wp2_with fail
      go_ret
      exact ⟨by rw [← HR2.out]; rfl, rfl⟩
set_option maxHeartbeats 3200000 in
theorem rdominates_c (A : Option Addr) (n c : Nat) (l : List Int) (a b : Int) (w : World) (hl : RowL w A n l) :
    Calls Try.prog 18 #[.slice A n c, .int .i64 a, .int .i64 b] w fun e w' => e = .returned (.bool (Sh.domB l a (n + 1) b)) ∧ w = w' := by
  have hn := hl.2.1
  have en : IntKind.i64.wrap ((n : Int) + 1) = (n : Int) + 1 := IntWalk.i64_in _ (by omega)
  have HL := Lib.hid hl
  clear hl
  obtain ⟨R, hR⟩ : ∃ R, Sh.domB l a (n + 1) b = R := ⟨_, rfl⟩
  rw [hR]
  have HR : Hid (Sh.domB l a (n + 1 - 0) b = R) := Lib.hid hR
  clear hR
  go_enter Try.func18, Try.ntmps18
  go_wp2_with fail
  go_loop [2, 7] (fun u v => ∃ (k : Nat) (b' : Int), k ≤ n + 1 ∧ v = .int .i64 k ∧ u = .int .i64 b' ∧ Hid (Sh.domB l a (n + 1 - k) b' = R)) (fun _ v => n + 1 - (intOf v).toNat)
  case atStart => exact ⟨0, b, by omega, rfl, rfl, HR⟩
  case round =>
    clear HR
    obtain ⟨k, b', hk, rfl, rfl, HR⟩ := hrel
    by_cases hlt : k < n + 1
    · have hltd : decide (k < n + 1) = true := decide_eq_true hlt
      have hltd2 : decide ((k : Int) < (n : Int) + 1) = true := decide_eq_true (by omega)
      have hltd3 : decide (k ≤ n) = true := decide_eq_true (by omega)
      have ek : IntKind.i64.wrap ((k : Int) + 1) = (k : Int) + 1 := IntWalk.i64_in _ (by omega)
      have hr := HR.out
      rw [show n + 1 - k = (n - k) + 1 from by omega] at hr
      unfold Sh.domB at hr
      rw [HL.out.1] at hr
      by_cases h0 : b' < 0
      · have hd : decide (b' < 0) = true := decide_eq_true h0
        rw [if_pos (.inl h0)] at hr
        have HR2 := Lib.hid hr
        clear hr
        go_wp2_with fail
        go_ret
        exact ⟨by rw [← HR2.out]; rfl, rfl⟩
      · have hd : decide (b' < 0) = false := decide_eq_false h0
        by_cases h1 : (n : Int) ≤ b'
        · have hd1 : decide ((n : Int) ≤ b') = true := decide_eq_true h1
          rw [if_pos (.inr h1)] at hr
          have HR2 := Lib.hid hr
          clear hr
          go_wp2_with fail
          go_ret
          exact ⟨by rw [← HR2.out]; rfl, rfl⟩
        · have hd1 : decide ((n : Int) ≤ b') = false := decide_eq_false h1
          rw [if_neg (by omega)] at hr
          by_cases h2 : a = b'
          · have he : (a == b') = true := by rw [beq_iff_eq]; exact h2
            rw [if_pos h2] at hr
            have HR2 := Lib.hid hr
            have H2 := Lib.hid h2
            clear hr h2
            go_wp2_with fail
            go_ret
            exact ⟨by rw [← HR2.out]; rfl, rfl⟩
          · have he : (a == b') = false := by rw [beq_eq_false_iff_ne]; exact h2
            rw [if_neg h2] at hr
            obtain ⟨y, rfl⟩ := Int.eq_ofNat_of_zero_le (show 0 ≤ b' by omega)
            have hyd : decide (y < n) = true := decide_eq_true (by omega)
            have hyd2 : decide (n ≤ y) = false := decide_eq_false (by omega)
            obtain ⟨ad, rfl, hc⟩ := HL.out.2.2 (by omega)
            obtain ⟨v, hv⟩ : ∃ v, l[y]? = some v := ⟨_, List.getElem?_eq_getElem (by rw [HL.out.1]; omega)⟩
            have cv := hc y v hv
            rw [Int.toNat_natCast, List.getD_eq_getElem?_getD, hv] at hr
            have HR2 : Hid (Sh.domB l a (n + 1 - (k + 1)) v = R) := Lib.hid (by rw [show n + 1 - (k + 1) = n - k from by omega]; exact hr)
            clear hr hc hv h2
            go_wp2_with fail
            exact ⟨⟨k + 1, v, by omega, by go_num, rfl, HR2⟩, by simp [intOf]; omega⟩
    · have hltd : decide (k < n + 1) = false := decide_eq_false hlt
      have hltd2 : decide ((k : Int) < (n : Int) + 1) = false := decide_eq_false (by omega)
      have hltd3 : decide (k ≤ n) = false := decide_eq_false (by omega)
      have hr := HR.out
      rw [show n + 1 - k = 0 from by omega] at hr
      have HR2 : Hid (false = R) := Lib.hid hr
      clear hr
      go_wp2_with fail
      go_ret
      exact ⟨by rw [← HR2.out]; rfl, rfl⟩
end Go.Proofs.Ytacdeollnhkckaa.C
