/- Block of both memories out of range; SameBlock: walks. -/
import Derived.Test.YtkgdogdallojlaaMem15
namespace Go.Proofs.Ytkgdogdallojlaa.C
open Go.RowKit
set_option linter.unusedSimpArgs false
set_option linter.unusedVariables false
theorem block_s (base p n : Nat) (L : Value) (ts : Nat → Int) (ad ln cp : Nat → Nat) (f : Nat → Nat → Int) (i : Nat) (w : World) (hm : MS w base p L n ts ad ln cp f) (hi : i < n) :
    Calls Try.prog 19 #[.pointer (some ⟨p, 0, none⟩), .int .i64 i] w (BlockPost (ts i) (ln i) (f i) w) := by
  obtain ⟨g, cap, _, hv, _⟩ := hm.view (by omega)
  have := hm.hA i hi
  exact block_c p g n cap ts ad ln cp f i w hv hi ⟨this.2.2.2.2.1, this.2.2.2.2.2.1⟩
def NoBlock (w : World) (e : Ending) (w' : World) : Prop := e = .returned (.tuple #[.agg #[.int .i64 0, .slice none 0 0], .bool false]) ∧ Below w.heap.size w w'
theorem block_out (base p n : Nat) (L : Value) (ts : Nat → Int) (ad ln cp : Nat → Nat) (f : Nat → Nat → Int) (id : Int) (w : World) (hm : MS w base p L n ts ad ln cp f) (hid : ¬ (0 ≤ id ∧ id < n)) :
    Calls Try.prog 19 #[.pointer (some ⟨p, 0, none⟩), .int .i64 id] w (NoBlock w) := by
  have HA : Hid (∀ W : World, Below w.heap.size w W → Calls Try.prog 26 #[.pointer (some ⟨p, 0, none⟩), .int .i64 id, .int .i64 0] W fun e w' => e = .returned (.bool false) ∧ W = w') := Lib.hid (fun W hW => by
    have := has_s base p n L ts ad ln cp f id 0 W (hm.below hW)
    rwa [show hasM n ln id 0 = false from decide_eq_false (fun q => hid ⟨q.1, q.2.1⟩)] at this)
  clear hm hid
  go_enter Try.func19, Try.ntmps19
  go_wp2_with ((go_at_call 26; refine (HA.out _ (by repeat' (first | exact Below.refl _ _ | (refine Below.alloc ?_ ?_ _) | (refine Below.setCell ?_ ?_ _) | (refine Below.drew ?_) | (refine below_next ?_ ?_ (by assumption)) | omega | (simp; done) | (simp; omega)))).mono ?_; rintro e w' ⟨rfl, rfl⟩))
  exact bodyPost_ret (v := .tuple #[.agg #[.int .i64 0, .slice none 0 0], .bool false]) (by simp [results, Try.results19, go_sem, *]) rfl ⟨rfl, (by repeat' (first | exact Below.refl _ _ | (refine Below.alloc ?_ ?_ _) | (refine Below.setCell ?_ ?_ _) | (refine Below.drew ?_) | (refine below_next ?_ ?_ (by assumption)) | omega | (simp; done) | (simp; omega)))⟩
theorem rblock_out (base p n : Nat) (L : Value) (ts : Nat → Int) (ad ln cp : Nat → Nat) (f : Nat → Nat → Int) (id : Int) (w : World) (hm : MS w base p L n ts ad ln cp f) (hid : ¬ (0 ≤ id ∧ id < n)) :
    Calls Try.prog 22 #[.pointer (some ⟨p, 0, none⟩), .int .i64 id] w (NoBlock w) := by
  have hpw := hm.hp.2
  have ne1 : ¬ w.heap.size = p := by omega
  obtain ⟨ao, cap, hL, _⟩ := hm.own.form
  have c0 : w.cell? ⟨p, 0, none⟩ = some (.slice ao n cap) := by rw [← hL]; exact hm.cell
  have ca := cell_later ((Below.refl w.heap.size w).alloc (Nat.le_refl _) (.cells #[.int .i64 0, .slice none 0 0] 52)) c0
  clear hm hL
  by_cases h1 : 0 ≤ id
  · obtain ⟨i, rfl⟩ := Int.eq_ofNat_of_zero_le h1
    have k0 : decide ((i : Int) < 0) = false := decide_eq_false (by omega)
    have g1 : decide (n ≤ i) = true := decide_eq_true (by omega)
    clear h1 hid
    go_enter Try.func22, Try.ntmps22
    go_wp2_with fail
    exact bodyPost_ret (v := .tuple #[.agg #[.int .i64 0, .slice none 0 0], .bool false]) (by simp [results, Try.results22, go_sem, *]) rfl ⟨rfl, (by repeat' (first | exact Below.refl _ _ | (refine Below.alloc ?_ ?_ _) | (refine Below.setCell ?_ ?_ _) | (refine Below.drew ?_) | (refine below_next ?_ ?_ (by assumption)) | omega | (simp; done) | (simp; omega)))⟩
  · have g3 : decide (id < 0) = true := decide_eq_true (by omega)
    have g4 : id < 0 := by omega
    clear h1 hid
    go_enter Try.func22, Try.ntmps22
    go_wp2_with fail
    exact bodyPost_ret (v := .tuple #[.agg #[.int .i64 0, .slice none 0 0], .bool false]) (by simp [results, Try.results22, go_sem, *]) rfl ⟨rfl, (by repeat' (first | exact Below.refl _ _ | (refine Below.alloc ?_ ?_ _) | (refine Below.setCell ?_ ?_ _) | (refine Below.drew ?_) | (refine below_next ?_ ?_ (by assumption)) | omega | (simp; done) | (simp; omega)))⟩
end Go.Proofs.Ytkgdogdallojlaa.C
