/- memory.Set, with what it leaves alone: a walk; small facts. -/
import Derived.Test.YtkgdogdallojlaaMem7
namespace Go.Proofs.Ytkgdogdallojlaa.C
open Go.RowKit
set_option linter.unusedSimpArgs false
set_option linter.unusedVariables false
set_option maxHeartbeats 1600000 in
theorem set_in2 (base p n : Nat) (L : Value) (ts : Nat → Int) (ad ln cp : Nat → Nat) (f : Nat → Nat → Int) (i j : Nat) (v : Int) (w : World) (hm : MR w base p L n ts ad ln cp f) (hi : i < n) (hj : j < ln i) (hb0 : base ≤ w.heap.size) :
    Calls Try.prog 14 #[.pointer (some ⟨p, 0, none⟩), .int .i64 i, .int .i64 j, .int .i64 v] w fun e w' => e = .returned (.bool true) ∧ Below base w w' ∧ MR w' base p L n ts ad ln cp (setF f i j (wrapT (ts i) v)) ∧ ∀ b, b < w.heap.size → b ≠ ad i → w'.heap[b]? = w.heap[b]? := by
  have HA := Lib.hid (has_in base p n L ts ad ln cp f i j w hm hi hj)
  have HM := Lib.hid hm
  have HAi := Lib.hid (hm.hA i hi)
  obtain ⟨g, cap, rfl, hcap, _, _, _, _, hc⟩ := hm.row (by omega)
  have c0 := hm.cell
  obtain ⟨c1, c2⟩ := hc i hi
  clear hc hm hcap
  have hk0 : (0 : Int) ≤ (i : Int) := by omega
  have hk1 : (i : Int) < (n : Int) := by omega
  have hk2 : (0 : Int) ≤ (j : Int) := by omega
  have hk3 : (j : Int) < (ln i : Int) := by omega
  go_enter Try.func14, Try.ntmps14
  go_upto_region 3 with ((go_at_call 26; refine (HA.out).mono ?_; rintro e w' ⟨rfl, rfl⟩))
  obtain ⟨wo, rfl⟩ : ∃ wo : World, wo = w := ⟨_, rfl⟩
  have d0 := fun (x' : WIn (Below wo.heap.size wo)) => cell_later x'.h c0
  have d1 := fun (x' : WIn (Below wo.heap.size wo)) => cell_later x'.h c1
  have d2 := fun (x' : WIn (Below wo.heap.size wo)) => cell_later x'.h c2
  clear c0 c1 c2
  refine region_tail 20 (Below wo.heap.size wo) (by kernel_rfl) (by kernel_rfl) (Below.refl _ _).drew (fun inst => ?_)
  simp only [List.take_succ_cons, List.take_zero, List.drop_succ_cons, List.drop_zero]
  iterate 20 (go_big_quiet_step ((go_at_call 27; exact call_same _ (wrap_c (ts i) v _))))
  refine wpQuiet_nil ?_
  intro wd hbd
  have HD := Lib.hid (HM.out.below hbd)
  have k4 : wd.cell? ⟨ad i, j, none⟩ = some (.int .i64 (f i j)) := HD.out.inner i j hi hj
  have f4 : wd.frozen? ⟨ad i, j, none⟩ = false := HD.out.ifrz i j hi hj
  have HR : Hid (Below base wo (wd.setCell ⟨ad i, j, none⟩ (.int .i64 (wrapT (ts i) v))) ∧ MR (wd.setCell ⟨ad i, j, none⟩ (.int .i64 (wrapT (ts i) v))) base p (.slice (some ⟨g, 0, none⟩) n cap) n ts ad ln cp (setF f i j (wrapT (ts i) v)) ∧ ∀ b, b < wo.heap.size → b ≠ ad i → (wd.setCell ⟨ad i, j, none⟩ (.int .i64 (wrapT (ts i) v))).heap[b]? = wo.heap[b]?) := Lib.hid ⟨(hbd.mono hb0).setCell (p := ⟨ad i, j, none⟩) HAi.out.1 _, HD.out.set hi hj _, fun b hb hne => (Below.heap_setCell wd ⟨ad i, j, none⟩ _ b hne).trans (hbd.block b hb)⟩
  clear d0 d1 d2
  go_wp2_with fail
  go_ret
  exact ⟨rfl, HR.out⟩
theorem sizeM_in (z : Int) : ((sizeM (1 + z % 16) : Nat) : Int) = 1 + z % 16 := by rw [sizeM_eq]; omega
theorem wrapT5 (v : Int) (hv : -32768 ≤ v ∧ v ≤ 32767) : wrapT 5 v = v := by unfold wrapT; simp; omega
theorem rem_nat (a : Int) (n : Nat) (h : 1 ≤ n) : ∃ q : Nat, a % (n : Int) = q ∧ q < n := by
  have h0 := Int.emod_nonneg a (show (n : Int) ≠ 0 by omega)
  have h1 := Int.emod_lt_of_pos a (show (0 : Int) < n by omega)
  exact ⟨(a % (n : Int)).toNat, by omega, by omega⟩
theorem MV.lt {w : World} {p g n cap : Nat} {ts : Nat → Int} {ad ln cp : Nat → Nat} {f : Nat → Nat → Int} (h : MV w p g n cap ts ad ln cp f) (hn : 1 ≤ n) (hl : ∀ i, i < n → 1 ≤ ln i) : p < w.heap.size ∧ g < w.heap.size ∧ ∀ i, i < n → ad i < w.heap.size :=
  ⟨World.block_lt_of_cell? w _ h.cell, World.block_lt_of_cell? w _ (h.rows 0 (by omega)).1, fun i hi => World.block_lt_of_cell? w _ (h.inner i 0 hi (by have := hl i hi; omega))⟩
end Go.Proofs.Ytkgdogdallojlaa.C
