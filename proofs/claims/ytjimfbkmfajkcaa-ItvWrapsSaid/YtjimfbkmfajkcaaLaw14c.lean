/- The walk of the law ItvWraps, out of the contracts of what it calls. -/
import Derived.Test.YtjimfbkmfajkcaaLaw14
namespace Go.Proofs.Ytjimfbkmfajkcaa.C
open Go.RowKit
set_option linter.unusedSimpArgs false
set_option linter.unusedVariables false
attribute [local go_sem] fieldItv0 fieldItv1
theorem wfu8 {x : Int} (h : (Lit.int .u8 x).wf = true) : 0 ≤ x ∧ x ≤ 255 := by
  have : IntKind.min .u8 ≤ x ∧ x ≤ IntKind.max .u8 := by simpa [Lit.wf] using h
  simpa [IntKind.min, IntKind.max, IntKind.signed, IntKind.bits] using this
theorem wfu16 {x : Int} (h : (Lit.int .u16 x).wf = true) : 0 ≤ x ∧ x ≤ 65535 := by
  have : IntKind.min .u16 ≤ x ∧ x ≤ IntKind.max .u16 := by simpa [Lit.wf] using h
  simpa [IntKind.min, IntKind.max, IntKind.signed, IntKind.bits] using this
theorem wraps_plain (k a b v : Int) (hk : isT k) (h1 : a ≤ v) (h2 : v ≤ b) :
    (decide ((wrapI k a b).1 ≤ wrapT k v ∧ wrapT k v ≤ (wrapI k a b).2) = true) ∧ leI (wrapI k a b).1 (wrapI k a b).2 (ofI k).1 (ofI k).2 = true ∧ (leI a b (ofI k).1 (ofI k).2 = true → wrapI k a b = (a, b)) := by
  simp only [leI, decide_eq_true_eq, wrapI, ofI, hk, not_true, or_false, if_neg (show ¬ b < a by omega), if_true]
  unfold isT at hk
  rcases hk with rfl | rfl | rfl | rfl | rfl | rfl <;> simp only [minT, maxT, wrapT, if_pos, Int.reduceEq, if_false] <;> (refine ⟨?_, ?_, ?_⟩ <;> split <;> simp only [Prod.mk.injEq] <;> omega)
set_option maxRecDepth 100000 in
set_option maxHeartbeats 3200000 in
theorem itvWrapsLaw_c (a0 a1 a2 a3 : Int) (w : World) (h0 : 0 ≤ a0 ∧ a0 ≤ 255) (h1 : -2147483648 ≤ a1 ∧ a1 ≤ 2147483647) (h2 : 0 ≤ a2 ∧ a2 ≤ 65535) (h3 : 0 ≤ a3 ∧ a3 ≤ 65535) :
    Calls Try.prog 9 #[.int .u8 a0, .int .i32 a1, .int .u16 a2, .int .u16 a3] w fun e w' => e = .returned (.bool true) ∧ Below w.heap.size w w' := by
  obtain ⟨k, hk, ek⟩ : ∃ n, isT n ∧ 1 + a0 % 6 = n := ⟨1 + a0 % 6, by unfold isT; omega, rfl⟩
  obtain ⟨m, em⟩ : ∃ m, a3 % (a2 + 1) = m := ⟨_, rfl⟩
  have hm : 0 ≤ m ∧ m ≤ a2 := by
    rw [← em]
    exact ⟨Int.emod_nonneg _ (by omega), by have := Int.emod_lt_of_pos a3 (show 0 < a2 + 1 by omega); omega⟩
  obtain ⟨P1, P2, P3⟩ := wraps_plain k a1 (a1 + a2) (a1 + m) hk (by omega) (by omega)
  have WB := wrapT_bd k (a1 + m)
  have HW := fun W => itvWrap_c k a1 (a1 + a2) W (by omega) (by omega) (by omega) (by omega)
  have HH := fun W => itvHas_c (wrapI k a1 (a1 + a2)).1 (wrapI k a1 (a1 + a2)).2 (wrapT k (a1 + m)) W
  have HL1 := fun W => itvLe_c (wrapI k a1 (a1 + a2)).1 (wrapI k a1 (a1 + a2)).2 (ofI k).1 (ofI k).2 W
  have HL2 := fun W => itvLe_c a1 (a1 + a2) (ofI k).1 (ofI k).2 W
  have HR := fun W => r_wrap_c k (a1 + m) W
  have HO := fun W => itvOf_c k W
  rw [P1] at HH
  rw [P2] at HL1
  obtain ⟨b, eb⟩ : ∃ b, a1 + a2 = b := ⟨_, rfl⟩
  have EB : Hid (a1 + a2 = b) := eb
  obtain ⟨q, eq⟩ : ∃ q, wrapI k a1 (a1 + a2) = q := ⟨_, rfl⟩
  obtain ⟨o, eo⟩ : ∃ q, ofI k = q := ⟨_, rfl⟩
  obtain ⟨z, ez⟩ : ∃ q, wrapT k (a1 + m) = q := ⟨_, rfl⟩
  rw [eq] at HW HH HL1 P3
  rw [eo] at HL1 HL2 HO P3
  rw [ez] at HH HR
  clear eb P1 P2 WB eq eo ez
  go_enter Try.func9, Try.ntmps9
  go_wp2_with fail
  refine (HW _).mono ?_
  rintro e w' ⟨rfl, hb⟩
  have hbz := hb.size
  simp at hbz
  have hk := fun o => hb.cell (p := ⟨w.heap.size, o, none⟩) (by simp)
  have hk : ∀ o, w'.cell? ⟨w.heap.size, o, none⟩ = [Value.int .i64 a1, Value.int .i64 (a1 + a2)][o]? := by intro o; rw [hk o]; simp [go_sem]
  go_upto_region 5 with (fail)
  refine at_world (fun W => Hid (Below w.heap.size w W) ∧ w'.heap.size < W.heap.size ∧ w.heap.size < W.heap.size ∧ (∀ o, W.cell? ⟨w.heap.size, o, none⟩ = [Value.int .i64 a1, Value.int .i64 (a1 + a2)][o]?) ∧ (∀ o, W.cell? ⟨w'.heap.size, o, none⟩ = [Value.int .i64 q.1, Value.int .i64 q.2][o]?)) ⟨(by repeat' (first | exact Below.refl _ _ | (refine Below.alloc ?_ ?_ _) | (refine Below.setCell ?_ ?_ _) | (refine Below.drew ?_) | (refine below_next ?_ ?_ (by assumption)) | omega | (simp; done) | (simp; omega))), (by simp), (by simp; omega), (by intro o; have hB : Below w'.heap.size w' (w'.alloc (Obj.cells #[Value.int IntKind.i64 q.fst, Value.int IntKind.i64 q.snd] 57)) := (by repeat' (first | exact Below.refl _ _ | (refine Below.alloc ?_ ?_ _) | (refine Below.setCell ?_ ?_ _) | (refine Below.drew ?_) | (refine below_next ?_ ?_ (by assumption)) | omega | (simp; done) | (simp; omega))); exact (hB.cell (p := ⟨w.heap.size, o, none⟩) (by simp; omega)).trans (hk o)), (by intro o; simp [go_sem])⟩ ?_
  rintro W ⟨HB, hs1, hs2, k1, k2⟩
  clear hk hb hbz
  have q1 := fun (x : WIn (Below W.heap.size W)) (o : Nat) => (x.h.cell (p := ⟨w.heap.size, o, none⟩) (by simp; omega)).trans (k1 o)
  have q2 := fun (x : WIn (Below W.heap.size W)) (o : Nat) => (x.h.cell (p := ⟨w'.heap.size, o, none⟩) (by simp; omega)).trans (k2 o)
  by_cases hL : leI a1 (a1 + a2) o.1 o.2 = true
  · rw [hL] at HL2
    obtain ⟨rfl⟩ : q = (a1, a1 + a2) := P3 hL
    clear P3 hL k1 k2
    refine region_in (Below W.heap.size W) (by kernel_rfl) (by kernel_rfl) (Below.refl _ _).drew (fun inst => ?_)
    repeat (go_big_quiet_step (first | (go_at_call 32; exact call_same _ (HR _)) | (go_at_call 38; exact call_grow (Nat.le_refl _) (HH _)) | (go_at_call 40; exact call_grow (Nat.le_refl _) (HO _)) | (go_at_call 39; exact call_grow (Nat.le_refl _) (HL1 _)) | (go_at_call 41; exact call_grow (Nat.le_refl _) (awake14_c _))))
    refine wpQuiet_nil ?_
    intro wd hbd
    go_wp2
    go_ret
    exact ⟨rfl, HB.out.trans (hbd.mono HB.out.size)⟩
  · rw [Bool.eq_false_iff.mpr hL] at HL2
    clear P3 hL k1 k2
    refine region_in (Below W.heap.size W) (by kernel_rfl) (by kernel_rfl) (Below.refl _ _).drew (fun inst => ?_)
    repeat (go_big_quiet_step (first | (go_at_call 32; exact call_same _ (HR _)) | (go_at_call 38; exact call_grow (Nat.le_refl _) (HH _)) | (go_at_call 40; exact call_grow (Nat.le_refl _) (HO _)) | (go_at_call_of 39 (Value.int .i64 q.1); exact call_grow (Nat.le_refl _) (HL1 _)) | (go_at_call_of 39 (Value.int .i64 a1); exact call_grow (Nat.le_refl _) (HL2 _)) | (go_at_call 41; exact call_grow (Nat.le_refl _) (awake14_c _))))
    refine wpQuiet_nil ?_
    intro wd hbd
    go_wp2
    go_ret
    exact ⟨rfl, HB.out.trans (hbd.mono HB.out.size)⟩
end Go.Proofs.Ytjimfbkmfajkcaa.C
