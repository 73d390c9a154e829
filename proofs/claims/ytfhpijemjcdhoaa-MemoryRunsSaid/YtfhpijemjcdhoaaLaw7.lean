/- The laws of memory: awake, MemoryNil, MemoryWraps: walks. -/
import Derived.Test.YtfhpijemjcdhoaaMem3
namespace Go.Proofs.Ytfhpijemjcdhoaa.C
open Go.RowKit
set_option linter.unusedSimpArgs false
set_option linter.unusedVariables false
theorem awake7_c (w : World) : Calls Try.prog 12 #[] w fun e w' => e = .returned (.bool true) ∧ Below w.heap.size w w' := by
  go_enter Try.func12, Try.ntmps12
  go_upto_region 4 with (go_at_call 7; refine (new_c _).mono ?_; rintro e w' ⟨rfl, hb1, hm1⟩)
  go_upto_region 5 with (go_at_call 8; refine (add_c w.heap.size w.heap.size 0 _ _ _ _ _ _ 5 3 _ hm1 (by omega) hb1.size).mono ?_; rintro e w' ⟨rfl, hb2, L, a, hm2⟩)
  have HB : Hid (Below w.heap.size w w') := Lib.hid (hb1.trans hb2)
  have HG : Hid (Calls Try.prog 10 #[.pointer (some ⟨w.heap.size, 0, none⟩), .int .i64 0, .int .i64 0] w' fun e w'' => e = .returned (.tuple #[.int .i64 0, .bool true]) ∧ w' = w'') := Lib.hid (get_in _ _ _ _ _ _ _ _ _ 0 0 _ hm2 (by omega) (sizeM_bd 3).1)
  clear hb1 hb2 hm1 hm2
  go_wp2_with (go_at_call 10; refine (HG.out).mono ?_; rintro e w' ⟨rfl, rfl⟩)
  go_ret
  exact ⟨rfl, HB.out⟩
set_option maxHeartbeats 1600000 in
theorem memoryNil_c (t id at' v : Int) (w : World) : Calls Try.prog 6 #[.int .i64 t, .int .i64 id, .int .i64 at', .int .i64 v] w fun e w' => e = .returned (.bool true) ∧ Below w.heap.size w w' := by
  go_enter Try.func6, Try.ntmps6
  go_upto_region 4 with (first | (go_at_call 18; refine (cut_nil id _).mono ?_; rintro e w' ⟨rfl, rfl⟩) | (go_at_call 10; refine (get_nil id at' _).mono ?_; rintro e w' ⟨rfl, rfl⟩))
  go_upto_region 5 with (go_at_call 14; refine (block_nil id _).mono ?_; rintro e w' ⟨rfl, hb⟩)
  have hbz := hb.size
  go_wp2_with (first | (go_at_call 8; refine (add_nil t at' _).mono ?_; rintro e w' ⟨rfl, rfl⟩) | (go_at_call 9; refine (set_nil id at' v _).mono ?_; rintro e w' ⟨rfl, rfl⟩) | (go_at_call 20; refine (len_nil _).mono ?_; rintro e w' ⟨rfl, rfl⟩) | (go_at_call 13; refine (copy_nil _).mono ?_; rintro e w' ⟨rfl, rfl⟩) | (go_at_call 12; refine (awake7_c _).mono ?_; rintro e w' ⟨rfl, hb2⟩))
  go_ret
  exact ⟨rfl, (by repeat' (first | exact Below.refl _ _ | (refine Below.alloc ?_ ?_ _) | (refine Below.setCell ?_ ?_ _) | (refine Below.drew ?_) | (refine below_next ?_ ?_ (by assumption)) | omega | (simp; done) | (simp; omega)))⟩
def wrapsM : Nat → Nat → Int := fun _ _ => 0
set_option maxHeartbeats 1600000 in
theorem memoryWraps_c (t v : Int) (w : World) (ht : 0 ≤ t ∧ t ≤ 255) (hv : -2147483648 ≤ v ∧ v ≤ 2147483647) : Calls Try.prog 3 #[.int .u8 t, .int .i32 v] w fun e w' => e = .returned (.bool true) ∧ Below w.heap.size w w' := by
  obtain ⟨k, hk⟩ : ∃ k, 1 + t % 6 = k := ⟨_, rfl⟩
  go_enter Try.func3, Try.ntmps3
  go_upto_region 4 with (go_at_call 7; refine (new_c _).mono ?_; rintro e w' ⟨rfl, hb1, hm1⟩)
  go_upto_region 5 with fail
  go_upto_region 6 with (go_at_call 8; refine (add_c w.heap.size w.heap.size 0 _ _ _ _ _ _ k 1 _ hm1 (by omega) hb1.size).mono ?_; rintro e w' ⟨rfl, hb2, L, a, hm2⟩)
  have HB2 : Hid (Below w.heap.size w w') := Lib.hid (hb1.trans hb2)
  have HS : Hid (Calls Try.prog 9 #[.pointer (some ⟨w.heap.size, 0, none⟩), .int .i64 0, .int .i64 0, .int .i64 v] w' fun e w'' => e = .returned (.bool true) ∧ Below w.heap.size w' w'' ∧ Calls Try.prog 10 #[.pointer (some ⟨w.heap.size, 0, none⟩), .int .i64 0, .int .i64 0] w'' fun e w3 => e = .returned (.tuple #[.int .i64 (wrapT k v), .bool true]) ∧ w'' = w3) :=
    Lib.hid ((set_in _ _ _ _ _ _ _ _ _ 0 0 v _ hm2 (by omega) (sizeM_bd 1).1 HB2.out.size).mono (by
      rintro e w'' ⟨rfl, hb3, hm3⟩
      exact ⟨rfl, hb3, get_in _ _ _ _ _ _ _ _ _ 0 0 _ hm3 (by omega) (sizeM_bd 1).1⟩))
  clear hb1 hb2 hm1 hm2
  have hv64 : IntKind.i64.wrap v = v := by simp [IntKind.wrap, IntKind.bits, IntKind.signed]; omega
  go_upto_region 7 with (go_at_call 9; refine (HS.out).mono ?_; rintro e w' ⟨rfl, hb3, hg⟩)
  have HB3 := Lib.hid (HB2.out.trans hb3)
  have HG := Lib.hid hg
  clear hb3 hg HB2 HS
  have hs3 := HB3.out.size
  go_upto_region 8 with (go_at_call 10; refine (HG.out).mono ?_; rintro e w' ⟨rfl, rfl⟩)
  go_wp2_with (first | (go_at_call 11; refine (r_wrap_c k v _).mono ?_; rintro e w' ⟨rfl, rfl⟩) | (go_at_call 12; refine (awake7_c _).mono ?_; rintro e w' ⟨rfl, hb4⟩))
  all_goals first | (go_ret; exact ⟨rfl, HB3.out.trans (hb4.mono hs3)⟩) | trace_state
end Go.Proofs.Ytfhpijemjcdhoaa.C
