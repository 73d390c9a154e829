/- CellsStrong: walk. -/
import Derived.Test.YtkeofaklkbjnkaaCellAw
import Derived.BigQuiet
namespace Go.Proofs.Ytkeofaklkbjnkaa.C
open Go.RowKit
set_option linter.unusedSimpArgs false
set_option linter.unusedVariables false
attribute [local go_sem] fieldItv0 fieldItv1
theorem writeC_one (r : Nat → Int × Int) (k : Nat) (v : Int) (i : Nat) : writeC r k k v v i = if i = k then (v, v) else r i := by
  unfold writeC toldI
  by_cases e : i = k
  · rw [if_pos e, if_pos (by omega), if_pos rfl, if_neg (by omega)]
  · rw [if_neg e, if_neg (by omega)]
theorem readC_out (r : Nat → Int × Int) (a b : Int) (n : Nat) (h : (n : Int) ≤ a) : readC r a b n = (1, 0) := by
  induction n with
  | zero => rfl
  | succ n ih => rw [readC, if_neg (by omega)]; exact ih (by omega)
set_option maxRecDepth 100000 in
set_option maxHeartbeats 6400000 in
theorem cellsStrong_c (size at' v : Int) (w : World) (hs : 0 ≤ size ∧ size ≤ 255) (ha : 0 ≤ at' ∧ at' ≤ 255) (hv : -32768 ≤ v ∧ v ≤ 32767) :
    Calls Try.prog 3 #[.int .u8 size, .int .u8 at', .int .i16 v] w fun e w' => e = .returned (.bool true) ∧ Below w.heap.size w w' := by
  obtain ⟨hs1, hs2⟩ := hs
  obtain ⟨ha1, ha2⟩ := ha
  obtain ⟨hv1, hv2⟩ := hv
  obtain ⟨N, hN⟩ : ∃ N : Nat, 1 + size % 16 = (N : Int) := ⟨(1 + size % 16).toNat, by omega⟩
  have hN1 : 1 ≤ N ∧ N ≤ 16 := by omega
  obtain ⟨K, hK⟩ : ∃ K : Nat, at' % ((N : Int) + 3) = (K : Int) := ⟨(at' % ((N : Int) + 3)).toNat, by rw [Int.toNat_of_nonneg (Int.emod_nonneg _ (by omega))]⟩
  have hK2 : K < N + 3 := by have := Int.emod_lt_of_pos at' (show (0 : Int) < (N : Int) + 3 by omega); omega
  have hT : topN (N : Int) = N := by unfold topN; omega
  have HT := Lib.hid hT
  have HN := Lib.hid hN1
  have HK2 := Lib.hid hK2
  have hn3 : ((N : Int) + 3 = 0) = False := by simp; omega
  have hn4 : (0 : Int) ≤ (N : Int) + 3 := by omega
  clear hT hK2
  go_enter Try.func3, Try.ntmps3
  go_upto_region 3 with (go_at_call 6; refine (top_c 3 N _).mono ?_; rintro e w1 ⟨A, c, rfl, ho, hb⟩; rw [HT.out] at ho; rw [HT.out]; have HO := Lib.hid (And.intro ho hb); clear ho hb)
  go_upto_region 4 with fail
  simp only [hK]
  clear hn3 hn4 ha1 ha2 hs1 hs2 hK hN
  go_upto_region 5 with fail
  have hal := HO.out.2.alloc HO.out.2.size (.cells #[.int .i64 v, .int .i64 v] 26)
  refine at_world (fun W => Hid (Below w.heap.size w W ∧ OI W w.heap.size A N c (fun _ => ofI 3) ∧ Bx w1.heap.size W v v)) (Lib.hid ⟨hal, HO.out.1.below ((Below.refl _ _).alloc (Nat.le_refl _) _), Bx.new _ _ _ _⟩) ?_
  obtain ⟨bw, hbw⟩ : ∃ b, w1.heap.size = b := ⟨_, rfl⟩
  simp only [hbw]
  clear hal HO hbw w1
  intro W1 H1
  have k1 := H1.out.2.2.2.1
  go_upto_region 6 with (go_at_call 7; refine (write_c A N c (fun _ => ofI 3) K K v v _ (by omega) H1.out.2.1.cr).mono ?_; rintro e w2 ⟨A2, c2, rfl, ho, hb⟩)
  refine at_world (fun W => Hid (Below w.heap.size w W ∧ OI W w.heap.size A N c (fun _ => ofI 3) ∧ Bx bw W v v ∧ OI W w.heap.size A2 N c2 (writeC (fun _ => ofI 3) K K v v))) (Lib.hid ⟨below_next H1.out.1 H1.out.1.size hb, H1.out.2.1.below hb, H1.out.2.2.below hb, ho.mono H1.out.1.size⟩) ?_
  clear ho hb k1 H1 w2 W1
  intro W2 H2
  obtain ⟨z, hz⟩ : ∃ z, ofI 3 = z := ⟨_, rfl⟩
  rw [hz] at H2
  clear hz
  go_wp2_with fail
  go_loopw [12] (fun i wr => ∃ k : Nat, k ≤ N ∧ i = .int .i64 k ∧ Hid (Below w.heap.size w wr ∧ OI wr w.heap.size A N c (fun _ => z) ∧ Bx bw wr v v ∧ OI wr w.heap.size A2 N c2 (writeC (fun _ => z) K K v v))) (fun i _ => N - (intOf i).toNat)
  case atStart => exact ⟨0, by omega, rfl, H2⟩
  case round =>
    clear H2
    obtain ⟨k, hk, rfl, HI⟩ := hrel
    by_cases hlt : k < N
    · have hk0 : (0 : Int) ≤ (k : Int) := by omega
      have hk1 : (k : Int) < (N : Int) := by omega
      obtain ⟨g1, rfl, _, _, c0, c1, _⟩ := HI.out.2.1.at hlt
      obtain ⟨g2, rfl, _, _, e0, e1, _⟩ := HI.out.2.2.2.at hlt
      have b0 := HI.out.2.2.1.2.1
      rw [writeC_one] at e0 e1
      obtain ⟨wo, rfl⟩ : ∃ wo : World, wo = wr := ⟨_, rfl⟩
      have d0 := fun (x' : WIn (Below wo.heap.size wo)) => cell_later x'.h c0
      have d1 := fun (x' : WIn (Below wo.heap.size wo)) => cell_later x'.h c1
      have d2 := fun (x' : WIn (Below wo.heap.size wo)) => cell_later x'.h e0
      have d3 := fun (x' : WIn (Below wo.heap.size wo)) => cell_later x'.h e1
      have d4 := fun (x' : WIn (Below wo.heap.size wo)) => (HI.out.2.2.1.below x'.h).2.1
      clear c0 c1 e0 e1 b0
      by_cases he : k = K
      · simp only [if_pos he] at d2 d3
        subst he
        go_upto_region 11 with fail
        refine region_in (Below wo.heap.size wo) (by kernel_rfl) (by kernel_rfl) (Below.refl _ _).drew (fun inst => ?_)
        iterate 27 (go_big_quiet_step (fail))
        refine wpQuiet_nil ?_
        intro wd hbd
        clear d0 d1 d2 d3 d4
        have H4 : Hid (Below w.heap.size w wd ∧ OI wd w.heap.size (some ⟨g1, 0, none⟩) N c (fun _ => z) ∧ Bx bw wd v v ∧ OI wd w.heap.size (some ⟨g2, 0, none⟩) N c2 (writeC (fun _ => z) k k v v)) := Lib.hid ⟨below_next HI.out.1 HI.out.1.size hbd, HI.out.2.1.below hbd, HI.out.2.2.1.below hbd, HI.out.2.2.2.below hbd⟩
        go_wp2_with fail
        all_goals exact ⟨⟨k + 1, by omega, by go_num, H4⟩, by simp [intOf]; omega⟩
      · simp only [if_neg he] at d2 d3
        have ge : ((k : Int) == (K : Int)) = false := by rw [beq_eq_false_iff_ne]; omega
        have gn : ((k : Int) != (K : Int)) = true := by rw [bne_iff_ne]; omega
        clear he
        go_upto_region 11 with fail
        refine region_in (Below wo.heap.size wo) (by kernel_rfl) (by kernel_rfl) (Below.refl _ _).drew (fun inst => ?_)
        iterate 27 (go_big_quiet_step (fail))
        refine wpQuiet_nil ?_
        intro wd hbd
        clear d0 d1 d2 d3 d4
        have H4 : Hid (Below w.heap.size w wd ∧ OI wd w.heap.size (some ⟨g1, 0, none⟩) N c (fun _ => z) ∧ Bx bw wd v v ∧ OI wd w.heap.size (some ⟨g2, 0, none⟩) N c2 (writeC (fun _ => z) K K v v)) := Lib.hid ⟨below_next HI.out.1 HI.out.1.size hbd, HI.out.2.1.below hbd, HI.out.2.2.1.below hbd, HI.out.2.2.2.below hbd⟩
        go_wp2_with fail
        all_goals exact ⟨⟨k + 1, by omega, by go_num, H4⟩, by simp [intOf]; omega⟩
    · obtain rfl : k = N := by omega
      by_cases hK : K < k
      · have g : decide ((K : Int) < (k : Int)) = true := decide_eq_true (by omega)
        clear hk hlt
        go_wp2_with (go_at_call 10; refine (awake17_c _).mono ?_; rintro e w4 ⟨rfl, hb4⟩; have H4 := Lib.hid hb4; clear hb4)
        go_ret
        exact ⟨rfl, below_next HI.out.1 HI.out.1.size H4.out⟩
      · have g : decide ((K : Int) < (k : Int)) = false := decide_eq_false (by omega)
        have hKb : (K : Int) ≤ 30 := by have := HK2.out; have := HN.out.2; omega
        have hKc : (0 : Int) ≤ (K : Int) := by omega
        have RD := fun W (h : CR W A2 k (writeC (fun _ => z) K K v v)) => read_c A2 k c2 _ K ((K : Int) + 9) W h
        simp only [readC_out _ K ((K : Int) + 9) k (by omega)] at RD
        clear hk hlt
        go_wp2_with (first | (go_at_call 9; refine (RD _ HI.out.2.2.2.cr).mono ?_; rintro e w4 ⟨rfl, hb4⟩; have H4 := Lib.hid hb4; clear hb4) | (go_at_call 8; refine (riEmpty_x _ _ _).mono ?_; rintro e w5 ⟨rfl, rfl⟩) | (go_at_call 10; refine (awake17_c _).mono ?_; rintro e w6 ⟨rfl, hb6⟩; have H6 := Lib.hid hb6; clear hb6))
        go_ret
        exact ⟨rfl, below_next (below_next HI.out.1 HI.out.1.size (H4.out.alloc H4.out.size _)) (by have := HI.out.1.size; have := H4.out.size; simp; omega) H6.out⟩
end Go.Proofs.Ytkeofaklkbjnkaa.C
