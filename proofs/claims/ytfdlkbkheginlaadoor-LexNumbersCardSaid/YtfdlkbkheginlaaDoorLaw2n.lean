/- The walk of LexNumbers. -/
import Derived.Test.YtfdlkbkheginlaaDoorLaw2
import Derived.Test.YtfdlkbkheginlaaDoorLexDig
namespace Go.Proofs.YtfdlkbkheginlaaDoor.C
open Go.RowKit
set_option linter.unusedSimpArgs false
set_option linter.unusedVariables false
set_option maxRecDepth 100000 in
set_option maxHeartbeats 6400000 in
theorem lexNumbers_c (aL aW : Addr) (a : Int) (b : Bool) (w : World) (hg : GL aL aW w) (ha : 0 ≤ a ∧ a ≤ 4294967295) : Calls Tryd.prog 6 #[.int .u32 a, .bool b] w fun e w' => e = .returned (.bool true) ∧ Below w.heap.size w w' := by
  obtain ⟨n, rfl⟩ : ∃ n : Nat, a = (n : Int) := ⟨a.toNat, by omega⟩
  have hn : n < 4294967296 := by omega
  have n1 := fun (E : Int) (W : World) => num_c E W
  have hcat : IntKind.i64.max = 9223372036854775807 := rfl
  have hw : IntKind.i64.wrap (n : Int) = (n : Int) := IntWalk.i64_in _ (by omega)
  cases b
  · obtain ⟨S, hS⟩ : ∃ S : ByteArray, (⟨(digN n).toArray⟩ : ByteArray) = S := ⟨_, rfl⟩
    have hS0 := hS
    rw [show digN n = numS n false by unfold numS; simp] at hS
    by_cases hf : n ≤ 2147483647
    · have gf : decide ((n : Int) ≤ 2147483647) = true := decide_eq_true (by omega)
      have hdS : S.data.toList = numS n false := by rw [← hS]
      have hzS : S.size ≤ 11 := by rw [Lib.size_eq, hdS]; have := digN_10 hn; unfold numS; simp; omega
      obtain ⟨J1, hJ1⟩ : ∃ J : ByteArray, (⟨#[32]⟩ ++ S) ++ ⟨#[32]⟩ = J := ⟨_, rfl⟩
      obtain ⟨J0, hJ0⟩ : ∃ J : ByteArray, ⟨#[32]⟩ ++ S = J := ⟨_, rfl⟩
      obtain ⟨J2, hJ2⟩ : ∃ J : ByteArray, ⟨#[48]⟩ ++ S = J := ⟨_, rfl⟩
      obtain ⟨J3, hJ3⟩ : ∃ J : ByteArray, ⟨#[32, 48]⟩ ++ S = J := ⟨_, rfl⟩
      obtain ⟨J4, hJ4⟩ : ∃ J : ByteArray, S ++ ⟨#[57, 57, 57, 57, 57, 57, 57, 57, 57, 57]⟩ = J := ⟨_, rfl⟩
      rw [hJ0] at hJ1
      have d0 : J0.data.toList = [32] ++ numS n false := by rw [← hJ0, ByteArray.data_append, Array.toList_append, hdS]
      have d1 : J1.data.toList = [32] ++ numS n false ++ [32] := by rw [← hJ1, ByteArray.data_append, Array.toList_append, d0]
      have d2 : J2.data.toList = 48 :: numS n false := by rw [← hJ2, ByteArray.data_append, Array.toList_append, hdS]; rfl
      have d3 : J3.data.toList = [32, 48] ++ numS n false := by rw [← hJ3, ByteArray.data_append, Array.toList_append, hdS]
      have d4 : J4.data.toList = numS n false ++ nines := by rw [← hJ4, ByteArray.data_append, Array.toList_append, hdS]; rfl
      have z0 : J0.size = S.size + 1 := by rw [← hJ0, ByteArray.size_append, show (ByteArray.mk #[32]).size = 1 from rfl]; omega
      have z1 : J1.size = S.size + 2 := by rw [← hJ1, ByteArray.size_append, z0]; rfl
      have z2 : J2.size = S.size + 1 := by rw [← hJ2, ByteArray.size_append, show (ByteArray.mk #[48]).size = 1 from rfl]; omega
      have z3 : J3.size = S.size + 2 := by rw [← hJ3, ByteArray.size_append, show (ByteArray.mk #[32, 48]).size = 2 from rfl]; omega
      have z4 : J4.size = S.size + 10 := by rw [← hJ4, ByteArray.size_append]; rfl
      have y0 : (ByteArray.mk #[32]).size = 1 := rfl
      have y1 : (ByteArray.mk #[48]).size = 1 := rfl
      have y2 : (ByteArray.mk #[32, 48]).size = 2 := rfl
      have y3 : (ByteArray.mk #[57, 57, 57, 57, 57, 57, 57, 57, 57, 57]).size = 10 := rfl
      have v1 := num_value hn false
      obtain ⟨E2, hE2, v2⟩ := num_zero hn false
      have r1 := num_blanks hn false
      obtain ⟨E3, hE3, r3⟩ := num_zero_lex hn false
      obtain ⟨E4, hE4, r4⟩ := num_nines hn false
      rw [if_pos (.inr hf)] at v1 r1
      simp only [Bool.false_eq_true, if_false] at v1
      rw [← hdS] at v1
      rw [← d2] at v2
      rw [← d1] at r1
      rw [← d3] at r3
      rw [← d4] at r4
      have N1 := fun (W : World) (hW : Below w.heap.size w W) => number1_c aL aW S W (hg.below hW) (by omega)
      have N2 := fun (W : World) (hW : Below w.heap.size w W) => number1_c aL aW J2 W (hg.below hW) (by omega)
      simp only [v1] at N1
      simp only [v2] at N2
      have hz : decide (E2 = 0) = false := decide_eq_false (by omega)
      rw [hz] at N2
      have L1 := fun (W : World) (hW : Below w.heap.size w W) => lex_say (hg.below hW) (by omega) r1 (n := 2) rfl
      have L3 := fun (W : World) (hW : Below w.heap.size w W) => lex_say (hg.below hW) (by omega) r3 (n := 0) rfl
      have L4 := fun (W : World) (hW : Below w.heap.size w W) => lex_say (hg.below hW) (by omega) r4 (n := 0) rfl
      have LA := fun (W : World) (hW : Below w.heap.size w W) => awake2_c aL aW W (hg.below hW)
      have DG := digits_c n hn w
      have g4 : (E4 != 0) = true := by rw [bne_iff_ne]; exact hE4
      have gn : ((n : Int) == (n : Int)) = true := by simp
      have HN1 := Lib.hid N1
      have HN2 := Lib.hid N2
      have HL1 := Lib.hid L1
      have HL3 := Lib.hid L3
      have HL4 := Lib.hid L4
      have HLA := Lib.hid LA
      clear N1 N2 L1 L3 L4 LA d0 d1 d2 d3 d4 v1 v2 r1 r3 r4 hg hE4 hE2 hz hdS
      rw [hS0] at DG
      rcases hE3 with rfl | rfl
      · go_enter Tryd.func6, Tryd.ntmps6
        go_upto_region 12 with (first | (go_at_call 10; refine DG.mono ?_; rintro e w0 ⟨rfl, hb0⟩; have C1 := HN1.out _ hb0) | (go_at_call 11; refine C1.mono ?_; rintro e w1 ⟨rfl, hb1⟩; have HB1 := below_next hb0 hb0.size hb1; have C2 := HL1.out _ HB1; clear C1) | (go_at_call 8; refine C2.mono ?_; rintro e w2 ⟨A2, c2, rfl, t2, hb2⟩; have HB2 := below_next HB1 HB1.size hb2; have C3 := HN2.out _ HB2; clear C2) | (go_at_call 11; refine C3.mono ?_; rintro e w3 ⟨rfl, hb3⟩; have HB3 := below_next HB2 HB2.size hb3; have C4 := HL3.out _ HB3; clear C3) | (go_at_call 8; refine C4.mono ?_; rintro e w4 ⟨A4, c4, rfl, t4, hb4⟩; have HB4 := below_next HB3 HB3.size hb4; have C5 := HL4.out _ HB4; clear C4 t4) | (go_at_call 8; refine C5.mono ?_; rintro e w5 ⟨A5, c5, rfl, t5, hb5⟩; have HB5 := below_next HB4 HB4.size hb5; have HA := HLA.out _ HB5; clear C5 t5))
        obtain ⟨g, rfl, _, dd⟩ := (((t2.below hb3).below hb4).below hb5) (by simp)
        have dd := (dd 0 _ rfl).1
        simp only [Nat.zero_mul] at dd
        have HB := Lib.hid HB5
        clear t2 hb0 hb1 hb2 hb3 hb4 hb5 HB1 HB2 HB3 HB4 HB5
        go_wp2_with (first | (go_at_call 9; refine (n1 _ _).mono ?_; rintro e w' ⟨rfl, rfl⟩) | (go_at_call 7; refine HA.mono ?_; rintro e w6 ⟨rfl, hb6⟩))
        go_ret
        exact ⟨rfl, below_next HB.out HB.out.size hb6⟩
      · go_enter Tryd.func6, Tryd.ntmps6
        go_upto_region 12 with (first | (go_at_call 10; refine DG.mono ?_; rintro e w0 ⟨rfl, hb0⟩; have C1 := HN1.out _ hb0) | (go_at_call 11; refine C1.mono ?_; rintro e w1 ⟨rfl, hb1⟩; have HB1 := below_next hb0 hb0.size hb1; have C2 := HL1.out _ HB1; clear C1) | (go_at_call 8; refine C2.mono ?_; rintro e w2 ⟨A2, c2, rfl, t2, hb2⟩; have HB2 := below_next HB1 HB1.size hb2; have C3 := HN2.out _ HB2; clear C2) | (go_at_call 11; refine C3.mono ?_; rintro e w3 ⟨rfl, hb3⟩; have HB3 := below_next HB2 HB2.size hb3; have C4 := HL3.out _ HB3; clear C3) | (go_at_call 8; refine C4.mono ?_; rintro e w4 ⟨A4, c4, rfl, t4, hb4⟩; have HB4 := below_next HB3 HB3.size hb4; have C5 := HL4.out _ HB4; clear C4 t4) | (go_at_call 8; refine C5.mono ?_; rintro e w5 ⟨A5, c5, rfl, t5, hb5⟩; have HB5 := below_next HB4 HB4.size hb5; have HA := HLA.out _ HB5; clear C5 t5))
        obtain ⟨g, rfl, _, dd⟩ := (((t2.below hb3).below hb4).below hb5) (by simp)
        have dd := (dd 0 _ rfl).1
        simp only [Nat.zero_mul] at dd
        have HB := Lib.hid HB5
        clear t2 hb0 hb1 hb2 hb3 hb4 hb5 HB1 HB2 HB3 HB4 HB5
        go_wp2_with (first | (go_at_call 9; refine (n1 _ _).mono ?_; rintro e w' ⟨rfl, rfl⟩) | (go_at_call 7; refine HA.mono ?_; rintro e w6 ⟨rfl, hb6⟩))
        go_ret
        exact ⟨rfl, below_next HB.out HB.out.size hb6⟩
    · have gf : decide ((n : Int) ≤ 2147483647) = false := decide_eq_false (by omega)
      have hdS : S.data.toList = numS n false := by rw [← hS]
      have hzS : S.size ≤ 11 := by rw [Lib.size_eq, hdS]; have := digN_10 hn; unfold numS; simp; omega
      obtain ⟨J1, hJ1⟩ : ∃ J : ByteArray, (⟨#[32]⟩ ++ S) ++ ⟨#[32]⟩ = J := ⟨_, rfl⟩
      obtain ⟨J0, hJ0⟩ : ∃ J : ByteArray, ⟨#[32]⟩ ++ S = J := ⟨_, rfl⟩
      obtain ⟨J2, hJ2⟩ : ∃ J : ByteArray, ⟨#[48]⟩ ++ S = J := ⟨_, rfl⟩
      obtain ⟨J3, hJ3⟩ : ∃ J : ByteArray, ⟨#[32, 48]⟩ ++ S = J := ⟨_, rfl⟩
      obtain ⟨J4, hJ4⟩ : ∃ J : ByteArray, S ++ ⟨#[57, 57, 57, 57, 57, 57, 57, 57, 57, 57]⟩ = J := ⟨_, rfl⟩
      rw [hJ0] at hJ1
      have d0 : J0.data.toList = [32] ++ numS n false := by rw [← hJ0, ByteArray.data_append, Array.toList_append, hdS]
      have d1 : J1.data.toList = [32] ++ numS n false ++ [32] := by rw [← hJ1, ByteArray.data_append, Array.toList_append, d0]
      have d2 : J2.data.toList = 48 :: numS n false := by rw [← hJ2, ByteArray.data_append, Array.toList_append, hdS]; rfl
      have d3 : J3.data.toList = [32, 48] ++ numS n false := by rw [← hJ3, ByteArray.data_append, Array.toList_append, hdS]
      have d4 : J4.data.toList = numS n false ++ nines := by rw [← hJ4, ByteArray.data_append, Array.toList_append, hdS]; rfl
      have z0 : J0.size = S.size + 1 := by rw [← hJ0, ByteArray.size_append, show (ByteArray.mk #[32]).size = 1 from rfl]; omega
      have z1 : J1.size = S.size + 2 := by rw [← hJ1, ByteArray.size_append, z0]; rfl
      have z2 : J2.size = S.size + 1 := by rw [← hJ2, ByteArray.size_append, show (ByteArray.mk #[48]).size = 1 from rfl]; omega
      have z3 : J3.size = S.size + 2 := by rw [← hJ3, ByteArray.size_append, show (ByteArray.mk #[32, 48]).size = 2 from rfl]; omega
      have z4 : J4.size = S.size + 10 := by rw [← hJ4, ByteArray.size_append]; rfl
      have y0 : (ByteArray.mk #[32]).size = 1 := rfl
      have y1 : (ByteArray.mk #[48]).size = 1 := rfl
      have y2 : (ByteArray.mk #[32, 48]).size = 2 := rfl
      have y3 : (ByteArray.mk #[57, 57, 57, 57, 57, 57, 57, 57, 57, 57]).size = 10 := rfl
      have v1 := num_value hn false
      obtain ⟨E2, hE2, v2⟩ := num_zero hn false
      have r1 := num_blanks hn false
      obtain ⟨E3, hE3, r3⟩ := num_zero_lex hn false
      obtain ⟨E4, hE4, r4⟩ := num_nines hn false
      rw [if_neg (by rintro (h | h); cases h; exact hf h)] at v1 r1
      rw [← hdS] at v1
      rw [← d2] at v2
      rw [← d1] at r1
      rw [← d3] at r3
      rw [← d4] at r4
      have N1 := fun (W : World) (hW : Below w.heap.size w W) => number1_c aL aW S W (hg.below hW) (by omega)
      have N2 := fun (W : World) (hW : Below w.heap.size w W) => number1_c aL aW J2 W (hg.below hW) (by omega)
      simp only [v1] at N1
      simp only [v2] at N2
      have hz : decide (E2 = 0) = false := decide_eq_false (by omega)
      rw [hz] at N2
      have L1 := fun (W : World) (hW : Below w.heap.size w W) => lex_say (hg.below hW) (by omega) r1 (n := 0) rfl
      have L3 := fun (W : World) (hW : Below w.heap.size w W) => lex_say (hg.below hW) (by omega) r3 (n := 0) rfl
      have L4 := fun (W : World) (hW : Below w.heap.size w W) => lex_say (hg.below hW) (by omega) r4 (n := 0) rfl
      have LA := fun (W : World) (hW : Below w.heap.size w W) => awake2_c aL aW W (hg.below hW)
      have DG := digits_c n hn w
      have g4 : (E4 != 0) = true := by rw [bne_iff_ne]; exact hE4
      have gn : ((n : Int) == (n : Int)) = true := by simp
      have HN1 := Lib.hid N1
      have HN2 := Lib.hid N2
      have HL1 := Lib.hid L1
      have HL3 := Lib.hid L3
      have HL4 := Lib.hid L4
      have HLA := Lib.hid LA
      clear N1 N2 L1 L3 L4 LA d0 d1 d2 d3 d4 v1 v2 r1 r3 r4 hg hE4 hE2 hz hdS
      rw [hS0] at DG
      clear hE3
      go_enter Tryd.func6, Tryd.ntmps6
      go_upto_region 12 with (first | (go_at_call 10; refine DG.mono ?_; rintro e w0 ⟨rfl, hb0⟩; have C1 := HN1.out _ hb0) | (go_at_call 11; refine C1.mono ?_; rintro e w1 ⟨rfl, hb1⟩; have HB1 := below_next hb0 hb0.size hb1; have C2 := HL1.out _ HB1; clear C1) | (go_at_call 8; refine C2.mono ?_; rintro e w2 ⟨A2, c2, rfl, t2, hb2⟩; have HB2 := below_next HB1 HB1.size hb2; have C3 := HN2.out _ HB2; clear C2) | (go_at_call 11; refine C3.mono ?_; rintro e w3 ⟨rfl, hb3⟩; have HB3 := below_next HB2 HB2.size hb3; have C4 := HL3.out _ HB3; clear C3) | (go_at_call 8; refine C4.mono ?_; rintro e w4 ⟨A4, c4, rfl, t4, hb4⟩; have HB4 := below_next HB3 HB3.size hb4; have C5 := HL4.out _ HB4; clear C4 t4) | (go_at_call 8; refine C5.mono ?_; rintro e w5 ⟨A5, c5, rfl, t5, hb5⟩; have HB5 := below_next HB4 HB4.size hb5; have HA := HLA.out _ HB5; clear C5 t5))
      have HB := Lib.hid HB5
      clear t2 hb0 hb1 hb2 hb3 hb4 hb5 HB1 HB2 HB3 HB4 HB5
      go_wp2_with (first | (go_at_call 9; refine (n1 _ _).mono ?_; rintro e w' ⟨rfl, rfl⟩) | (go_at_call 7; refine HA.mono ?_; rintro e w6 ⟨rfl, hb6⟩))
      go_ret
      exact ⟨rfl, below_next HB.out HB.out.size hb6⟩
  · obtain ⟨D, hD⟩ : ∃ D : ByteArray, (⟨(digN n).toArray⟩ : ByteArray) = D := ⟨_, rfl⟩
    have hzD : D.size ≤ 10 := by rw [← hD]; exact digN_10 hn
    obtain ⟨S, hS'⟩ : ∃ S : ByteArray, D ++ ⟨#[117]⟩ = S := ⟨_, rfl⟩
    have hS : (⟨(numS n true).toArray⟩ : ByteArray) = S := by
      rw [← hS', ← hD]
      apply ByteArray.ext
      rw [ByteArray.data_append]
      apply Array.ext'
      rw [Array.toList_append]
      unfold numS
      simp
    have y9 : (ByteArray.mk #[117]).size = 1 := rfl
    have hdS : S.data.toList = numS n true := by rw [← hS]
    have hzS : S.size ≤ 11 := by rw [Lib.size_eq, hdS]; have := digN_10 hn; unfold numS; simp; omega
    obtain ⟨J1, hJ1⟩ : ∃ J : ByteArray, (⟨#[32]⟩ ++ S) ++ ⟨#[32]⟩ = J := ⟨_, rfl⟩
    obtain ⟨J0, hJ0⟩ : ∃ J : ByteArray, ⟨#[32]⟩ ++ S = J := ⟨_, rfl⟩
    obtain ⟨J2, hJ2⟩ : ∃ J : ByteArray, ⟨#[48]⟩ ++ S = J := ⟨_, rfl⟩
    obtain ⟨J3, hJ3⟩ : ∃ J : ByteArray, ⟨#[32, 48]⟩ ++ S = J := ⟨_, rfl⟩
    obtain ⟨J4, hJ4⟩ : ∃ J : ByteArray, S ++ ⟨#[57, 57, 57, 57, 57, 57, 57, 57, 57, 57]⟩ = J := ⟨_, rfl⟩
    rw [hJ0] at hJ1
    have d0 : J0.data.toList = [32] ++ numS n true := by rw [← hJ0, ByteArray.data_append, Array.toList_append, hdS]
    have d1 : J1.data.toList = [32] ++ numS n true ++ [32] := by rw [← hJ1, ByteArray.data_append, Array.toList_append, d0]
    have d2 : J2.data.toList = 48 :: numS n true := by rw [← hJ2, ByteArray.data_append, Array.toList_append, hdS]; rfl
    have d3 : J3.data.toList = [32, 48] ++ numS n true := by rw [← hJ3, ByteArray.data_append, Array.toList_append, hdS]
    have d4 : J4.data.toList = numS n true ++ nines := by rw [← hJ4, ByteArray.data_append, Array.toList_append, hdS]; rfl
    have z0 : J0.size = S.size + 1 := by rw [← hJ0, ByteArray.size_append, show (ByteArray.mk #[32]).size = 1 from rfl]; omega
    have z1 : J1.size = S.size + 2 := by rw [← hJ1, ByteArray.size_append, z0]; rfl
    have z2 : J2.size = S.size + 1 := by rw [← hJ2, ByteArray.size_append, show (ByteArray.mk #[48]).size = 1 from rfl]; omega
    have z3 : J3.size = S.size + 2 := by rw [← hJ3, ByteArray.size_append, show (ByteArray.mk #[32, 48]).size = 2 from rfl]; omega
    have z4 : J4.size = S.size + 10 := by rw [← hJ4, ByteArray.size_append]; rfl
    have y0 : (ByteArray.mk #[32]).size = 1 := rfl
    have y1 : (ByteArray.mk #[48]).size = 1 := rfl
    have y2 : (ByteArray.mk #[32, 48]).size = 2 := rfl
    have y3 : (ByteArray.mk #[57, 57, 57, 57, 57, 57, 57, 57, 57, 57]).size = 10 := rfl
    have v1 := num_value hn true
    obtain ⟨E2, hE2, v2⟩ := num_zero hn true
    have r1 := num_blanks hn true
    obtain ⟨E3, hE3, r3⟩ := num_zero_lex hn true
    obtain ⟨E4, hE4, r4⟩ := num_nines hn true
    rw [if_pos (.inl rfl)] at v1 r1
    simp only [if_true] at v1
    rw [← hdS] at v1
    rw [← d2] at v2
    rw [← d1] at r1
    rw [← d3] at r3
    rw [← d4] at r4
    have N1 := fun (W : World) (hW : Below w.heap.size w W) => number1_c aL aW S W (hg.below hW) (by omega)
    have N2 := fun (W : World) (hW : Below w.heap.size w W) => number1_c aL aW J2 W (hg.below hW) (by omega)
    simp only [v1] at N1
    simp only [v2] at N2
    have hz : decide (E2 = 0) = false := decide_eq_false (by omega)
    rw [hz] at N2
    have L1 := fun (W : World) (hW : Below w.heap.size w W) => lex_say (hg.below hW) (by omega) r1 (n := 2) rfl
    have L3 := fun (W : World) (hW : Below w.heap.size w W) => lex_say (hg.below hW) (by omega) r3 (n := 0) rfl
    have L4 := fun (W : World) (hW : Below w.heap.size w W) => lex_say (hg.below hW) (by omega) r4 (n := 0) rfl
    have LA := fun (W : World) (hW : Below w.heap.size w W) => awake2_c aL aW W (hg.below hW)
    have DG := digits_c n hn w
    have g4 : (E4 != 0) = true := by rw [bne_iff_ne]; exact hE4
    have gn : ((n : Int) == (n : Int)) = true := by simp
    have HN1 := Lib.hid N1
    have HN2 := Lib.hid N2
    have HL1 := Lib.hid L1
    have HL3 := Lib.hid L3
    have HL4 := Lib.hid L4
    have HLA := Lib.hid LA
    clear N1 N2 L1 L3 L4 LA d0 d1 d2 d3 d4 v1 v2 r1 r3 r4 hg hE4 hE2 hz hdS
    rw [hD] at DG
    rcases hE3 with rfl | rfl
    · go_enter Tryd.func6, Tryd.ntmps6
      go_upto_region 12 with (first | (go_at_call 10; refine DG.mono ?_; rintro e w0 ⟨rfl, hb0⟩; have C1 := HN1.out _ hb0) | (go_at_call 11; refine C1.mono ?_; rintro e w1 ⟨rfl, hb1⟩; have HB1 := below_next hb0 hb0.size hb1; have C2 := HL1.out _ HB1; clear C1) | (go_at_call 8; refine C2.mono ?_; rintro e w2 ⟨A2, c2, rfl, t2, hb2⟩; have HB2 := below_next HB1 HB1.size hb2; have C3 := HN2.out _ HB2; clear C2) | (go_at_call 11; refine C3.mono ?_; rintro e w3 ⟨rfl, hb3⟩; have HB3 := below_next HB2 HB2.size hb3; have C4 := HL3.out _ HB3; clear C3) | (go_at_call 8; refine C4.mono ?_; rintro e w4 ⟨A4, c4, rfl, t4, hb4⟩; have HB4 := below_next HB3 HB3.size hb4; have C5 := HL4.out _ HB4; clear C4 t4) | (go_at_call 8; refine C5.mono ?_; rintro e w5 ⟨A5, c5, rfl, t5, hb5⟩; have HB5 := below_next HB4 HB4.size hb5; have HA := HLA.out _ HB5; clear C5 t5))
      obtain ⟨g, rfl, _, dd⟩ := (((t2.below hb3).below hb4).below hb5) (by simp)
      have dd := (dd 0 _ rfl).1
      simp only [Nat.zero_mul] at dd
      have HB := Lib.hid HB5
      clear t2 hb0 hb1 hb2 hb3 hb4 hb5 HB1 HB2 HB3 HB4 HB5
      go_wp2_with (first | (go_at_call 9; refine (n1 _ _).mono ?_; rintro e w' ⟨rfl, rfl⟩) | (go_at_call 7; refine HA.mono ?_; rintro e w6 ⟨rfl, hb6⟩))
      go_ret
      exact ⟨rfl, below_next HB.out HB.out.size hb6⟩
    · go_enter Tryd.func6, Tryd.ntmps6
      go_upto_region 12 with (first | (go_at_call 10; refine DG.mono ?_; rintro e w0 ⟨rfl, hb0⟩; have C1 := HN1.out _ hb0) | (go_at_call 11; refine C1.mono ?_; rintro e w1 ⟨rfl, hb1⟩; have HB1 := below_next hb0 hb0.size hb1; have C2 := HL1.out _ HB1; clear C1) | (go_at_call 8; refine C2.mono ?_; rintro e w2 ⟨A2, c2, rfl, t2, hb2⟩; have HB2 := below_next HB1 HB1.size hb2; have C3 := HN2.out _ HB2; clear C2) | (go_at_call 11; refine C3.mono ?_; rintro e w3 ⟨rfl, hb3⟩; have HB3 := below_next HB2 HB2.size hb3; have C4 := HL3.out _ HB3; clear C3) | (go_at_call 8; refine C4.mono ?_; rintro e w4 ⟨A4, c4, rfl, t4, hb4⟩; have HB4 := below_next HB3 HB3.size hb4; have C5 := HL4.out _ HB4; clear C4 t4) | (go_at_call 8; refine C5.mono ?_; rintro e w5 ⟨A5, c5, rfl, t5, hb5⟩; have HB5 := below_next HB4 HB4.size hb5; have HA := HLA.out _ HB5; clear C5 t5))
      obtain ⟨g, rfl, _, dd⟩ := (((t2.below hb3).below hb4).below hb5) (by simp)
      have dd := (dd 0 _ rfl).1
      simp only [Nat.zero_mul] at dd
      have HB := Lib.hid HB5
      clear t2 hb0 hb1 hb2 hb3 hb4 hb5 HB1 HB2 HB3 HB4 HB5
      go_wp2_with (first | (go_at_call 9; refine (n1 _ _).mono ?_; rintro e w' ⟨rfl, rfl⟩) | (go_at_call 7; refine HA.mono ?_; rintro e w6 ⟨rfl, hb6⟩))
      go_ret
      exact ⟨rfl, below_next HB.out HB.out.size hb6⟩
end Go.Proofs.YtfdlkbkheginlaaDoor.C
