/- The walk of LexWords. -/
import Derived.Test.YtfdlkbkheginlaaDoorLaw2
import Derived.Laws.IdiomStrings
import Derived.Deep.OwnRows
namespace Go.Proofs.YtfdlkbkheginlaaDoor.C
open Go.RowKit
set_option linter.unusedSimpArgs false
set_option linter.unusedVariables false
def w28 : List ByteArray := [⟨#[103, 108, 111, 98, 97, 108]⟩, ⟨#[102, 110]⟩, ⟨#[114, 101, 113, 117, 105, 114, 101, 115]⟩, ⟨#[101, 110, 115, 117, 114, 101, 115]⟩, ⟨#[97, 115, 115, 105, 103, 110, 115]⟩, ⟨#[110, 111, 116, 104, 105, 110, 103]⟩, ⟨#[108, 101, 116]⟩, ⟨#[99, 97, 108, 108]⟩, ⟨#[105, 102]⟩, ⟨#[101, 108, 115, 101]⟩, ⟨#[119, 104, 105, 108, 101]⟩, ⟨#[105, 110, 118, 97, 114, 105, 97, 110, 116]⟩, ⟨#[98, 114, 101, 97, 107]⟩, ⟨#[99, 111, 110, 116, 105, 110, 117, 101]⟩, ⟨#[114, 101, 116, 117, 114, 110]⟩, ⟨#[97, 115, 115, 101, 114, 116]⟩, ⟨#[105, 110, 112, 117, 116]⟩, ⟨#[111, 108, 100]⟩, ⟨#[114, 101, 115, 117, 108, 116]⟩, ⟨#[110, 111, 116]⟩, ⟨#[97, 110, 100]⟩, ⟨#[111, 114]⟩, ⟨#[105, 56]⟩, ⟨#[117, 56]⟩, ⟨#[105, 49, 54]⟩, ⟨#[117, 49, 54]⟩, ⟨#[105, 51, 50]⟩, ⟨#[117, 51, 50]⟩]
theorem w28_say : ∀ j, j < 28 → lexR (w28.getD j ByteArray.empty).data.toList = ([⟨3, (w28.getD j ByteArray.empty).data.toList, 0⟩, ⟨0, [], (w28.getD j ByteArray.empty).data.toList.length⟩], 0, 0) ∧ lexR (w28.getD j ByteArray.empty ++ ⟨#[120]⟩).data.toList = ([⟨1, (w28.getD j ByteArray.empty ++ ⟨#[120]⟩).data.toList, 0⟩, ⟨0, [], (w28.getD j ByteArray.empty ++ ⟨#[120]⟩).data.toList.length⟩], 0, 0) ∧ (w28.getD j ByteArray.empty).size ≤ 20
  | 0, _ => ⟨by kernel_rfl, by kernel_rfl, by decide +kernel⟩
  | 1, _ => ⟨by kernel_rfl, by kernel_rfl, by decide +kernel⟩
  | 2, _ => ⟨by kernel_rfl, by kernel_rfl, by decide +kernel⟩
  | 3, _ => ⟨by kernel_rfl, by kernel_rfl, by decide +kernel⟩
  | 4, _ => ⟨by kernel_rfl, by kernel_rfl, by decide +kernel⟩
  | 5, _ => ⟨by kernel_rfl, by kernel_rfl, by decide +kernel⟩
  | 6, _ => ⟨by kernel_rfl, by kernel_rfl, by decide +kernel⟩
  | 7, _ => ⟨by kernel_rfl, by kernel_rfl, by decide +kernel⟩
  | 8, _ => ⟨by kernel_rfl, by kernel_rfl, by decide +kernel⟩
  | 9, _ => ⟨by kernel_rfl, by kernel_rfl, by decide +kernel⟩
  | 10, _ => ⟨by kernel_rfl, by kernel_rfl, by decide +kernel⟩
  | 11, _ => ⟨by kernel_rfl, by kernel_rfl, by decide +kernel⟩
  | 12, _ => ⟨by kernel_rfl, by kernel_rfl, by decide +kernel⟩
  | 13, _ => ⟨by kernel_rfl, by kernel_rfl, by decide +kernel⟩
  | 14, _ => ⟨by kernel_rfl, by kernel_rfl, by decide +kernel⟩
  | 15, _ => ⟨by kernel_rfl, by kernel_rfl, by decide +kernel⟩
  | 16, _ => ⟨by kernel_rfl, by kernel_rfl, by decide +kernel⟩
  | 17, _ => ⟨by kernel_rfl, by kernel_rfl, by decide +kernel⟩
  | 18, _ => ⟨by kernel_rfl, by kernel_rfl, by decide +kernel⟩
  | 19, _ => ⟨by kernel_rfl, by kernel_rfl, by decide +kernel⟩
  | 20, _ => ⟨by kernel_rfl, by kernel_rfl, by decide +kernel⟩
  | 21, _ => ⟨by kernel_rfl, by kernel_rfl, by decide +kernel⟩
  | 22, _ => ⟨by kernel_rfl, by kernel_rfl, by decide +kernel⟩
  | 23, _ => ⟨by kernel_rfl, by kernel_rfl, by decide +kernel⟩
  | 24, _ => ⟨by kernel_rfl, by kernel_rfl, by decide +kernel⟩
  | 25, _ => ⟨by kernel_rfl, by kernel_rfl, by decide +kernel⟩
  | 26, _ => ⟨by kernel_rfl, by kernel_rfl, by decide +kernel⟩
  | 27, _ => ⟨by kernel_rfl, by kernel_rfl, by decide +kernel⟩
  | n + 28, h => absurd h (by omega)
theorem xs_say : ∀ K, K < 50 → lexR (List.replicate (K + 1) 120) = if K + 1 ≤ 20 then ([⟨1, List.replicate (K + 1) 120, 0⟩, ⟨0, [], K + 1⟩], 0, 0) else ([], 3, 0)
  | 0, _ => by kernel_rfl
  | 1, _ => by kernel_rfl
  | 2, _ => by kernel_rfl
  | 3, _ => by kernel_rfl
  | 4, _ => by kernel_rfl
  | 5, _ => by kernel_rfl
  | 6, _ => by kernel_rfl
  | 7, _ => by kernel_rfl
  | 8, _ => by kernel_rfl
  | 9, _ => by kernel_rfl
  | 10, _ => by kernel_rfl
  | 11, _ => by kernel_rfl
  | 12, _ => by kernel_rfl
  | 13, _ => by kernel_rfl
  | 14, _ => by kernel_rfl
  | 15, _ => by kernel_rfl
  | 16, _ => by kernel_rfl
  | 17, _ => by kernel_rfl
  | 18, _ => by kernel_rfl
  | 19, _ => by kernel_rfl
  | 20, _ => by kernel_rfl
  | 21, _ => by kernel_rfl
  | 22, _ => by kernel_rfl
  | 23, _ => by kernel_rfl
  | 24, _ => by kernel_rfl
  | 25, _ => by kernel_rfl
  | 26, _ => by kernel_rfl
  | 27, _ => by kernel_rfl
  | 28, _ => by kernel_rfl
  | 29, _ => by kernel_rfl
  | 30, _ => by kernel_rfl
  | 31, _ => by kernel_rfl
  | 32, _ => by kernel_rfl
  | 33, _ => by kernel_rfl
  | 34, _ => by kernel_rfl
  | 35, _ => by kernel_rfl
  | 36, _ => by kernel_rfl
  | 37, _ => by kernel_rfl
  | 38, _ => by kernel_rfl
  | 39, _ => by kernel_rfl
  | 40, _ => by kernel_rfl
  | 41, _ => by kernel_rfl
  | 42, _ => by kernel_rfl
  | 43, _ => by kernel_rfl
  | 44, _ => by kernel_rfl
  | 45, _ => by kernel_rfl
  | 46, _ => by kernel_rfl
  | 47, _ => by kernel_rfl
  | 48, _ => by kernel_rfl
  | 49, _ => by kernel_rfl
  | n + 50, h => absurd h (by omega)
theorem infoU8 : (Tryd.prog.info? 5).map (fun i => (i.zero, i.size, i.bytes)) = some (some (.int .u8 0), 1, 1) := by kernel_rfl
/-- The world in the loop that writes the name. -/
def NmIn (D K i : Nat) (W0 wr : World) : Prop := D < wr.heap.size ∧ (∀ j, j < i → wr.cell? ⟨D, j, none⟩ = some (.int .u8 120)) ∧ (∀ j, j < K → ∃ v, wr.cell? ⟨D, j, none⟩ = some v) ∧ (∀ j, wr.frozen? ⟨D, j, none⟩ = false) ∧ Below D W0 wr
theorem NmIn.put {D K i : Nat} {W0 wr : World} (h : NmIn D K i W0 wr) (hi : i < K) : NmIn D K (i + 1) W0 (wr.setCell ⟨D, i, none⟩ (.int .u8 120)) := by
  obtain ⟨h1, h2, h3, h4, h5⟩ := h
  obtain ⟨v, hv⟩ := h3 i hi
  have hs := World.cell?_setCell_same wr ⟨D, i, none⟩ (.int .u8 120) hv
  refine ⟨by simpa using h1, fun j hj => ?_, fun j hj => ?_, fun j => ?_, h5.setCell (by show D ≤ D; omega) _⟩
  · by_cases e : j = i
    · subst e; exact hs
    · rw [World.cell?_setCell_other _ _ _ _ (fun h => e (by injection h with _ h2; exact h2.symm))]; exact h2 j (by omega)
  · by_cases e : j = i
    · subst e; exact ⟨_, hs⟩
    · rw [World.cell?_setCell_other _ _ _ _ (fun h => e (by injection h with _ h2; exact h2.symm))]; exact h3 j hj
  · have : (wr.setCell ⟨D, i, none⟩ (.int .u8 120)).frozen? ⟨D, j, none⟩ = wr.frozen? ⟨D, j, none⟩ := by simp [go_sem]
    rw [this]; exact h4 j
set_option maxRecDepth 100000 in
set_option maxHeartbeats 6400000 in
theorem lexWords_c (aL aW : Addr) (a b : Int) (w : World) (hg : GL aL aW w) (ha : 0 ≤ a ∧ a ≤ 255) (hb : 0 ≤ b ∧ b ≤ 255) : Calls Tryd.prog 4 #[.int .u8 a, .int .u8 b] w fun e w' => e = .returned (.bool true) ∧ Below w.heap.size w w' := by
  obtain ⟨j, hj⟩ : ∃ j : Nat, a.tmod 28 = (j : Int) ∧ j < 28 := by
    rw [Int.tmod_eq_emod_of_nonneg ha.1]
    exact ⟨(a % 28).toNat, by omega, by omega⟩
  obtain ⟨k, hk⟩ : ∃ k : Nat, b.tmod 50 = (k : Int) ∧ k < 50 := by
    rw [Int.tmod_eq_emod_of_nonneg hb.1]
    exact ⟨(b % 50).toNat, by omega, by omega⟩
  obtain ⟨hj, hj28⟩ := hj
  obtain ⟨hk, hk50⟩ := hk
  obtain ⟨y1, y2, y3⟩ := w28_say j hj28
  have hcell := strB_cell w28 w j hj28
  obtain ⟨s1, hs1⟩ : ∃ s, w28.getD j ByteArray.empty = s := ⟨_, rfl⟩
  rw [hs1] at y1 y2 y3 hcell
  rw [Nat.zero_add] at hcell
  have hz2 : (s1 ++ ⟨#[120]⟩).size ≤ 21 := by rw [ByteArray.size_append]; have : (ByteArray.mk #[120]).size = 1 := rfl; omega
  have y4 := xs_say k hk50
  obtain ⟨K, hK⟩ : ∃ K, k + 1 = K := ⟨_, rfl⟩
  rw [hK] at y4
  obtain ⟨nm, hnm⟩ : ∃ nm : ByteArray, (⟨(List.replicate K 120).toArray⟩ : ByteArray) = nm := ⟨_, rfl⟩
  have hnd : nm.data.toList = List.replicate K 120 := by rw [← hnm]
  have hnz : nm.size = K := by rw [Lib.size_eq, hnd]; simp
  rw [← hnd] at y4
  have e1 : IntKind.i64.wrap a = a := IntWalk.i64_in _ (by omega)
  have e2 : IntKind.i64.wrap b = b := IntWalk.i64_in _ (by omega)
  have e3 : IntKind.i64.wrap ((k : Int) + 1) = (K : Int) := by rw [IntWalk.i64_in _ (by omega)]; omega
  have hmk := fun (W : World) => run_make_row' (P := Tryd.prog) 32 5 (.int .u8 0) 1 Tryd.underlying32 infoU8 rfl .i64 .i64 K (by omega) (by omega) W
  have hj28' : (j : Int) < 28 := by omega
  have hcat : IntKind.i64.max = 9223372036854775807 := rfl
  have hne28 : ¬ ((28 : Int) = 0) := by decide
  have hb0 : Below w.heap.size w (w.alloc (strB w28)) := (Below.refl _ _).alloc (Nat.le_refl _) _
  have HG := Lib.hid hg
  have HK := Lib.hid hK
  have hK1 : 1 ≤ K := by omega
  have hK2 : K ≤ 50 := by omega
  have L1 := fun (W : World) (hW : Below w.heap.size w W) => lex_say (s := s1) (hg.below hW) (by omega) y1 rfl
  have L2 := fun (W : World) (hW : Below w.heap.size w W) => lex_say (s := s1 ++ ⟨#[120]⟩) (hg.below hW) (by omega) y2 rfl
  have HL1 := Lib.hid L1
  have HL2 := Lib.hid L2
  simp only [strB, w28, List.map] at hcell hb0
  have HY4 := Lib.hid y4
  have HND := Lib.hid hnd
  clear L1 L2 y1 y2 y4 hg hnd
  have HB0 := Lib.hid hb0
  clear hb0 hs1 hK hnm
  go_enter Tryd.func4, Tryd.ntmps4
  have C1 := HL1.out _ HB0.out
  go_upto_region 6 with (first | (go_at_call 8; refine C1.mono ?_; rintro e w1 ⟨A1, c1, rfl, t1, hb1⟩; have HB1 := Lib.hid (below_next HB0.out HB0.out.size hb1); have C2 := HL2.out _ HB1.out; clear C1) | (go_at_call 8; refine C2.mono ?_; rintro e w2 ⟨A2, c2, rfl, t2, hb2⟩; have HB2 := Lib.hid (below_next HB1.out HB1.out.size hb2); clear C2))
  have T1 := Lib.hid (t1.below hb2)
  have T2 := Lib.hid t2
  clear t1 t2 hb1 hb2 HL1 HL2 HB1 HB0 hcell
  go_wp2_with fail
  go_loopw [15] (fun i wr => ∃ i' : Nat, i' ≤ K ∧ i = .int .i64 i' ∧ Hid (NmIn w2.heap.size K i' w2 wr)) (fun i _ => K - (intOf i).toNat)
  case atStart => exact ⟨0, by omega, rfl, Lib.hid ⟨by simp, fun j hj => by omega, fun j hj => ⟨.int .u8 0, by rw [cell_of_row _ _ _ _ _ _ (heap_alloc_new w2 _)]; rw [← Array.getElem?_toList, toList_madeCells_one]; simp [hj]⟩, fun j => by simp [go_sem], (Below.refl _ _).alloc (Nat.le_refl _) _⟩⟩
  case round =>
    obtain ⟨i, hi, rfl, HN⟩ := hrel
    obtain ⟨wo, rfl⟩ : ∃ wo : World, wo = wr := ⟨_, rfl⟩
    by_cases hlt : i < K
    · have hlt' : (i : Int) < (K : Int) := by omega
      obtain ⟨v, c0⟩ := HN.out.2.2.1 i hlt
      have f0 := HN.out.2.2.2.1 i
      have HN2 := Lib.hid (HN.out.put hlt)
      clear HN
      go_wp2_with fail
      exact ⟨⟨i + 1, by omega, by go_num, HN2⟩, by simp [intOf]; omega⟩
    · obtain rfl : i = K := by omega
      have HR := Lib.hid HN.out.2.2.2.2
      have hcv : ∀ W : World, (∀ j, j < i → W.cell? ⟨w2.heap.size, j, none⟩ = some (.int .u8 120)) → (convert 32 9 (.slice (some ⟨w2.heap.size, 0, none⟩) i i)).run Tryd.prog W = .ok (.string nm) W := fun W h => by
        have := run_convert_bytes_back (P := Tryd.prog) W 32 9 5 ⟨w2.heap.size, 0, none⟩ i (List.replicate i 120) Tryd.underlying32 Tryd.underlying5 Tryd.underlying9 (fun j hj => by
          rw [t_plain, h j (by simpa using hj)]
          simp)
        rw [List.length_replicate] at this
        have e : (⟨(List.replicate i 120).toArray⟩ : ByteArray) = nm := by rw [← HND.out] <;> exact Lib.mk_data nm
        rw [this, e]
      have HCV := Lib.hid hcv
      have hcv0 := hcv wo HN.out.2.1
      have HB2' := Lib.hid (below_next HB2.out HB2.out.size HN.out.2.2.2.2)
      have T1 := Lib.hid (T1.out.below HN.out.2.2.2.2)
      have T2 := Lib.hid (T2.out.below HN.out.2.2.2.2)
      clear hcv hlt hi
      have n1 := fun (E : Int) (W : World) => num_c E W
      by_cases h20 : i ≤ 20
      · have y4 := HY4.out
        rw [if_pos h20] at y4
        have C3 := lex_say (HG.out.below HB2'.out) (by omega) y4 (n := 2) rfl
        clear y4
        have g20 : ¬ (20 : Int) < (i : Int) := by omega
        have HN3 := Lib.hid HN.out.2.1
        have hD := HN.out.1
        go_upto_region 12 with (go_at_call 8; refine C3.mono ?_; rintro e w3 ⟨A3, c3, rfl, t3, hb3⟩)
        obtain ⟨g1, rfl, _, d1⟩ := (T1.out.below hb3) (by simp)
        obtain ⟨g2, rfl, _, d2⟩ := (T2.out.below hb3) (by simp)
        obtain ⟨g3, rfl, _, d3⟩ := t3 (by simp)
        have d1 := (d1 0 _ rfl).1
        have d2 := (d2 0 _ rfl).1
        have d3 := (d3 0 _ rfl).2.1
        simp only [Nat.zero_mul, Nat.zero_add, Lib.mk_data] at d1 d2 d3
        have HB3 := Lib.hid (below_next HB2'.out HB2'.out.size hb3)
        have LA := fun (W : World) (h : Below w3.heap.size w3 W) => awake2_c aL aW W (HG.out.below (below_next HB3.out HB3.out.size h))
        have HCW := Lib.hid (fun (x : WIn (Below w3.heap.size w3)) => HCV.out x.w (fun j hj => cell_later x.h (cell_later hb3 (HN3.out j hj))))
        clear hb3 C3 hcv0
        go_upto_region 16 with (first | (go_at_call 9; refine (n1 _ _).mono ?_; rintro e w' ⟨rfl, rfl⟩))
        refine region_in (Below w3.heap.size w3) (by kernel_rfl) (by kernel_rfl) (Below.refl _ _).drew (fun inst => ?_)
        have dq := fun x : WIn (Below w3.heap.size w3) => cell_later x.h d3
        have hcw := HCW.out
        iterate 21 (go_big_quiet_step (first | (go_at_call 9; exact call_same _ ((n1 _ _))) | (go_at_call 7; exact call_grow (Nat.le_refl _) (LA _ (WIn.h _)))))
        refine wpQuiet_nil ?_
        intro w4 hb4
        clear dq hcw d1 d2 d3 LA inst
        go_wp2_with fail
        go_ret
        exact ⟨rfl, below_next HB3.out HB3.out.size hb4⟩
      · have y4 := HY4.out
        rw [if_neg h20] at y4
        have C3 := lex_say (HG.out.below HB2'.out) (by omega) y4 (n := 0) rfl
        clear y4
        have g20 : (20 : Int) < (i : Int) := by omega
        go_upto_region 12 with (go_at_call 8; refine C3.mono ?_; rintro e w3 ⟨A3, c3, rfl, t3, hb3⟩)
        obtain ⟨g1, rfl, _, d1⟩ := (T1.out.below hb3) (by simp)
        obtain ⟨g2, rfl, _, d2⟩ := (T2.out.below hb3) (by simp)
        have d1 := (d1 0 _ rfl).1
        have d2 := (d2 0 _ rfl).1
        simp only [Nat.zero_mul] at d1 d2
        have HB3 := Lib.hid (below_next HB2'.out HB2'.out.size hb3)
        have HA := awake2_c aL aW w3 (HG.out.below HB3.out)
        clear hb3 t3 C3 hcv0
        go_wp2_with (first | (go_at_call 9; refine (n1 _ _).mono ?_; rintro e w' ⟨rfl, rfl⟩) | (go_at_call 7; refine HA.mono ?_; rintro e w4 ⟨rfl, hb4⟩))
        go_ret
        exact ⟨rfl, below_next HB3.out HB3.out.size hb4⟩
end Go.Proofs.YtfdlkbkheginlaaDoor.C
