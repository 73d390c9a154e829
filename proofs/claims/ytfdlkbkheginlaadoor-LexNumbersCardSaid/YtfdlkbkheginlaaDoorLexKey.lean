/- lex.key, lex.sign: walks. -/
import Derived.Test.YtfdlkbkheginlaaDoorTyp
import Derived.Test.YtfdlkbkheginlaaDoorLexLib
import Derived.Test.YtfdlkbkheginlaaDoorLexRun
namespace Go.Proofs.YtfdlkbkheginlaaDoor.C
open Go.RowKit
set_option linter.unusedSimpArgs false
set_option linter.unusedVariables false
def kwL : List ByteArray := [⟨#[103,108,111,98,97,108]⟩,⟨#[102,110]⟩,⟨#[114,101,113,117,105,114,101,115]⟩,⟨#[101,110,115,117,114,101,115]⟩,⟨#[97,115,115,105,103,110,115]⟩,⟨#[110,111,116,104,105,110,103]⟩,⟨#[108,101,116]⟩,⟨#[99,97,108,108]⟩,⟨#[105,102]⟩,⟨#[101,108,115,101]⟩,⟨#[119,104,105,108,101]⟩,⟨#[105,110,118,97,114,105,97,110,116]⟩,⟨#[98,114,101,97,107]⟩,⟨#[99,111,110,116,105,110,117,101]⟩,⟨#[114,101,116,117,114,110]⟩,⟨#[97,115,115,101,114,116]⟩,⟨#[105,110,112,117,116]⟩,⟨#[111,108,100]⟩,⟨#[114,101,115,117,108,116]⟩,⟨#[110,111,116]⟩,⟨#[97,110,100]⟩,⟨#[111,114]⟩]
def strB (l : List ByteArray) : Obj := .cells (l.map Value.string).toArray 9 (0, 0)
theorem strB_cell (l : List ByteArray) (w : World) (j : Nat) (h : j < l.length) : (w.alloc (strB l)).cell? ⟨w.heap.size, 0 + j, none⟩ = some (.string (l.getD j ByteArray.empty)) := by
  rw [Nat.zero_add]
  have h1 := heap_alloc_new w (strB l)
  rw [cell_of_row _ _ _ _ _ _ h1]
  simp [List.getD, h]
theorem kwL_data : kwL.map (fun x => x.data.toList) = keyWords := by decide +kernel
theorem namesL_data : namesL.map (fun x => x.data.toList) = typeWords := by decide +kernel
theorem mem_data (l : List ByteArray) (s : ByteArray) : s ∈ l ↔ s.data.toList ∈ l.map (fun x => x.data.toList) := by
  constructor
  · intro h; exact List.mem_map.2 ⟨s, h, rfl⟩
  · intro h
    obtain ⟨x, hx, he⟩ := List.mem_map.1 h
    have : x = s := by
      obtain ⟨⟨a⟩⟩ := x
      obtain ⟨⟨b⟩⟩ := s
      have : a = b := he
      rw [this]
    rwa [← this]
theorem kw_in (s : ByteArray) : Lib.containsS (kwL.take 22) s = decide (s.data.toList ∈ keyWords) := by
  have h0 : kwL.take 22 = kwL := rfl
  rw [h0, Bool.eq_iff_iff, Lib.containsS_iff, decide_eq_true_eq, mem_data, kwL_data]
theorem read_in (s : ByteArray) : decide (0 < readT s) = decide (s.data.toList ∈ typeWords) := by
  rw [Bool.eq_iff_iff, decide_eq_true_eq, decide_eq_true_eq, ← namesL_data, ← mem_data]
  unfold readT
  have hr := idxT_range namesL s
  constructor
  · intro h
    rcases hc : namesL.findIdx? (fun x => s.toList == x.toList) with _ | n
    · unfold idxT at h
      rw [hc] at h
      simp at h
    · obtain ⟨hn, h2, _⟩ := List.findIdx?_eq_some_iff_getElem.1 hc
      have h3 := (Lib.bytes_beq_iff _ _).1 h2
      rw [h3]
      exact List.getElem_mem _
  · intro h
    obtain ⟨n, hn, he⟩ := List.getElem_of_mem h
    by_cases hb : 0 < idxT namesL s + 1
    · exact hb
    · exfalso
      have hm : idxT namesL s = -1 := by omega
      unfold idxT at hm
      rcases hc : namesL.findIdx? (fun x => s.toList == x.toList) with _ | k
      · have := List.findIdx?_eq_none_iff.1 hc s h
        simp at this
      · rw [hc] at hm
        simp at hm
set_option maxHeartbeats 1000000 in
theorem key_c (s : ByteArray) (w : World) : Calls Tryd.prog 20 #[.string s] w fun e w' => e = .returned (.bool (keyL s.data.toList)) ∧ Below w.heap.size w w' := by
  have HC := fun W : World => sContainsS_c W.heap.size 0 22 22 kwL s (W.alloc (strB kwL)) (by decide) (by decide) (fun j hj => strB_cell kwL W j hj)
  simp only [kw_in] at HC
  have HR := fun W => read_c s W
  have hk := read_in s
  unfold keyL
  obtain ⟨r, hr⟩ : ∃ r, readT s = r := ⟨_, rfl⟩
  obtain ⟨a, ha⟩ : ∃ a, decide (s.data.toList ∈ typeWords) = a := ⟨_, rfl⟩
  obtain ⟨b, hb⟩ : ∃ b, decide (s.data.toList ∈ keyWords) = b := ⟨_, rfl⟩
  simp only [ha, hb, hr] at HC HR hk ⊢
  clear ha hb hr
  simp only [strB, kwL, List.map] at HC
  cases a
  · go_enter Tryd.func20, Tryd.ntmps20
    go_wp2_with (first | (go_at_call 27; refine (HR _).mono ?_; rintro e w1 ⟨rfl, hb1⟩) | (go_at_call 28; refine (HC _).mono ?_; rintro e w2 ⟨rfl, rfl⟩))
    go_ret
    exact ⟨by simp, by first | exact hb1 | exact hb1.alloc hb1.size _⟩
  · go_enter Tryd.func20, Tryd.ntmps20
    go_wp2_with (first | (go_at_call 27; refine (HR _).mono ?_; rintro e w1 ⟨rfl, hb1⟩))
    go_ret
    exact ⟨by simp, by first | exact hb1 | exact hb1.alloc hb1.size _⟩
def sgL : List ByteArray := [⟨#[61,61]⟩,⟨#[33,61]⟩,⟨#[60,61]⟩,⟨#[62,61]⟩,⟨#[60,60]⟩,⟨#[62,62]⟩]
theorem sgL_data : sgL.map (fun x => x.data.toList) = signs2 := by decide +kernel
theorem sg_in (s : ByteArray) : Lib.containsS (sgL.take 6) s = decide (s.data.toList ∈ signs2) := by
  have h0 : sgL.take 6 = sgL := rfl
  rw [h0, Bool.eq_iff_iff, Lib.containsS_iff, decide_eq_true_eq, mem_data, sgL_data]
theorem chI_u8 (l : List UInt8) (i : Nat) : (chI l i).toNat.toUInt8 = l.getD i 0 := by
  unfold chI
  simp
set_option maxHeartbeats 1000000 in
theorem sign_c (s : ByteArray) (a : Nat) (w : World) (hs : s.size ≤ 4611686018427387904) (ha : a < s.size) :
    Calls Tryd.prog 23 #[.string s, .int .i64 (a : Int)] w fun e w' => e = .returned (.int .i64 (signL (s.data.toList.drop a) : Nat)) ∧ Below w.heap.size w w' := by
  have hlen : (s.data.toList.drop a).length = s.size - a := by rw [List.length_drop, ← Lib.size_eq]
  have hd : (s.data.toList.drop a).getD 0 0 = s.data.toList.getD a 0 := by simp [List.getD]
  have HI := fun W => sIndexByte_c ⟨signs1.toArray⟩ (chI s.data.toList a) W
  rw [chI_u8, chI_get s a ha] at HI
  have e0 : (ByteArray.mk signs1.toArray).data.toList = signs1 := rfl
  rw [e0] at HI
  have e1 : IntKind.i64.wrap ((a : Int) + 2) = (a : Int) + 2 := IntWalk.i64_in _ (by omega)
  have hS : signL (s.data.toList.drop a) = if 2 ≤ (s.data.toList.drop a).length ∧ (s.data.toList.drop a).take 2 ∈ signs2 then 2 else if 0 ≤ Lib.indexByte signs1 (s.data.toList.getD a 0) then 1 else 0 := by unfold signL; rw [hd]
  obtain ⟨z, hz⟩ : ∃ z, Lib.indexByte signs1 (s.data.toList.getD a 0) = z := ⟨_, rfl⟩
  rw [hz] at hS HI
  rw [hS]
  clear hS hz
  simp only [signs1] at HI
  have hge : 0 ≤ z ↔ 0 ≤ z := Iff.rfl
  by_cases h2 : a + 2 ≤ s.size
  · have g2 : ((a : Int) + 2 ≤ (s.size : Int)) := by omega
    have gd : decide ((a : Int) + 2 ≤ (s.size : Int)) = true := decide_eq_true g2
    have e3 : ((a : Int) + 2).toNat = a + 2 := by omega
    have HC := fun W : World => sContainsS_c W.heap.size 0 6 6 sgL (s.extract a (a + 2)) (W.alloc (strB sgL)) (by decide) (by decide) (fun j hj => strB_cell sgL W j hj)
    simp only [sg_in] at HC
    rw [Lib.extract_data, show a + 2 - a = 2 by omega] at HC
    rw [hlen]
    by_cases h3 : (s.data.toList.drop a).take 2 ∈ signs2
    · rw [if_pos ⟨by omega, h3⟩]
      rw [decide_eq_true h3] at HC
      simp only [strB, sgL, List.map] at HC
      clear h3 hlen hd e0 HI
      go_enter Tryd.func23, Tryd.ntmps23
      go_wp2_with (go_at_call 28; refine (HC _).mono ?_; rintro e w2 ⟨rfl, rfl⟩)
      go_ret
      exact ⟨rfl, (Below.refl _ _).alloc (Nat.le_refl _) _⟩
    · rw [if_neg (fun h => h3 h.2)]
      rw [decide_eq_false h3] at HC
      simp only [strB, sgL, List.map] at HC
      clear h3 hlen hd e0
      go_enter Tryd.func23, Tryd.ntmps23
      go_wp2_with (first | (go_at_call 28; refine (HC _).mono ?_; rintro e w2 ⟨rfl, rfl⟩) | (go_at_call 29; refine (HI _).mono ?_; rintro e w2 ⟨rfl, rfl⟩))
      · go_ret
        exact ⟨rfl, by first | exact Below.refl _ _ | exact (Below.refl _ _).alloc (Nat.le_refl _) _⟩
      · go_ret
        exact ⟨rfl, by first | exact Below.refl _ _ | exact (Below.refl _ _).alloc (Nat.le_refl _) _⟩
  · have g2 : ¬ ((a : Int) + 2 ≤ (s.size : Int)) := by omega
    have gd : decide ((a : Int) + 2 ≤ (s.size : Int)) = false := decide_eq_false g2
    rw [hlen, if_neg (by omega)]
    clear hlen hd e0
    go_enter Tryd.func23, Tryd.ntmps23
    go_wp2_with ((go_at_call 29; refine (HI _).mono ?_; rintro e w2 ⟨rfl, rfl⟩))
    · go_ret
      exact ⟨rfl, by first | exact Below.refl _ _ | exact (Below.refl _ _).alloc (Nat.le_refl _) _⟩
    · go_ret
      exact ⟨rfl, by first | exact Below.refl _ _ | exact (Below.refl _ _).alloc (Nat.le_refl _) _⟩
end Go.Proofs.YtfdlkbkheginlaaDoor.C
