/- lex.key, lex.sign: walks. -/
import Derived.Test.YtnnhdkchdjddkaaTyp
import Derived.Test.YtnnhdkchdjddkaaLexLib
import Derived.Test.YtnnhdkchdjddkaaLexRun
namespace Go.Proofs.Ytnnhdkchdjddkaa.C
open Go.RowKit
set_option linter.unusedSimpArgs false
set_option linter.unusedVariables false
def kwL : List ByteArray := [⟨#[103,108,111,98,97,108]⟩,⟨#[102,110]⟩,⟨#[114,101,113,117,105,114,101,115]⟩,⟨#[101,110,115,117,114,101,115]⟩,⟨#[97,115,115,105,103,110,115]⟩,⟨#[110,111,116,104,105,110,103]⟩,⟨#[108,101,116]⟩,⟨#[99,97,108,108]⟩,⟨#[105,102]⟩,⟨#[101,108,115,101]⟩,⟨#[119,104,105,108,101]⟩,⟨#[105,110,118,97,114,105,97,110,116]⟩,⟨#[98,114,101,97,107]⟩,⟨#[99,111,110,116,105,110,117,101]⟩,⟨#[114,101,116,117,114,110]⟩,⟨#[97,115,115,101,114,116]⟩,⟨#[105,110,112,117,116]⟩,⟨#[111,108,100]⟩,⟨#[114,101,115,117,108,116]⟩,⟨#[110,111,116]⟩,⟨#[97,110,100]⟩,⟨#[111,114]⟩]
def strB (l : List ByteArray) : Obj := .cells (l.map Value.string).toArray 9 (0, 0)
theorem strB_cell (l : List ByteArray) (w : World) (j : Nat) (h : j < l.length) : (w.alloc (strB l)).cell? ⟨w.heap.size, 0 + j, none⟩ = some (.string (l.getD j ByteArray.empty)) := by
  rw [Nat.zero_add]
  have h1 := heap_alloc_new w (strB l)
  rw [cell_of_row _ _ _ _ _ _ h1]
  simp [List.getD, h]
theorem kwL_data : kwL.map (fun x => x.data.toList) = keyWords := by decide +kernel
theorem namesL_data : namesL.map (fun x => x.data.toList) = typeWords := by decide +kernel
theorem mem_data (l : List ByteArray) (s : ByteArray) : s ∈ l ↔ s.data.toList ∈ l.map (fun x => x.data.toList) := by
  constructor
  · intro h; exact List.mem_map.2 ⟨s, h, rfl⟩
  · intro h
    obtain ⟨x, hx, he⟩ := List.mem_map.1 h
    have : x = s := by
      obtain ⟨⟨a⟩⟩ := x
      obtain ⟨⟨b⟩⟩ := s
      have : a = b := he
      rw [this]
    rwa [← this]
theorem kw_in (s : ByteArray) : Lib.containsS (kwL.take 22) s = decide (s.data.toList ∈ keyWords) := by
  have h0 : kwL.take 22 = kwL := rfl
  rw [h0, Bool.eq_iff_iff, Lib.containsS_iff, decide_eq_true_eq, mem_data, kwL_data]
theorem read_in (s : ByteArray) : decide (0 < readT s) = decide (s.data.toList ∈ typeWords) := by
  rw [Bool.eq_iff_iff, decide_eq_true_eq, decide_eq_true_eq, ← namesL_data, ← mem_data]
  unfold readT
  have hr := idxT_range namesL s
  constructor
  · intro h
    rcases hc : namesL.findIdx? (fun x => s.toList == x.toList) with _ | n
    · unfold idxT at h
      rw [hc] at h
      simp at h
    · obtain ⟨hn, h2, _⟩ := List.findIdx?_eq_some_iff_getElem.1 hc
      have h3 := (Lib.bytes_beq_iff _ _).1 h2
      rw [h3]
      exact List.getElem_mem _
  · intro h
    obtain ⟨n, hn, he⟩ := List.getElem_of_mem h
    by_cases hb : 0 < idxT namesL s + 1
    · exact hb
    · exfalso
      have hm : idxT namesL s = -1 := by omega
      unfold idxT at hm
      rcases hc : namesL.findIdx? (fun x => s.toList == x.toList) with _ | k
      · have := List.findIdx?_eq_none_iff.1 hc s h
        simp at this
      · rw [hc] at hm
        simp at hm
def sgL : List ByteArray := [⟨#[61,61]⟩,⟨#[33,61]⟩,⟨#[60,61]⟩,⟨#[62,61]⟩,⟨#[60,60]⟩,⟨#[62,62]⟩]
theorem sgL_data : sgL.map (fun x => x.data.toList) = signs2 := by decide +kernel
theorem sg_in (s : ByteArray) : Lib.containsS (sgL.take 6) s = decide (s.data.toList ∈ signs2) := by
  have h0 : sgL.take 6 = sgL := rfl
  rw [h0, Bool.eq_iff_iff, Lib.containsS_iff, decide_eq_true_eq, mem_data, sgL_data]
theorem chI_u8 (l : List UInt8) (i : Nat) : (chI l i).toNat.toUInt8 = l.getD i 0 := by
  unfold chI
  simp
end Go.Proofs.Ytnnhdkchdjddkaa.C
