/- slices.Repeat of one number: walks. -/
import Derived.Test.YtdmphpkiclfhhaaZBuild
import Derived.Laws.CopyOwn
import Derived.Test.YtdmphpkiclfhhaaMul
import Derived.Deep.RegionLaw
import Derived.Test.YtdmphpkiclfhhaaTwo
namespace Go.Proofs.Ytdmphpkiclfhhaa.C
open Go.RowKit
set_option linter.unusedSimpArgs false
set_option linter.unusedVariables false
/-- m places of n are filled. -/
def fill (n m : Nat) (v : Int) : List Value := (List.range n).map fun j => Value.int .i64 (if j < m then v else 0)
theorem fill_made (n : Nat) (v : Int) : (madeCells #[.int .i64 0] n) = (fill n 0 v).toArray := by
  have h := toList_madeCells_one (.int .i64 0) n
  have h2 : fill n 0 v = List.replicate n (.int .i64 0) := by
    unfold fill
    simp [List.map_const']
  rw [h2, ← h]
theorem fill_length (n m : Nat) (v : Int) : (fill n m v).length = n := by simp [fill]
theorem fill_get (n m : Nat) (v : Int) (j : Nat) : (fill n m v)[j]? = if j < n then some (Value.int .i64 (if j < m then v else 0)) else none := by
  unfold fill
  rw [List.getElem?_map]
  by_cases h : j < n
  · rw [if_pos h, List.getElem?_range h]; rfl
  · rw [if_neg h, List.getElem?_eq_none (by simp; omega)]; rfl
theorem fill_splice (n m q : Nat) (v : Int) (h : m + q ≤ n) : splice (fill n m v) m (List.replicate q (Value.int .i64 v)) = fill n (m + q) v := by
  apply List.ext_getElem?
  intro j
  unfold splice
  rw [fill_get]
  by_cases h1 : j < m
  · rw [List.getElem?_append_left (by simp [fill_length]; omega), List.getElem?_take, if_pos h1, fill_get, if_pos (by omega), if_pos h1, if_pos (by omega), if_pos (by omega)]
  · rw [List.getElem?_append_right (by simp [fill_length]; omega)]
    have hl : ((fill n m v).take m).length = m := by simp [fill_length]; omega
    rw [hl]
    by_cases h2 : j < m + q
    · rw [List.getElem?_append_left (by simp; omega), List.getElem?_replicate, if_pos (by omega), if_pos (by omega), if_pos h2]
    · rw [List.getElem?_append_right (by simp; omega), List.getElem?_drop, fill_get]
      simp only [List.length_replicate]
      rw [show m + q + (j - m - q) = j by omega]
      by_cases h3 : j < n
      · rw [if_pos h3, if_pos h3, if_neg h1, if_neg h2]
      · rw [if_neg h3, if_neg h3]
set_option maxRecDepth 100000 in
set_option maxHeartbeats 6400000 in
theorem repeat1_c (a : Addr) (v : Int) (n : Nat) (w : World) (hn : 1 ≤ n) (hn2 : n ≤ 1000) (hc : w.cell? a = some (.int .i64 v)) :
    Calls Try.prog 121 #[.slice (some a) 1 1, .int .i64 n] w fun e w' => ∃ g, e = .returned (.slice (some ⟨g, 0, none⟩) n n) ∧ RowNew w g n n (fun _ => v) w' := by
  have hmk := fun W => run_make_row' (P := Try.prog) 41 3 (.int .i64 0) 8 Try.underlying41 infoI rfl .i64 .i64 n (by omega) (by omega) W
  have h1 : (Try.prog.info? 3).map (·.size) = some 1 := by kernel_rfl
  have HC := Lib.hid hc
  have g0 : decide ((n : Int) < 0) = false := decide_eq_false (by omega)
  clear hc
  go_enter Try.func121, Try.ntmps121
  go_upto_region 7 with (go_at_call 117; refine (mul_1 n _ (by omega)).mono ?_; rintro e w' ⟨rfl, rfl⟩)
  clear hmk
  have hcell : (w.alloc (.cells (madeCells #[.int .i64 0] n) 3)).cell? a = some (.int .i64 v) := cell_later ((Below.refl _ _).alloc (Nat.le_refl _) _) HC.out
  have hblk : (w.alloc (.cells (madeCells #[.int .i64 0] n) 3)).heap[w.heap.size]? = some (.cells (fill n 0 v).toArray 3 (0, 0)) := by rw [← fill_made]; exact heap_alloc_new _ _
  have hsrc : ∀ j u, (List.replicate 1 (Value.int .i64 v))[j]? = some u → (w.alloc (.cells (madeCells #[.int .i64 0] n) 3)).cell? (a.add j) = some u := fun j u hu => by
    cases j with
    | zero =>
      simp at hu
      rw [← hu, show a.add 0 = a from by unfold Addr.add; rw [if_pos rfl]]
      exact hcell
    | succ j => simp at hu
  have HX := Lib.hid (And.intro hsrc hblk)
  clear hcell hblk hsrc
  have hmin : (List.replicate 1 (Value.int .i64 v)).length = Nat.min 1 n := by show 1 = min 1 n; omega
  go_upto_region 8 with (with_reducible refine wpList_copy_splice rfl (.tmp 31) (.tmp 32) 41 41 rfl 3 Try.underlying41 h1 (some ⟨w.heap.size, 0, none⟩) (some a) n n 1 1 rfl rfl w.heap.size 0 (fill n 0 v) 3 HX.out.2 (List.replicate 1 (.int .i64 v)) hmin (fun _ => ⟨rfl, a, rfl, HX.out.1⟩) (by simp [fill_length]; omega) (by simp [Value.oneCell']) w.heap.size w ((Below.refl _ _).alloc (Nat.le_refl _) _) (Nat.le_refl _) ?_; intro w1 hg1 hb1)
  have HG : Hid (w1.heap[w.heap.size]? = some (.cells (fill n 1 v).toArray 3 (0, 0))) := Lib.hid (by have := hg1.out; rw [fill_splice n 0 1 v (by omega)] at this; simpa using this)
  have HB := Lib.hid hb1
  clear hg1 hb1 HX hmin
  obtain ⟨g, hge⟩ : ∃ g, w.heap.size = g := ⟨_, rfl⟩
  have HGE := Lib.hid hge
  rw [hge] at HG HB
  simp only [hge]
  clear hge
  go_wp2_with fail
  go_loopw [8] (fun u wr => ∃ m : Nat, 1 ≤ m ∧ m ≤ n ∧ u = .int .i64 m ∧ wr.heap[g]? = some (.cells (fill n m v).toArray 3 (0, 0)) ∧ Below g w wr) (fun u _ => n - (intOf u).toNat)
  case atStart => exact ⟨1, Nat.le_refl _, hn, rfl, HG.out, HB.out⟩
  case round =>
    obtain ⟨m, hm1, hm2, rfl, hg, hb⟩ := hrel
    have HGr := Lib.hid hg
    have HBr := Lib.hid hb
    clear hg hb
    by_cases hlt : m < n
    · obtain ⟨q, hq⟩ : ∃ q, Nat.min m (n - m) = q := ⟨_, rfl⟩
      have hq' : min m (n - m) = q := hq
      have hq1 : 1 ≤ q := by omega
      have hq2 : m + q ≤ n := by omega
      have hql : (List.replicate q (Value.int .i64 v)).length = Nat.min m (n - m) := by rw [hq]; simp
      have hsrc : ∀ j u, (List.replicate q (Value.int .i64 v))[j]? = some u → wr.drew.cell? ((⟨g, 0, none⟩ : Addr).add j) = some u := fun j u hu => by
        have hj : j < q := by
          rcases Nat.lt_or_ge j q with h | h
          · exact h
          · rw [List.getElem?_eq_none (by simp; exact h)] at hu; cases hu
        rw [List.getElem?_replicate, if_pos hj] at hu
        rw [addr_plain]
        show wr.cell? ⟨g, j, none⟩ = some u
        rw [cell_of_row wr g j _ _ _ HGr.out, List.getElem?_toArray, fill_get, if_pos (by omega), if_pos (by omega)]
        exact hu
      have HS := Lib.hid hsrc
      have HQ := Lib.hid hql
      have HFS := Lib.hid (fill_splice n m q v hq2)
      have hm0 : (0 : Int) ≤ (m : Int) := by omega
      have hmn : (m : Int) ≤ (n : Int) := by omega
      have hne : (n = m) = False := by simp; omega
      have hne' : (m = n) = False := by simp; omega
      clear hq hq' hql hsrc
      go_upto_region 9 with fail
      refine region_two 7 (fun _ => True) [(false, _ :: _ :: _ :: _ :: _ :: _ :: [_])] (by kernel_rfl) ?hB rfl trivial (fun _ _ => ?_)
      case hB => kernel_rfl
      (try simp only [wpSeg, twoC, if_true, Bool.false_eq_true, if_false])
      iterate 7 (go_big_quiet_step (fail))
      refine wpQuiet_nil ?_
      (try simp only [wpSeg, twoC, if_true, Bool.false_eq_true, if_false])
      refine wpOp_step rfl (fun K hK => ?_)
      refine step_copy_splice rfl (.tmp 41) (.tmp 44) 41 41 rfl 3 Try.underlying41 h1 (some ⟨g, m, none⟩) (some ⟨g, 0, none⟩) (n - m) (n - m) m n (by rfl) (by rfl) g m (fill n m v) 3 (by exact HGr.out) (List.replicate q (.int .i64 v)) HQ.out (fun _ => ⟨rfl, _, rfl, HS.out⟩) (by simp [fill_length]; omega) (by simp [Value.oneCell']) g w HBr.out.drew (Nat.le_refl _) ?_
      intro w2 hg2 hb2
      refine hK _ _ ⟨trivial, ?_⟩
      have HG2 : Hid (w2.heap[g]? = some (.cells (fill n (m + q) v).toArray 3 (0, 0))) := Lib.hid (by have := hg2.out; rwa [HFS.out] at this)
      have HB2 := Lib.hid hb2
      have hgo : goInt (List.replicate q (Value.int .i64 v)).length = Value.int .i64 (q : Int) := by simp [goInt]
      rw [hgo]
      clear hK K hg2 hb2 hgo HS HQ HFS HGr HBr hne hne'
      simp only [List.drop_succ_cons, List.drop_zero]
      go_wp2_with fail
      refine NoPanic.normal ?_
      go_wp2_with fail
      all_goals exact ⟨⟨m + q, by omega, by omega, by go_num, HG2.out, HB2.out⟩, by simp [intOf]; omega⟩
    · obtain rfl : m = n := by omega
      clear hlt hm1 hm2
      go_wp2_with fail
      go_ret
      refine ⟨g, rfl, by rw [HGE.out]; exact Nat.le_refl _, (Array.getElem?_eq_some_iff.1 HGr.out).1, Nat.le_refl _, fun j hj => ?_, fun j hj => ?_, by rw [HGE.out]; exact HBr.out⟩
      · rw [cell_of_row wr g j _ _ _ HGr.out, List.getElem?_toArray, fill_get, if_pos hj, if_pos hj]
      · simp [World.frozen?, HGr.out]
end Go.Proofs.Ytdmphpkiclfhhaa.C
