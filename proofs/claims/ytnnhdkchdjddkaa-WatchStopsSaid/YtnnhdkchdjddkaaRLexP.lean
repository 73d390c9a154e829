/- The reference's way of reading a number comes to the same: plain Lean. -/
import Derived.Test.YtnnhdkchdjddkaaLexD
namespace Go.Proofs.Ytnnhdkchdjddkaa.C
open Go.RowKit
set_option linter.unusedSimpArgs false
set_option linter.unusedVariables false
def rvalueT (D : List UInt8) (t : Int) : Int × Int × Bool :=
  if D.length = 0 ∨ 10 < D.length ∨ (1 < D.length ∧ chI D 0 = 48) ∨ runL digitI D < D.length then (0, 0, false)
  else if maxL t < foldV 0 D then (0, 0, false) else (foldV 0 D, t, true)
theorem rvalueT_eq (D : List UInt8) (t : Int) : ((valueT D t).1, (valueT D t).2.1, decide ((valueT D t).2.2 = 0)) = rvalueT D t := by
  have hle := runL_le digitI D
  unfold valueT rvalueT
  by_cases h : D.length = 0 ∨ 10 < D.length ∨ (1 < D.length ∧ chI D 0 = 48) ∨ runL digitI D < D.length
  · rw [if_pos h]
    by_cases h1 : 10 < runL digitI D
    · rw [if_pos h1]; rfl
    · rw [if_neg h1]
      by_cases h2 : maxL t < foldV 0 (D.take (runL digitI D))
      · rw [if_pos h2]; rfl
      · rw [if_neg h2, if_pos]
        · rfl
        · rcases h with h | h | h | h
          · exact .inl (by omega)
          · exact .inr (.inl (by omega))
          · by_cases h3 : runL digitI D < D.length
            · exact .inr (.inl h3)
            · exact .inr (.inr ⟨by omega, h.2⟩)
          · exact .inr (.inl h)
  · have hr : runL digitI D = D.length := by
      rcases Nat.lt_or_ge (runL digitI D) D.length with h1 | h1
      · exact absurd (.inr (.inr (.inr h1))) h
      · omega
    rw [if_neg h, hr, List.take_length, if_neg (fun h1 => h (.inr (.inl h1)))]
    by_cases h2 : maxL t < foldV 0 D
    · rw [if_pos h2, if_pos h2]; rfl
    · rw [if_neg h2, if_neg h2, if_neg]
      · rfl
      · rintro (h1 | h1 | h1)
        · exact h (.inl h1)
        · omega
        · exact h (.inr (.inr (.inl h1)))
/-- What the reference's Number answers. -/
def rnumberL (d : List UInt8) : Int × Int × Bool := ((valueL d).1, (valueL d).2.1, decide ((valueL d).2.2 = 0))
theorem rnumberL_u (d : List UInt8) : rnumberL (d ++ [117]) = rvalueT d 6 := by
  unfold rnumberL
  rw [value_u, rvalueT_eq]
theorem suf_no {d : List UInt8} (h : ∀ x, d ≠ x ++ [117]) : Lib.hasSuffix d [117] = false := by
  rw [Bool.eq_false_iff]
  intro hs
  unfold Lib.hasSuffix at hs
  rw [List.isSuffixOf_iff_suffix] at hs
  obtain ⟨t, ht⟩ := hs
  exact h t ht.symm
theorem rnumberL_no {d : List UInt8} (h : ∀ x, d ≠ x ++ [117]) : rnumberL d = rvalueT d 5 := by
  have hs := suf_no h
  have ht : Lib.trimSuffix d [117] = d := by unfold Lib.trimSuffix; rw [hs]; rfl
  unfold rnumberL
  rw [valueL_eq, ht, hs, ← rvalueT_eq]
  rfl
theorem chI_takeR {l : List UInt8} {m k : Nat} (h : k < m) : chI (l.take m) k = chI l k := by
  unfold chI
  simp [List.getD, h]
theorem take_run_all (l : List UInt8) : allD (l.take (runL digitI l)) := by
  intro c hc
  obtain ⟨k, hk, he⟩ := List.getElem_of_mem hc
  rw [List.length_take] at hk
  have hlt := runL_lt digitI l k (by omega)
  have e : chI l k = (c.toNat : Int) := by
    have h2 : l[k]'(hlt.1) = c := by rw [← he, List.getElem_take]
    unfold chI
    rw [← h2]
    simp [List.getD, hlt.1]
  rw [← e]
  exact hlt.2
theorem take_cnt (l : List UInt8) : l.take (cntL l) = l.take (runL digitI l) ++ (if runL digitI l < l.length ∧ chI l (runL digitI l) = 117 then [117] else []) := by
  unfold cntL
  by_cases h : runL digitI l < l.length ∧ chI l (runL digitI l) = 117
  · rw [if_pos h, if_pos h, take_snoc l _ h.1]
    congr 2
    have := h.2
    unfold chI at this
    apply UInt8.toNat_inj.1
    show _ = 117
    omega
  · rw [if_neg h, if_neg h, List.append_nil]
theorem foldV_zero {d : List UInt8} (ha : allD d) (h1 : 1 < d.length) (h10 : d.length ≤ 10) (h0 : chI d 0 = 48) : foldV 0 d < 1000000000 := by
  cases d with
  | nil => simp at h1
  | cons c r =>
    have hc : (c.toNat : Int) = 48 := h0
    have e : foldV 0 (c :: r) = foldV 0 r := by
      show foldV (10 * 0 + ((c.toNat : Int) - 48)) r = _
      rw [hc]; rfl
    have hr : allD r := fun x hx => ha x (by simp [hx])
    have hrun : runL digitI r = r.length := by have := runL_all hr [] (by simp); rwa [List.append_nil] at this
    have hb := (foldV_bound r r.length (by omega)).2
    rw [List.take_length] at hb
    have hp : (10 : Int) ^ r.length ≤ 1000000000 := by
      have hl : r.length ≤ 9 := by simp at h10; omega
      obtain ⟨n, hn⟩ : ∃ n, r.length = n := ⟨_, rfl⟩
      rw [hn] at hl ⊢
      rcases (by omega : n = 0 ∨ n = 1 ∨ n = 2 ∨ n = 3 ∨ n = 4 ∨ n = 5 ∨ n = 6 ∨ n = 7 ∨ n = 8 ∨ n = 9) with rfl | rfl | rfl | rfl | rfl | rfl | rfl | rfl | rfl | rfl <;> decide
    omega
/-- The error of a number in a text, as the reference finds it. -/
def rnumE (l : List UInt8) : Int :=
  if 10 < runL digitI l then 3
  else if 1 < runL digitI l ∧ chI l 0 = 48 then 4
  else if (rnumberL (l.take (cntL l))).2.2 = false then 3
  else if cntL l < l.length ∧ withinI (chI l (cntL l)) = true then 4 else 0
theorem rnumE_eq {l : List UInt8} (h0 : 0 < runL digitI l) : rnumE l = (numberL l).2 := by
  have hle := runL_le digitI l
  have ha := take_run_all l
  have hdl : (l.take (runL digitI l)).length = runL digitI l := by rw [List.length_take]; omega
  have hd0 : chI (l.take (runL digitI l)) 0 = chI l 0 := chI_takeR (by omega)
  have hval : ∃ t, (t = 5 ∨ t = 6) ∧ valueL (l.take (cntL l)) = valueT (l.take (runL digitI l)) t := by
    rw [take_cnt]
    by_cases h : runL digitI l < l.length ∧ chI l (runL digitI l) = 117
    · rw [if_pos h]; exact ⟨6, .inr rfl, value_u _⟩
    · rw [if_neg h, List.append_nil]; exact ⟨5, .inl rfl, value_d ha⟩
  obtain ⟨t, ht, hv⟩ := hval
  have hm : 2147483647 ≤ maxL t := by rcases ht with rfl | rfl <;> decide
  rw [valueT_all ha, hdl, hd0] at hv
  unfold rnumE numberL rnumberL
  by_cases h1 : 10 < runL digitI l
  · rw [if_pos h1] at hv ⊢
    rw [hv, if_pos (by simp)]
  · rw [if_neg h1] at hv ⊢
    by_cases h2 : 1 < runL digitI l ∧ chI l 0 = 48
    · rw [if_pos h2]
      have hz := foldV_zero ha (by omega) (by omega) (by rw [hd0]; exact h2.2)
      rw [if_neg (by omega), if_pos (.inr h2)] at hv
      rw [hv, if_pos (by simp)]
    · rw [if_neg h2]
      by_cases h3 : maxL t < foldV 0 (l.take (runL digitI l))
      · rw [if_pos h3] at hv
        rw [hv, if_pos (by simp), if_pos (by simp)]
      · rw [if_neg h3, if_neg (by rintro (h | h); omega; exact h2 h)] at hv
        rw [hv]
        simp only
        rw [if_neg (show ¬ decide True = false by decide), if_neg (show ¬ ((0 : Int) ≠ 0) by decide)]
        by_cases hw : cntL l < l.length ∧ withinI (chI l (cntL l)) = true
        · rw [if_pos hw, if_pos hw]
        · rw [if_neg hw, if_neg hw]
end Go.Proofs.Ytnnhdkchdjddkaa.C
