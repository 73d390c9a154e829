/- Rows of intervals of the call's own: plain facts; slices.Clone of such a row: walk. -/
import Derived.Test.YtdmphpkiclfhhaaCell
namespace Go.Proofs.Ytdmphpkiclfhhaa.C
open Go.RowKit
set_option linter.unusedSimpArgs false
set_option linter.unusedVariables false
theorem infoItv : (Try.prog.info? 39).map (fun i => (i.zero, i.size, i.bytes)) = some (some (.agg #[.int .i64 0, .int .i64 0]), 2, 16) := by kernel_rfl
theorem i_plain (g j : Nat) : (⟨g, 0, none⟩ : Addr).add j = ⟨g, j, none⟩ := by unfold Addr.add; split <;> simp_all
/-- The cells of a row. -/
def xsI (r : Nat → Int × Int) (n : Nat) : List Value := (List.range (n * 2)).map fun j => if j % 2 = 0 then Value.int .i64 (r (j / 2)).1 else Value.int .i64 (r (j / 2)).2
theorem xsI_len (r : Nat → Int × Int) (n : Nat) : (xsI r n).length = n * 2 := by simp [xsI]
theorem xsI_get (r : Nat → Int × Int) (n j : Nat) : (xsI r n)[j]? = if j < n * 2 then some (if j % 2 = 0 then Value.int .i64 (r (j / 2)).1 else Value.int .i64 (r (j / 2)).2) else none := by
  unfold xsI
  rw [List.getElem?_map]
  by_cases h : j < n * 2
  · rw [if_pos h, List.getElem?_range h]; rfl
  · rw [if_neg h, List.getElem?_eq_none (by simp; omega)]; rfl
theorem xsI_at (r : Nat → Int × Int) {n k : Nat} (hk : k < n) : (xsI r n)[k * 2]? = some (.int .i64 (r k).1) ∧ (xsI r n)[k * 2 + 1]? = some (.int .i64 (r k).2) := by
  rw [xsI_get, xsI_get, if_pos (by omega), if_pos (by omega), if_pos (by omega), if_neg (by omega)]
  have e1 : k * 2 / 2 = k := by omega
  have e2 : (k * 2 + 1) / 2 = k := by omega
  rw [e1, e2]
  exact ⟨rfl, rfl⟩
theorem xsI_one (r : Nat → Int × Int) (n : Nat) : ∀ u ∈ xsI r n, u.oneCell' = true := by
  intro u hu
  unfold xsI at hu
  obtain ⟨j, _, rfl⟩ := List.mem_map.1 hu
  split <;> simp [Value.oneCell']
theorem xsI_congr {r s : Nat → Int × Int} {n : Nat} (h : ∀ i, i < n → r i = s i) : xsI r n = xsI s n := by
  apply List.ext_getElem?
  intro j
  rw [xsI_get, xsI_get]
  by_cases hj : j < n * 2
  · rw [if_pos hj, if_pos hj, h (j / 2) (by omega)]
  · rw [if_neg hj, if_neg hj]
theorem xsI_snoc (r : Nat → Int × Int) (n : Nat) : xsI r n ++ [.int .i64 (r n).1, .int .i64 (r n).2] = xsI r (n + 1) := by
  apply List.ext_getElem?
  intro j
  rw [List.getElem?_append, xsI_len, xsI_get, xsI_get]
  by_cases h1 : j < n * 2
  · rw [if_pos h1, if_pos h1, if_pos (show j < (n + 1) * 2 by omega)]
  · rw [if_neg h1]
    by_cases h2 : j = n * 2
    · subst h2
      rw [if_pos (by omega), if_pos (by omega)]
      have e1 : n * 2 / 2 = n := by omega
      simp [e1]
    · by_cases h3 : j = n * 2 + 1
      · subst h3
        rw [if_pos (by omega), if_neg (by omega)]
        have e1 : (n * 2 + 1) / 2 = n := by omega
        have e2 : n * 2 + 1 - n * 2 = 1 := by omega
        rw [e2, e1]
        rfl
      · rw [if_neg (by omega), List.getElem?_eq_none (by simp; omega)]
/-- One place of a row anew. -/
def updI (r : Nat → Int × Int) (k : Nat) (p : Int × Int) : Nat → Int × Int := fun i => if i = k then p else r i
theorem xsI_upd (r : Nat → Int × Int) {n k : Nat} (hk : k < n) (p : Int × Int) : ((xsI r n).set (k * 2) (.int .i64 p.1)).set (k * 2 + 1) (.int .i64 p.2) = xsI (updI r k p) n := by
  apply List.ext_getElem?
  intro j
  rw [List.getElem?_set, List.getElem?_set, xsI_get, xsI_get]
  simp only [List.length_set, xsI_len]
  unfold updI
  by_cases h1 : k * 2 + 1 = j
  · subst h1
    have e : (k * 2 + 1) / 2 = k := by omega
    rw [if_pos rfl, if_pos (by omega), if_pos (by omega), if_neg (by omega), e, if_pos rfl]
  · rw [if_neg h1]
    by_cases h2 : k * 2 = j
    · subst h2
      have e : k * 2 / 2 = k := by omega
      rw [if_pos rfl, if_pos (by omega), if_pos (by omega), if_pos (by omega), e, if_pos rfl]
    · rw [if_neg h2, if_neg (show ¬ j / 2 = k by omega)]
theorem ownI_below {w w1 : World} {base : Nat} {e : TypeId} {size : Nat} {v : Value} {n : Nat} {xs : List Value} (h : w.ownsRow base e size v n xs) (hb : Below w.heap.size w w1) : w1.ownsRow base e size v n xs := by
  obtain ⟨h1, h2⟩ := h
  refine ⟨h1, ?_⟩
  rcases h2 with h2 | ⟨g, cap, cur, rfl, hg, hh, r⟩
  · exact .inl h2
  · exact .inr ⟨g, cap, cur, rfl, hg, (hb.block g (Array.getElem?_eq_some_iff.1 hh).1).trans hh, r⟩
/-- A row of intervals that lies in the call's own memory. -/
def OI (w : World) (base : Nat) (A : Option Addr) (n c : Nat) (r : Nat → Int × Int) : Prop := w.ownsRow base 39 2 (.slice A n c) n (xsI r n)
theorem OI.below {w w' : World} {base : Nat} {A : Option Addr} {n c : Nat} {r : Nat → Int × Int} (h : OI w base A n c r) (hb : Below w.heap.size w w') : OI w' base A n c r := ownI_below h hb
theorem OI.mono {w : World} {base base' : Nat} {A : Option Addr} {n c : Nat} {r : Nat → Int × Int} (h : OI w base A n c r) (hb : base' ≤ base) : OI w base' A n c r := by
  obtain ⟨h1, h2⟩ := h
  refine ⟨h1, ?_⟩
  rcases h2 with h2 | ⟨g, cap, cur, e, hg, r⟩
  · exact .inl h2
  · exact .inr ⟨g, cap, cur, e, by omega, r⟩
theorem OI.congr {w : World} {base : Nat} {A : Option Addr} {n c : Nat} {r s : Nat → Int × Int} (h : OI w base A n c r) (e : ∀ i, i < n → r i = s i) : OI w base A n c s := by
  unfold OI at *
  rw [← xsI_congr e]
  exact h
theorem OI.max {w : World} {base : Nat} {A : Option Addr} {n c : Nat} {r : Nat → Int × Int} (h : OI w base A n c r) : n ≤ 9223372036854775807 := by
  rcases h.2 with ⟨_, h2⟩ | ⟨g, cap, cur, e, hg, hc, hl, hm, _⟩
  · omega
  · unfold maxLen at hm; omega
theorem OI.at {w : World} {base : Nat} {A : Option Addr} {n c k : Nat} {r : Nat → Int × Int} (h : OI w base A n c r) (hk : k < n) :
    ∃ g, A = some ⟨g, 0, none⟩ ∧ base ≤ g ∧ g < w.heap.size ∧ w.cell? ⟨g, k * 2, none⟩ = some (.int .i64 (r k).1) ∧ w.cell? ⟨g, k * 2 + 1, none⟩ = some (.int .i64 (r k).2) ∧ w.frozen? ⟨g, k * 2, none⟩ = false ∧ w.frozen? ⟨g, k * 2 + 1, none⟩ = false := by
  have hh : w.ownsRow base 39 2 (.slice A n c) n (xsI r n) := h
  rcases h.2 with ⟨_, h2⟩ | ⟨g, cap, cur, e, hg, hc, hl, hm, _⟩
  · omega
  · injection e with e1 e2 e3
    subst e1
    refine ⟨g, rfl, hg, (Array.getElem?_eq_some_iff.1 hc).1, ?_, ?_, hh.frozenAt _, hh.frozenAt _⟩
    · rw [hh.cellAt _ (by omega)]; exact (xsI_at r hk).1
    · rw [hh.cellAt _ (by omega)]; exact (xsI_at r hk).2
theorem OI.cr {w : World} {base : Nat} {A : Option Addr} {n c : Nat} {r : Nat → Int × Int} (h : OI w base A n c r) : CR w A n r := by
  refine ⟨h.max, fun h0 => ?_⟩
  obtain ⟨g, rfl, hg, hl, _⟩ := h.at h0
  refine ⟨⟨g, 0, none⟩, rfl, hl, fun i hi => ?_⟩
  obtain ⟨g', e, _, _, c0, c1, _⟩ := h.at hi
  injection e with e
  injection e with e
  subst e
  rw [i_plain, i_plain]
  exact ⟨c0, c1⟩
theorem OI.put {w : World} {base g : Nat} {n c k : Nat} {r : Nat → Int × Int} (h : OI w base (some ⟨g, 0, none⟩) n c r) (hk : k < n) (p : Int × Int) :
    OI ((w.setCell ⟨g, k * 2, none⟩ (.int .i64 p.1)).setCell ⟨g, k * 2 + 1, none⟩ (.int .i64 p.2)) base (some ⟨g, 0, none⟩) n c (updI r k p) := by
  unfold OI at *
  rw [← xsI_upd r hk p]
  exact (World.ownsRow.stored (World.ownsRow.stored h _ _).1 _ _).1
theorem OI.ge {w : World} {base g : Nat} {n c : Nat} {r : Nat → Int × Int} (h : OI w base (some ⟨g, 0, none⟩) n c r) : base ≤ g := by
  rcases h.2 with ⟨e, _⟩ | ⟨g', cap, cur, e, hg, _⟩
  · injection e with e; cases e
  · injection e with e; injection e with e; injection e with e; omega
/-- What a call leaves that makes a row. -/
def NewI (n : Nat) (r : Nat → Int × Int) (w : World) (e : Ending) (w' : World) : Prop := ∃ A c, e = .returned (.slice A n c) ∧ OI w' w.heap.size A n c r ∧ Below w.heap.size w w'
theorem ownI_empty (w : World) (e : TypeId) (s : Nat) : (w.alloc (.cells #[] e)).ownsRow w.heap.size e s (.slice (some ⟨w.heap.size, 0, none⟩) 0 0) 0 [] :=
  ⟨by simp, .inr ⟨w.heap.size, 0, #[], rfl, Nat.le_refl _, by simpa using heap_alloc_new w (.cells #[] e), Nat.le_refl _, Nat.zero_le _, by simp, by simp⟩⟩
theorem CR.news {w : World} {ad : Addr} {n : Nat} {r : Nat → Int × Int} (h : CR w (some ad) n r) : ∀ j u, (xsI r n)[j]? = some u → w.cell? (ad.add j) = some u := by
  intro j u hu
  rw [xsI_get] at hu
  by_cases hj : j < n * 2
  · rw [if_pos hj] at hu
    injection hu with hu
    subst hu
    obtain ⟨ad', e, _, hc⟩ := h.2 (by omega)
    injection e with e
    subst e
    obtain ⟨c0, c1⟩ := hc (j / 2) (by omega)
    by_cases h2 : j % 2 = 0
    · rw [if_pos h2, ← c0]; congr 2; omega
    · rw [if_neg h2, ← c1]; congr 2; omega
  · rw [if_neg hj] at hu; cases hu
set_option maxHeartbeats 1600000 in
theorem cloneI_c (A : Option Addr) (n cap : Nat) (r : Nat → Int × Int) (w : World) (hn2 : n ≤ 1000) (hr : CR w A n r) :
    Calls Try.prog 109 #[.slice A n cap] w (NewI n r w) := by
  cases A with
  | none =>
    have h0 : n = 0 := by
      rcases Nat.eq_zero_or_pos n with h | h
      · exact h
      · obtain ⟨_, e, _⟩ := hr.2 h; cases e
    subst h0
    have hnil := fun W => run_eql_slice_nil (P := Try.prog) W 61 39 none 0 cap Try.underlying61
    clear hr
    go_enter Try.func109, Try.ntmps109
    go_wp2_with fail
    go_ret
    exact ⟨none, 0, rfl, World.ownsRow_nil _ _ _ _, Below.refl _ _⟩
  | some ad =>
    obtain ⟨i0, hi, hz⟩ := Option.map_eq_some_iff.1 infoItv
    simp only [Prod.mk.injEq] at hz
    obtain ⟨hz0, hz1, hz2⟩ := hz
    have hnil := fun W => run_eql_slice_nil (P := Try.prog) W 61 39 (some ad) n cap Try.underlying61
    have hcw : ∀ j u, (xsI r n)[j]? = some u → (w.alloc (.cells #[] 39)).cell? (ad.add j) = some u := fun j u hu => cell_later ((Below.refl _ _).alloc (Nat.le_refl _) _) (hr.news j u hu)
    clear hr
    go_enter Try.func109, Try.ntmps109
    go_wp2_with (at_builtin; refine wpList_append_own_at _ rfl _ _ 61 rfl w.heap.size 39 i0 (.agg #[.int .i64 0, .int .i64 0]) 2 16 Try.underlying61 hi hz0 hz1 hz2 rfl (by omega) (.slice (some ⟨w.heap.size, 0, none⟩) 0 0) 0 [] (by rfl) (ownI_empty w 39 2) ad n cap (xsI r n) (by rfl) (xsI_len _ _) hcw (xsI_one _ _) (by unfold maxLen; omega) (by omega) (by simp) ?_; intro v' w1 hown hg _ hat)
    have hb : Below w.heap.size w w1 := ((Below.refl _ _).alloc (Nat.le_refl _) _).grown hg (by simp) (by rintro k hk; simp [Value.ownBlock] at hk; omega)
    simp only [Nat.zero_add, List.nil_append] at hown
    have HP : Hid (∃ A c, v' = .slice A n c ∧ OI w1 w.heap.size A n c r) := Lib.hid (by
      rcases hown.2 with ⟨rfl, e⟩ | ⟨g, cap, cur, rfl, _⟩
      · exact ⟨none, 0, by rw [e], by subst e; exact hown⟩
      · exact ⟨_, _, rfl, hown⟩)
    have HB := Lib.hid hb
    clear hown hg hat hb hcw hz0 hz1 hz2 hi
    obtain ⟨va, rfl⟩ : ∃ va : Value, va = v' := ⟨_, rfl⟩
    go_wp2_with fail
    go_ret
    obtain ⟨A, c, rfl, ho⟩ := HP.out
    exact ⟨A, c, rfl, ho, HB.out⟩
end Go.Proofs.Ytdmphpkiclfhhaa.C
