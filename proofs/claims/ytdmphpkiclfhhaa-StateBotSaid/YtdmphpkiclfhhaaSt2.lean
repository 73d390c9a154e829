/- state: rows of rows of intervals; ContainsFunc, state.cloned, state.made: walks. -/
import Derived.Test.YtdmphpkiclfhhaaSt
import Derived.Deep.OwnRows
namespace Go.Proofs.Ytdmphpkiclfhhaa.C
open Go.RowKit
set_option linter.unusedSimpArgs false
set_option linter.unusedVariables false
attribute [local go_sem] fieldItv0 fieldItv1
/-- Some place has nothing. -/
def anyE (r : Nat → Int × Int) (n : Nat) : Bool := decide (∃ j, j < n ∧ (r j).2 < (r j).1)
theorem anyE_spec (r : Nat → Int × Int) (n : Nat) : anyE r n = true ↔ ∃ j, j < n ∧ (r j).2 < (r j).1 := by unfold anyE; simp
def IdxE (b : Bool) (w : World) (e : Ending) (w' : World) : Prop := ∃ i : Int, (e = .returned (.int .i64 i) ∧ decide (0 ≤ i) = b) ∧ Below w.heap.size w w'
theorem idxI_c (A : Option Addr) (n cap : Nat) (r : Nat → Int × Int) (w : World) (hr : CR w A n r) :
    Calls Try.prog 120 #[.slice A n cap, .func (.func (63)) #[] #[]] w (IdxE (anyE r n) w) := by
  have hmax := hr.1
  have HR := Lib.hid hr
  clear hr
  go_enter Try.func120, Try.ntmps120
  go_wp2_with fail
  go_loopw [8] (fun v wr => ∃ k : Nat, k ≤ n ∧ v = .int .i64 k ∧ Hid ((∀ j, j < k → (r j).1 ≤ (r j).2) ∧ Below w.heap.size w wr)) (fun v _ => n - (intOf v).toNat)
  case atStart => exact ⟨0, by omega, rfl, Lib.hid ⟨fun j hj => absurd hj (by omega), Below.refl _ _⟩⟩
  case round =>
    obtain ⟨k, hk, rfl, HI⟩ := hrel
    by_cases hlt : k < n
    · obtain ⟨ad, rfl, had, c0, c1⟩ := (HR.out.below HI.out.2).at hlt
      have hk0 : (0 : Int) ≤ (k : Int) := by omega
      have hk1 : (k : Int) < (n : Int) := by omega
      obtain ⟨p, hp⟩ : ∃ p, r k = p := ⟨_, rfl⟩
      rw [hp] at c0 c1
      have LE := fun W => itvEmpty_c p.1 p.2 W
      by_cases he : p.2 < p.1
      · rw [decide_eq_true he] at LE
        have e0 : Hid (decide (0 ≤ (k : Int)) = anyE r n) := Lib.hid (by rw [decide_eq_true hk0]; exact ((anyE_spec r n).2 ⟨k, hlt, by rw [hp]; exact he⟩).symm)
        clear he hp
        go_wp2_with (go_at_call 63; refine (LE _).mono ?_; rintro e w3 ⟨rfl, hb3⟩)
        go_ret
        exact ⟨k, ⟨rfl, e0.out⟩, below_next HI.out.2 HI.out.2.size hb3⟩
      · rw [decide_eq_false he] at LE
        have HF2 : Hid (∀ j, j < k + 1 → (r j).1 ≤ (r j).2) := Lib.hid (fun j hj => by
          by_cases q : j = k
          · subst q; rw [hp]; omega
          · exact HI.out.1 j (by omega))
        clear he hp
        go_wp2_with (go_at_call 63; refine (LE _).mono ?_; rintro e w3 ⟨rfl, hb3⟩)
        all_goals exact ⟨⟨k + 1, by omega, by go_num, Lib.hid ⟨HF2.out, below_next HI.out.2 HI.out.2.size hb3⟩⟩, by simp [intOf]; omega⟩
    · have e0 : Hid (decide (0 ≤ (-1 : Int)) = anyE r n) := Lib.hid (by
        have h1 : anyE r n = false := by
          rw [← Bool.not_eq_true, anyE_spec]
          rintro ⟨j, hj, e⟩
          have := HI.out.1 j (by omega); omega
        rw [h1]; rfl)
      obtain rfl : k = n := by omega
      go_wp2_with fail
      go_ret
      exact ⟨-1, ⟨rfl, e0.out⟩, HI.out.2⟩
theorem hasE_c (A : Option Addr) (n cap : Nat) (r : Nat → Int × Int) (w : World) (hr : CR w A n r) :
    Calls Try.prog 95 #[.slice A n cap, .func (.func (63)) #[] #[]] w fun e w' => e = .returned (.bool (anyE r n)) ∧ Below w.heap.size w w' := by
  have H := Lib.hid (idxI_c A n cap r w hr)
  clear hr
  go_enter Try.func95, Try.ntmps95
  go_wp2_with (go_at_call 120; refine (H.out).mono ?_; rintro e w' ⟨i, ⟨rfl, hi⟩, hb⟩)
  go_ret
  exact ⟨by rw [← hi]; rfl, hb⟩
theorem made1_c (A : Option Addr) (n cap : Nat) (r : Nat → Int × Int) (w : World) (hr : CR w A n r) :
    Calls Try.prog 94 #[.slice A n cap] w fun e w' => e = .returned (.bool (anyE r n)) ∧ Below w.heap.size w w' := by
  have H := Lib.hid (hasE_c A n cap r w hr)
  clear hr
  go_enter Try.func94, Try.ntmps94
  go_wp2_with (go_at_call 95; refine (H.out).mono ?_; rintro e w' ⟨rfl, hb⟩)
  go_ret
  exact ⟨rfl, hb⟩
/-- Rows of intervals that are read. -/
def CC (w : World) (B : Option Addr) (m : Nat) (ln : Nat → Nat) (rr : Nat → Nat → Int × Int) : Prop :=
  m ≤ 9223372036854775807 ∧ (∀ i, i < m → ln i ≤ 1000) ∧ (0 < m → ∃ ad : Addr, B = some ad ∧ ad.block < w.heap.size ∧ ∀ i, i < m → ∃ A c, w.cell? (ad.add i) = some (.slice A (ln i) c) ∧ CR w A (ln i) (rr i))
theorem CC.below {w w' : World} {B : Option Addr} {m : Nat} {ln : Nat → Nat} {rr : Nat → Nat → Int × Int} (h : CC w B m ln rr) (hb : Below w.heap.size w w') : CC w' B m ln rr :=
  ⟨h.1, h.2.1, fun h0 => by
    obtain ⟨ad, e, hl, hc⟩ := h.2.2 h0
    refine ⟨ad, e, Nat.lt_of_lt_of_le hl hb.size, fun i hi => ?_⟩
    obtain ⟨A, c, h1, h2⟩ := hc i hi
    exact ⟨A, c, cell_later hb h1, h2.below hb⟩⟩
def anyEE (ln : Nat → Nat) (rr : Nat → Nat → Int × Int) (m : Nat) : Bool := decide (∃ i, i < m ∧ anyE (rr i) (ln i) = true)
theorem anyEE_spec (ln : Nat → Nat) (rr : Nat → Nat → Int × Int) (m : Nat) : anyEE ln rr m = true ↔ ∃ i, i < m ∧ anyE (rr i) (ln i) = true := by unfold anyEE; simp
theorem idxII_c (B : Option Addr) (m cap : Nat) (ln : Nat → Nat) (rr : Nat → Nat → Int × Int) (w : World) (hr : CC w B m ln rr) :
    Calls Try.prog 119 #[.slice B m cap, .func (.func (94)) #[] #[]] w (IdxE (anyEE ln rr m) w) := by
  have hmax := hr.1
  have HR := Lib.hid hr
  clear hr
  go_enter Try.func119, Try.ntmps119
  go_wp2_with fail
  go_loopw [8] (fun v wr => ∃ k : Nat, k ≤ m ∧ v = .int .i64 k ∧ Hid ((∀ j, j < k → anyE (rr j) (ln j) = false) ∧ Below w.heap.size w wr)) (fun v _ => m - (intOf v).toNat)
  case atStart => exact ⟨0, by omega, rfl, Lib.hid ⟨fun j hj => absurd hj (by omega), Below.refl _ _⟩⟩
  case round =>
    obtain ⟨k, hk, rfl, HI⟩ := hrel
    by_cases hlt : k < m
    · obtain ⟨ad, rfl, had, hc⟩ := (HR.out.below HI.out.2).2.2 (by omega)
      obtain ⟨A1, d1, c0, hcr⟩ := hc k hlt
      have hk0 : (0 : Int) ≤ (k : Int) := by omega
      have hk1 : (k : Int) < (m : Int) := by omega
      clear hc
      have M1 := Lib.hid (made1_c A1 (ln k) d1 (rr k) wr hcr)
      obtain ⟨v, hv⟩ : ∃ v, anyE (rr k) (ln k) = v := ⟨_, rfl⟩
      rw [hv] at M1
      cases v
      · have HF2 : Hid (∀ j, j < k + 1 → anyE (rr j) (ln j) = false) := Lib.hid (fun j hj => by
          by_cases q : j = k
          · subst q; exact hv
          · exact HI.out.1 j (by omega))
        clear hv hcr
        go_wp2_with (go_at_call 94; refine (M1.out).mono ?_; rintro e w3 ⟨rfl, hb3⟩)
        all_goals exact ⟨⟨k + 1, by omega, by go_num, Lib.hid ⟨HF2.out, below_next HI.out.2 HI.out.2.size hb3⟩⟩, by simp [intOf]; omega⟩
      · have e0 : Hid (decide (0 ≤ (k : Int)) = anyEE ln rr m) := Lib.hid (by rw [decide_eq_true hk0]; exact ((anyEE_spec ln rr m).2 ⟨k, hlt, hv⟩).symm)
        clear hv hcr
        go_wp2_with (go_at_call 94; refine (M1.out).mono ?_; rintro e w3 ⟨rfl, hb3⟩)
        go_ret
        exact ⟨k, ⟨rfl, e0.out⟩, below_next HI.out.2 HI.out.2.size hb3⟩
    · have e0 : Hid (decide (0 ≤ (-1 : Int)) = anyEE ln rr m) := Lib.hid (by
        have h1 : anyEE ln rr m = false := by
          rw [← Bool.not_eq_true, anyEE_spec]
          rintro ⟨j, hj, e⟩
          rw [HI.out.1 j (by omega)] at e
          cases e
        rw [h1]; rfl)
      obtain rfl : k = m := by omega
      go_wp2_with fail
      go_ret
      exact ⟨-1, ⟨rfl, e0.out⟩, HI.out.2⟩
theorem hasEE_c (B : Option Addr) (m cap : Nat) (ln : Nat → Nat) (rr : Nat → Nat → Int × Int) (w : World) (hr : CC w B m ln rr) :
    Calls Try.prog 93 #[.slice B m cap, .func (.func (94)) #[] #[]] w fun e w' => e = .returned (.bool (anyEE ln rr m)) ∧ Below w.heap.size w w' := by
  have H := Lib.hid (idxII_c B m cap ln rr w hr)
  clear hr
  go_enter Try.func93, Try.ntmps93
  go_wp2_with (go_at_call 119; refine (H.out).mono ?_; rintro e w' ⟨i, ⟨rfl, hi⟩, hb⟩)
  go_ret
  exact ⟨by rw [← hi]; rfl, hb⟩
theorem infoRI : (Try.prog.info? 61).map (fun i => (i.zero, i.size, i.bytes)) = some (some (.slice none 0 0), 1, 24) := by kernel_rfl
/-- k rows of m are cloned. -/
def xsC (AA : Nat → Option Addr) (cc ln : Nat → Nat) (m k : Nat) : List Value := (List.range m).map fun i => if i < k then Value.slice (AA i) (ln i) (cc i) else Value.slice none 0 0
theorem xsC_len (AA : Nat → Option Addr) (cc ln : Nat → Nat) (m k : Nat) : (xsC AA cc ln m k).length = m := by simp [xsC]
theorem xsC_get (AA : Nat → Option Addr) (cc ln : Nat → Nat) (m k j : Nat) : (xsC AA cc ln m k)[j]? = if j < m then some (if j < k then Value.slice (AA j) (ln j) (cc j) else Value.slice none 0 0) else none := by
  unfold xsC
  rw [List.getElem?_map]
  by_cases h : j < m
  · rw [if_pos h, List.getElem?_range h]; rfl
  · rw [if_neg h, List.getElem?_eq_none (by simp; omega)]; rfl
theorem xsC_made (AA : Nat → Option Addr) (cc ln : Nat → Nat) (m : Nat) : (madeCells #[.slice none 0 0] m).toList = xsC AA cc ln m 0 := by
  rw [toList_madeCells_one]
  unfold xsC
  simp [List.map_const']
theorem xsC_step (AA : Nat → Option Addr) (cc ln : Nat → Nat) (m k : Nat) (A : Option Addr) (c : Nat) (hk : k < m) :
    (xsC AA cc ln m k).set k (.slice A (ln k) c) = xsC (fun i => if i = k then A else AA i) (fun i => if i = k then c else cc i) ln m (k + 1) := by
  apply List.ext_getElem?
  intro j
  rw [List.getElem?_set, xsC_get, xsC_get, xsC_len]
  by_cases e : k = j
  · subst e
    rw [if_pos rfl, if_pos hk, if_pos hk, if_pos (by omega), if_pos rfl, if_pos rfl]
  · rw [if_neg e]
    by_cases hj : j < m
    · rw [if_pos hj, if_pos hj]
      by_cases c2 : j < k
      · rw [if_pos c2, if_pos (by omega), if_neg (fun h => e h.symm), if_neg (fun h => e h.symm)]
      · rw [if_neg c2, if_neg (by omega)]
    · rw [if_neg hj, if_neg hj]
/-- Cloning goes on: the new outer row g. -/
def ClIn (w : World) (g m k : Nat) (AA : Nat → Option Addr) (cc ln : Nat → Nat) (rr : Nat → Nat → Int × Int) (W : World) : Prop :=
  Below w.heap.size w W ∧ W.ownsRow w.heap.size 61 1 (.slice (some ⟨g, 0, none⟩) m m) m (xsC AA cc ln m k) ∧ ∀ i, i < k → ∃ base, CR W (AA i) (ln i) (rr i) ∧ OI W base (AA i) (ln i) (cc i) (rr i) ∧ g < base
theorem ClIn.below {w W W' : World} {g m k : Nat} {AA : Nat → Option Addr} {cc ln : Nat → Nat} {rr : Nat → Nat → Int × Int} (h : ClIn w g m k AA cc ln rr W) (hb : Below W.heap.size W W') : ClIn w g m k AA cc ln rr W' :=
  ⟨below_next h.1 h.1.size hb, ownI_below h.2.1 hb, fun i hi => by obtain ⟨b, h1, h2, h3⟩ := h.2.2 i hi; exact ⟨b, h1.below hb, h2.below hb, h3⟩⟩
theorem OI.other {w : World} {base g : Nat} {A : Option Addr} {n c : Nat} {r : Nat → Int × Int} (h : OI w base A n c r) (hg : g < base) (o : Nat) (v : Value) : OI (w.setCell ⟨g, o, none⟩ v) base A n c r := by
  obtain ⟨h1, h2⟩ := h
  refine ⟨h1, ?_⟩
  rcases h2 with h2 | ⟨g', cap, cur, e, hg', hh, r⟩
  · exact .inl h2
  · exact .inr ⟨g', cap, cur, e, hg', (Below.heap_setCell w ⟨g, o, none⟩ v g' (by show g' ≠ g; omega)).trans hh, r⟩
theorem ClIn.put {w W : World} {g m k : Nat} {AA : Nat → Option Addr} {cc ln : Nat → Nat} {rr : Nat → Nat → Int × Int} {A : Option Addr} {c base : Nat} (h : ClIn w g m k AA cc ln rr W) (hk : k < m) (hg : w.heap.size ≤ g) (hn : OI W base A (ln k) c (rr k)) (hb : g < base) :
    ClIn w g m (k + 1) (fun i => if i = k then A else AA i) (fun i => if i = k then c else cc i) ln rr (W.setCell ⟨g, k, none⟩ (.slice A (ln k) c)) := by
  refine ⟨h.1.setCell hg _, ?_, fun i hi => ?_⟩
  · rw [← xsC_step AA cc ln m k A c hk]
    exact (World.ownsRow.stored h.2.1 k _).1
  · by_cases e : i = k
    · subst e
      simp only [if_true]
      have := hn.other hb i (.slice A (ln i) c)
      exact ⟨base, this.cr, this, hb⟩
    · simp only [e, if_false]
      obtain ⟨b, h1, h2, h3⟩ := h.2.2 i (by omega)
      have := h2.other h3 k (.slice A (ln k) c)
      exact ⟨b, this.cr, this, h3⟩
/-- What was made since w: it stays wherever these blocks stay. -/
def CCk (w w' : World) (B : Option Addr) (m : Nat) (ln : Nat → Nat) (rr : Nat → Nat → Int × Int) : Prop := ∀ W', w'.heap.size ≤ W'.heap.size → (∀ b, w.heap.size ≤ b → b < w'.heap.size → W'.heap[b]? = w'.heap[b]?) → CC W' B m ln rr
theorem OI.keepB {w W' : World} {base : Nat} {A : Option Addr} {n c : Nat} {r : Nat → Int × Int} (h : OI w base A n c r) (hk : ∀ b, base ≤ b → b < w.heap.size → W'.heap[b]? = w.heap[b]?) : OI W' base A n c r := by
  obtain ⟨h1, h2⟩ := h
  refine ⟨h1, ?_⟩
  rcases h2 with h2 | ⟨g, cap, cur, e, hg, hh, r⟩
  · exact .inl h2
  · exact .inr ⟨g, cap, cur, e, hg, (hk g hg (Array.getElem?_eq_some_iff.1 hh).1).trans hh, r⟩
def CCPost (m : Nat) (ln : Nat → Nat) (rr : Nat → Nat → Int × Int) (w : World) (e : Ending) (w' : World) : Prop := ∃ B, e = .returned (.slice B m m) ∧ CCk w w' B m ln rr ∧ Below w.heap.size w w'
set_option maxRecDepth 100000 in
set_option maxHeartbeats 6400000 in
theorem scloned_c (B : Option Addr) (m cap : Nat) (ln : Nat → Nat) (rr : Nat → Nat → Int × Int) (w : World) (hm : m ≤ 1000) (hr : CC w B m ln rr) :
    Calls Try.prog 64 #[.slice B m cap] w (CCPost m ln rr w) := by
  have hmk := fun W => run_make_row' (P := Try.prog) 32 61 (.slice none 0 0) 24 Try.underlying32 infoRI rfl .i64 .i64 m (by omega) (by omega) W
  have HR := Lib.hid hr
  clear hr
  go_enter Try.func64, Try.ntmps64
  go_upto_region 2 with fail
  clear hmk
  refine at_world (fun W => Hid (ClIn w w.heap.size m 0 (fun _ => none) (fun _ => 0) ln rr W)) ?_ ?_
  · refine Lib.hid ⟨(by repeat' (first | exact Below.refl _ _ | (refine Below.alloc ?_ ?_ _) | (refine Below.setCell ?_ ?_ _) | (refine Below.drew ?_) | (refine below_next ?_ ?_ (by assumption)) | omega | (simp; done) | (simp; omega))), ?_, fun i hi => absurd hi (by omega)⟩
    rw [← xsC_made (fun _ => none) (fun _ => 0) ln m]
    exact World.ownsRow_lit w _ m (Nat.le_refl _) (by unfold maxLen; omega) (by simp [size_madeCells])
  intro W1 H1
  go_wp2_with fail
  go_loopw [11] (fun v wr => ∃ (k : Nat) (AA : Nat → Option Addr) (cc : Nat → Nat), k ≤ m ∧ v = .int .i64 k ∧ Hid (ClIn w w.heap.size m k AA cc ln rr wr)) (fun v _ => m - (intOf v).toNat)
  case atStart => exact ⟨0, _, _, by omega, rfl, H1⟩
  case round =>
    clear H1
    obtain ⟨k, AA, cc, hk, rfl, HI⟩ := hrel
    obtain ⟨wo, rfl⟩ : ∃ wo : World, wo = wr := ⟨_, rfl⟩
    by_cases hlt : k < m
    · have hk0 : (0 : Int) ≤ (k : Int) := by omega
      have hk1 : (k : Int) < (m : Int) := by omega
      obtain ⟨ad, rfl, had, hc⟩ := (HR.out.below HI.out.1).2.2 (by omega)
      obtain ⟨A1, d1, c0, hcr⟩ := hc k hlt
      have HCR := Lib.hid hcr
      have hln := HR.out.2.1 k hlt
      have hgl : w.heap.size < wo.heap.size := (World.ownsRow.lt HI.out.2.1 w.heap.size rfl).2
      clear hc hcr
      go_upto_region 5 with fail
      go_wp2_with (go_at_call 109; refine (cloneI_c A1 (ln k) d1 (rr k) _ hln HCR.out).mono ?_; rintro e w3 ⟨A2, d2, rfl, ho, hb⟩; have H3 := Lib.hid (HI.out.below hb); have HO := Lib.hid ho; have q0 := (World.ownsRow.cellAt H3.out.2.1 k (by omega)).trans (by rw [xsC_get, if_pos hlt]); have f0 := World.ownsRow.frozenAt H3.out.2.1 k; clear ho hb)
      all_goals exact ⟨⟨k + 1, _, _, by omega, by go_num, Lib.hid (H3.out.put hlt (Nat.le_refl _) HO.out hgl)⟩, by simp [intOf]; omega⟩
    · obtain rfl : k = m := by omega
      clear hk hlt
      go_wp2_with fail
      go_ret
      have hlt := (World.ownsRow.lt HI.out.2.1 w.heap.size rfl).2
      refine ⟨some ⟨w.heap.size, 0, none⟩, rfl, fun W' hs hk => ⟨by omega, HR.out.2.1, fun h0 => ⟨_, rfl, by show w.heap.size < _; omega, fun i hi => ?_⟩⟩, HI.out.1⟩
      obtain ⟨b, _, h2, h3⟩ := HI.out.2.2 i hi
      refine ⟨AA i, cc i, ?_, (h2.keepB (fun b' hb1 hb2 => hk b' (by omega) hb2)).cr⟩
      rw [i_plain, World.cell?_of_block (a := ⟨w.heap.size, i, none⟩) (hk w.heap.size (Nat.le_refl _) hlt), World.ownsRow.cellAt HI.out.2.1 i (by omega), xsC_get, if_pos hi, if_pos hi]
end Go.Proofs.Ytdmphpkiclfhhaa.C
