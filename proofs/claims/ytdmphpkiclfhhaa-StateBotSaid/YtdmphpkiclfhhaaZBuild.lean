/- Matrices built by append: r14.CopyZone, r14.Blank: walks. -/
import Derived.Test.YtdmphpkiclfhhaaZScan
namespace Go.Proofs.Ytdmphpkiclfhhaa.C
open Go.RowKit
set_option linter.unusedSimpArgs false
set_option linter.unusedVariables false
theorem own_below {w w1 : World} {base : Nat} {e : TypeId} {size : Nat} {v : Value} {n : Nat} {xs : List Value} (h : w.ownsRow base e size v n xs) (hb : Below w.heap.size w w1) : w1.ownsRow base e size v n xs := by
  obtain ⟨h1, h2⟩ := h
  refine ⟨h1, ?_⟩
  rcases h2 with h2 | ⟨g, cap, cur, rfl, hg, hh, r⟩
  · exact .inl h2
  · exact .inr ⟨g, cap, cur, rfl, hg, (hb.block g (Array.getElem?_eq_some_iff.1 hh).1).trans hh, r⟩
theorem own_nil (w : World) (base : Nat) (e : TypeId) : w.ownsRow base e 1 (.slice none 0 0) 0 [] := ⟨rfl, .inl ⟨rfl, rfl⟩⟩
theorem own_blk {w : World} {base : Nat} {e : TypeId} {size : Nat} {v : Value} {n : Nat} {xs : List Value} (h : w.ownsRow base e size v n xs) (k : Nat) (hk : v.ownBlock = some k) : base ≤ k ∧ k < w.heap.size := by
  rcases h.2 with ⟨rfl, _⟩ | ⟨g, cap, cur, rfl, hg, hh, _⟩
  · simp [Value.ownBlock] at hk
  · have : g = k := by simpa [Value.ownBlock] using hk
    subst this
    exact ⟨hg, (Array.getElem?_eq_some_iff.1 hh).1⟩
theorem news_one (w : World) (y : Value) (e : TypeId) : ∀ j u, [y][j]? = some u → (w.alloc (.cells #[y] e)).cell? ((⟨w.heap.size, 0, none⟩ : Addr).add j) = some u := by
  intro j u hu
  match j, hu with
  | 0, hu =>
    simp at hu
    subst hu
    rw [addr_plain]
    simp [go_sem]
/-- A matrix of the call's own that is built by append: k rows. -/
structure BM (w : World) (base : Nat) (v : Value) (R C : Nat → Nat) (n k : Nat) (t : TypeId) (m : Z.M) : Prop where
  own : w.ownsRow base t 1 v k ((List.range k).map fun i => Value.slice (some ⟨R i, 0, none⟩) n (C i))
  hR : ∀ i, i < k → base ≤ R i ∧ R i < w.heap.size ∧ v.ownBlock ≠ some (R i) ∧ n ≤ C i
  inj : ∀ i j, i < k → j < k → R i = R j → i = j
  inner : ∀ i j, i < k → j < n → w.cell? ⟨R i, j, none⟩ = some (.int .i64 (m i j))
  frz : ∀ i j, i < k → j < n → w.frozen? ⟨R i, j, none⟩ = false
theorem BM.start (w : World) (base n : Nat) (t : TypeId) (R C : Nat → Nat) (m : Z.M) : BM w base (.slice none 0 0) R C n 0 t m :=
  ⟨own_nil _ _ _, fun i hi => absurd hi (by omega), fun i j hi => absurd hi (by omega), fun i j hi => absurd hi (by omega), fun i j hi => absurd hi (by omega)⟩
theorem BM.below {w w' : World} {base n k : Nat} {v : Value} {R C : Nat → Nat} {t : TypeId} {m : Z.M} (h : BM w base v R C n k t m) (hb : Below w.heap.size w w') : BM w' base v R C n k t m :=
  ⟨own_below h.own hb, fun i hi => ⟨(h.hR i hi).1, Nat.lt_of_lt_of_le (h.hR i hi).2.1 hb.size, (h.hR i hi).2.2⟩, h.inj, fun i j hi hj => (hb.cell (p := ⟨R i, j, none⟩) (h.hR i hi).2.1).trans (h.inner i j hi hj), fun i j hi hj => (hb.frozen (p := ⟨R i, j, none⟩) (h.hR i hi).2.1).trans (h.frz i j hi hj)⟩
theorem BM.om {w : World} {base n : Nat} {v : Value} {R C : Nat → Nat} {t : TypeId} {m : Z.M} (h : BM w base v R C n n t m) (hn : 1 ≤ n) : ∃ B cap, v = .slice (some ⟨B, 0, none⟩) n cap ∧ n ≤ cap ∧ OM w base B R C n m := by
  obtain ⟨B, cap, rfl, h1, h2, h3, h4, h5⟩ := own_row h.own hn
  exact ⟨B, cap, rfl, h3, ⟨h1, h2⟩, fun i hi => ⟨(h.hR i hi).1, (h.hR i hi).2.1, fun e => (h.hR i hi).2.2.1 (by simp [Value.ownBlock, e]), (h.hR i hi).2.2.2⟩, h.inj, h4, h.inner, h.frz⟩
/-- One row more: g is new since w; w1: behind it; the append's law at (w1.alloc ..) leads to w2. -/
theorem BM.snoc {w w1 w2 : World} {base n k : Nat} {v v2 : Value} {R C : Nat → Nat} {t : TypeId} {m m' : Z.M} {g c : Nat} {f : Nat → Int} {o : Obj} (h : BM w base v R C n k t m) (hr : RowNew w g c n f w1)
    (hown : w2.ownsRow base t 1 v2 (k + 1) (((List.range k).map fun i => Value.slice (some ⟨R i, 0, none⟩) n (C i)) ++ [Value.slice (some ⟨g, 0, none⟩) n c])) (hg : (w1.alloc o).grownBy w2 v.ownBlock)
    (hat : v2.ownBlock = v.ownBlock ∨ v2.ownBlock = some (w1.alloc o).heap.size) (hbase : base ≤ w.heap.size)
    (hm : ∀ i j, i < k → j < n → m' i j = m i j) (hm2 : ∀ j, j < n → m' k j = f j) :
    BM w2 base v2 (fun i => if i = k then g else R i) (fun i => if i = k then c else C i) n (k + 1) t m' := by
  obtain ⟨h1, h2, h3, h4, h5, hb⟩ := hr
  have h' := h.below hb
  have hsz : (w1.alloc o).heap.size = w1.heap.size + 1 := by simp
  have keep : ∀ b, b < w1.heap.size → v.ownBlock ≠ some b → w2.heap[b]? = w1.heap[b]? := fun b hl hne => (hg.block b (by omega) (fun e => hne e.symm)).trans (Below.heap_alloc w1 o b hl)
  have hgv : v.ownBlock ≠ some g := fun e => by have := (own_blk h.own g e).2; omega
  refine ⟨?_, fun i hi => ?_, fun i j hi hj e => ?_, fun i j hi hj => ?_, fun i j hi hj => ?_⟩
  · rw [List.range_succ, List.map_append, List.map_cons, List.map_nil]
    simp only [if_true]
    have e : (List.range k).map (fun i => Value.slice (some ⟨if i = k then g else R i, 0, none⟩) n (if i = k then c else C i)) = (List.range k).map (fun i => Value.slice (some ⟨R i, 0, none⟩) n (C i)) := by
      refine List.map_congr_left (fun i hi => ?_)
      have hne : i ≠ k := by have := List.mem_range.1 hi; omega
      simp only [hne, if_false]
    rw [e]
    exact hown
  · by_cases e : i = k
    · simp only [e, if_true]
      refine ⟨by omega, by have := hg.size; omega, ?_, h3⟩
      rcases hat with hat | hat
      · rw [hat]; exact hgv
      · rw [hat]; intro q; injection q with q; omega
    · simp only [e, if_false]
      have hh := h'.hR i (by omega)
      refine ⟨hh.1, by have := hg.size; omega, ?_, hh.2.2.2⟩
      rcases hat with hat | hat
      · rw [hat]; exact hh.2.2.1
      · rw [hat]; intro q; injection q with q; omega
  · by_cases e1 : i = k
    · by_cases e2 : j = k
      · omega
      · simp only [e1, e2, if_true, if_false] at e
        have := (h.hR j (by omega)).2.1; omega
    · by_cases e2 : j = k
      · simp only [e1, e2, if_true, if_false] at e
        have := (h.hR i (by omega)).2.1; omega
      · simp only [e1, e2, if_false] at e
        exact h.inj i j (by omega) (by omega) e
  · by_cases e : i = k
    · subst e
      simp only [if_true]
      rw [cell_kept (w := w1) (p := ⟨g, j, none⟩) (keep g h2 hgv), h4 j hj, hm2 j hj]
    · simp only [e, if_false]
      rw [cell_kept (w := w1) (p := ⟨R i, j, none⟩) (keep (R i) (h'.hR i (by omega)).2.1 (h'.hR i (by omega)).2.2.1), h'.inner i j (by omega) hj, hm i j (by omega) hj]
  · by_cases e : i = k
    · subst e
      simp only [if_true]
      rw [frozen_kept (w := w1) (p := ⟨g, j, none⟩) (keep g h2 hgv)]; exact h5 j hj
    · simp only [e, if_false]
      rw [frozen_kept (w := w1) (p := ⟨R i, j, none⟩) (keep (R i) (h'.hR i (by omega)).2.1 (h'.hR i (by omega)).2.2.1)]; exact h'.frz i j (by omega) hj
set_option maxRecDepth 100000 in
set_option maxHeartbeats 6400000 in
theorem copyZone_c (a : Addr) (n cap : Nat) (m : Z.M) (w : World) (hn : 1 ≤ n) (hn2 : n ≤ 1000) (hm : RM w a n m) :
    Calls Try.prog 50 #[.agg #[.slice (some a) n cap]] w (NewM w n m) := by
  have HM := Lib.hid hm
  clear hm
  obtain ⟨i0, hi, hz⟩ := Option.map_eq_some_iff.1 infoI
  obtain ⟨i1, hi1, hzr⟩ := Option.map_eq_some_iff.1 infoR
  simp only [Prod.mk.injEq] at hz hzr
  have HI := Lib.hid (And.intro hi hz)
  have HI1 := Lib.hid (And.intro hi1 hzr)
  clear hi hz hi1 hzr
  go_enter Try.func50, Try.ntmps50
  go_upto_region 1 with fail
  refine at_world (fun W => Hid (Below w.heap.size w W ∧ W.heap.size = w.heap.size + 1 + 1) ∧ (∀ o, W.cell? ⟨w.heap.size, o, none⟩ = [Value.slice (some a) n cap][o]?) ∧ (∀ o, W.cell? ⟨w.heap.size + 1, o, none⟩ = [Value.slice none 0 0][o]?) ∧ (∀ o, W.frozen? ⟨w.heap.size + 1, o, none⟩ = false)) ⟨Lib.hid ⟨(by repeat' (first | exact Below.refl _ _ | (refine Below.alloc ?_ ?_ _) | (refine Below.setCell ?_ ?_ _) | (refine Below.drew ?_) | (refine below_next ?_ ?_ (by assumption)) | omega | (simp; done) | (simp; omega))), by simp⟩, (by intro o; simp [go_sem]), (by intro o; simp [go_sem]), (by intro o; simp [go_sem])⟩ ?_
  intro W0 ⟨HB0, k0, k1, f1⟩
  go_wp2_with fail
  go_loopw [3, 4] (fun v i wr => ∃ (k : Nat) (R C : Nat → Nat), k ≤ n ∧ i = .int .i64 k ∧ BM wr (w.heap.size + 1 + 1) v R C n k 41 m ∧ Below (w.heap.size + 1 + 1) W0 wr) (fun _ i _ => n - (intOf i).toNat)
  case atStart => exact ⟨0, fun _ => 0, fun _ => 0, by omega, rfl, BM.start _ _ _ _ _ _ _, Below.refl _ _⟩
  case round =>
    obtain ⟨k, R, C, hk, rfl, hbm, hb⟩ := hrel
    have hs0 : w.heap.size + 1 + 1 ≤ wr.heap.size := by have := HB0.out.2; have := hb.size; omega
    have k0' := fun o => (hb.cell (p := ⟨w.heap.size, o, none⟩) (by show w.heap.size < _; omega)).trans (k0 o)
    have k1' := fun o => (hb.cell (p := ⟨w.heap.size + 1, o, none⟩) (by show w.heap.size + 1 < _; omega)).trans (k1 o)
    have f1' := fun o => (hb.frozen (p := ⟨w.heap.size + 1, o, none⟩) (by show w.heap.size + 1 < _; omega)).trans (f1 o)
    by_cases hlt : k < n
    · have HW : Hid (Below w.heap.size w wr) := Lib.hid (HB0.out.1.trans (hb.mono (by omega)))
      obtain ⟨Rm, Cm, hm1, hm2⟩ := HM.out.below HW.out
      have c1 := (hm1 k hlt).1
      have HR := Lib.hid (fun j (hj : j < n) => hm2 k j hlt hj)
      have HP := Lib.hid hbm
      have HB := Lib.hid hb
      have hk0 : (0 : Int) ≤ (k : Int) := by omega
      have hk1 : (k : Int) < (n : Int) := by omega
      clear hm1 hm2 hbm hb k0 k1 f1 k1' f1'
      obtain ⟨wo, rfl⟩ : ∃ wo : World, wo = wr := ⟨_, rfl⟩
      obtain ⟨va, rfl⟩ : ∃ va : Value, va = u3 := ⟨_, rfl⟩
      have HCW : Hid (∀ j u, ((List.range n).map fun j => Value.int .i64 (m k j))[j]? = some u → (wo.alloc (.cells #[] 3)).cell? ((Rm k).add j) = some u) := Lib.hid (by
        intro j u hu
        have hj : j < n := by
          rcases Nat.lt_or_ge j n with h | h
          · exact h
          · simp [h] at hu
        simp [hj] at hu
        rw [← hu]
        exact cell_later ((Below.refl _ _).alloc (Nat.le_refl _) _) (HR.out j hj))
      have hba : Below wo.heap.size wo (wo.alloc (.cells #[] 3)) := (Below.refl _ _).alloc (Nat.le_refl _) _
      have ka := fun o => (hba.cell (p := ⟨w.heap.size, o, none⟩) (by show w.heap.size < _; omega)).trans (k0' o)
      have ca := cell_later hba c1
      clear hba
      go_wp2_with (first | (at_builtin; refine wpList_append_own_at _ rfl (.tmp 13) (.tmp 18) 41 rfl wo.heap.size 3 i0 (.int .i64 0) 1 8 Try.underlying41 HI.out.1 HI.out.2.1 HI.out.2.2.1 HI.out.2.2.2 rfl (by omega) (.slice (some ⟨wo.heap.size, 0, none⟩) 0 0) 0 [] (by rfl) (own_empty wo 3) (Rm k) n (Cm k) ((List.range n).map fun j => Value.int .i64 (m k j)) (by rfl) (by simp) HCW.out (by simp [Value.oneCell']) (by unfold maxLen; omega) (by omega) (by simp) ?_; intro v1 w1 hown1 hg1 _ hat1; have hb1 : Below wo.heap.size wo w1 := ((Below.refl _ _).alloc (Nat.le_refl _) _).grown hg1 (by simp) (by rintro k hk; simp [Value.ownBlock] at hk; omega); simp only [Nat.zero_add, List.nil_append] at hown1; obtain ⟨g, c, rfl, hq1, hq2, hq3, hq4, hq5⟩ := own_row hown1 hn; have HRW : Hid (RowNew wo g c n (m k) w1) := Lib.hid ⟨hq1, hq2, hq3, hq4, fun j _ => hq5 j, hb1⟩; have k0'' := fun o => (hb1.cell (p := ⟨w.heap.size, o, none⟩) (by show w.heap.size < _; omega)).trans (k0' o); have hs1 := hb1.size; clear hown1 hg1 hat1 hq1 hq2 hq3 hq4 hq5 hb1) | (at_builtin; refine wpList_append_own_at _ rfl (.tmp 12) (.tmp 20) 29 rfl (w.heap.size + 1 + 1) 41 i1 (.slice none 0 0) 1 24 Try.underlying29 HI1.out.1 HI1.out.2.1 HI1.out.2.2.1 HI1.out.2.2.2 rfl (by omega) va k _ (by rfl) (own_below (own_below HP.out.own HRW.out.2.2.2.2.2) ((Below.refl _ _).alloc (Nat.le_refl _) _)) ⟨w1.heap.size, 0, none⟩ 1 1 [Value.slice (some ⟨g, 0, none⟩) n c] (by rfl) rfl (news_one _ _ _) (by simp [Value.oneCell']) (by unfold maxLen; omega) (by omega) (by simp; omega) ?_; intro v2 w2 hown2 hg2 _ hat2; have HN := Lib.hid (HP.out.snoc HRW.out hown2 hg2 hat2 hs0 (m' := m) (fun i j _ _ => rfl) (fun j _ => rfl)); have HB2 : Hid (Below (w.heap.size + 1 + 1) W0 w2) := Lib.hid (((HB.out.trans (HRW.out.2.2.2.2.2.mono hs0)).alloc (by omega) _).grown hg2 (by simp; omega) (fun q hq => (own_blk HP.out.own q hq).1)); clear hown2 hg2 hat2))
      all_goals exact ⟨⟨k + 1, _, _, by omega, by go_num, HN.out, HB2.out⟩, by simp [intOf]; omega⟩
    · obtain rfl : k = n := by omega
      obtain ⟨B, cp, rfl, hcp, hom⟩ := hbm.om hn
      have HW : Hid (Below w.heap.size w wr) := Lib.hid (HB0.out.1.trans (hb.mono (by omega)))
      have HO := Lib.hid hom
      have HRb : Hid (B ≠ w.heap.size + 1 ∧ ∀ i, i < k → R i ≠ w.heap.size + 1) := Lib.hid ⟨by have := hom.hB.1; omega, fun i hi => by have := (hom.hR i hi).1; omega⟩
      clear hom hbm hb hk hlt k0 k1 f1
      go_wp2_with fail
      exact bodyPost_ret (v := .agg #[.slice (some ⟨B, 0, none⟩) k cp]) (by simp [results, Try.results50, go_sem, *]) rfl ⟨B, R, C, cp, rfl, hcp, (HO.out.lower (by omega)).keep (by simp) (Below.heap_setCell _ ⟨w.heap.size + 1, 0, none⟩ _ _ HRb.out.1) (fun i hi => Below.heap_setCell _ ⟨w.heap.size + 1, 0, none⟩ _ _ (HRb.out.2 i hi)), HW.out.setCell (by show w.heap.size ≤ w.heap.size + 1; omega) _⟩
def blankM : Z.M := fun i j => if i = j then 0 else 1099511627776
theorem own_snoc {w : World} {base t : Nat} {e : TypeId} {v : Value} {f : Nat → Value} {y : Value} (h : w.ownsRow base e 1 v (t + 1) ((List.range t).map f ++ [y])) (hy : y = f t) : w.ownsRow base e 1 v (t + 1) ((List.range (t + 1)).map f) := by
  rw [List.range_succ, List.map_append, List.map_cons, List.map_nil, ← hy]; exact h
set_option maxRecDepth 100000 in
set_option maxHeartbeats 6400000 in
theorem blank_c (N : Nat) (w : World) (hn2 : N ≤ 999) :
    Calls Try.prog 73 #[.int .i64 N] w (NewM w (N + 1) blankM) := by
  obtain ⟨i0, hi, hz⟩ := Option.map_eq_some_iff.1 infoI
  obtain ⟨i1, hi1, hzr⟩ := Option.map_eq_some_iff.1 infoR
  simp only [Prod.mk.injEq] at hz hzr
  have HI := Lib.hid (And.intro hi hz)
  have HI1 := Lib.hid (And.intro hi1 hzr)
  clear hi hz hi1 hzr
  go_enter Try.func73, Try.ntmps73
  go_upto_region 1 with fail
  refine at_world (fun W => Hid (Below w.heap.size w W ∧ W.heap.size = w.heap.size + 1) ∧ (∀ o, W.cell? ⟨w.heap.size, o, none⟩ = [Value.slice none 0 0][o]?) ∧ (∀ o, W.frozen? ⟨w.heap.size, o, none⟩ = false)) ⟨Lib.hid ⟨(by repeat' (first | exact Below.refl _ _ | (refine Below.alloc ?_ ?_ _) | (refine Below.setCell ?_ ?_ _) | (refine Below.drew ?_) | (refine below_next ?_ ?_ (by assumption)) | omega | (simp; done) | (simp; omega))), by simp⟩, (by intro o; simp [go_sem]), (by intro o; simp [go_sem])⟩ ?_
  intro W0 ⟨HB0, k1, f1⟩
  go_wp2_with fail
  go_loopw [3, 4] (fun v i wr => ∃ (k : Nat) (R C : Nat → Nat), k ≤ N + 1 ∧ i = .int .i64 k ∧ BM wr (w.heap.size + 1) v R C (N + 1) k 41 blankM ∧ Below (w.heap.size + 1) W0 wr) (fun _ i _ => N + 1 - (intOf i).toNat)
  case atStart => exact ⟨0, fun _ => 0, fun _ => 0, by omega, rfl, BM.start _ _ _ _ _ _ _, Below.refl _ _⟩
  case round =>
    obtain ⟨k, R, C, hk, rfl, hbm, hb⟩ := hrel
    have hs0 : w.heap.size + 1 ≤ wr.heap.size := by have := HB0.out.2; have := hb.size; omega
    have k1' := fun o => (hb.cell (p := ⟨w.heap.size, o, none⟩) (by show w.heap.size < _; omega)).trans (k1 o)
    have f1' := fun o => (hb.frozen (p := ⟨w.heap.size, o, none⟩) (by show w.heap.size < _; omega)).trans (f1 o)
    by_cases hlt : k < N + 1
    · have HP := Lib.hid hbm
      have HB := Lib.hid hb
      clear hbm hb k1 f1 k1' f1'
      obtain ⟨wo, rfl⟩ : ∃ wo : World, wo = wr := ⟨_, rfl⟩
      obtain ⟨va, rfl⟩ : ∃ va : Value, va = u3 := ⟨_, rfl⟩
      have g1 : decide (k ≤ N) = true := decide_eq_true (by omega)
      go_wp2_with fail
      go_loopw [5, 6] (fun v i wr => ∃ t : Nat, t ≤ N + 1 ∧ i = .int .i64 t ∧ wr.ownsRow wo.heap.size 3 1 v t ((List.range t).map fun j => Value.int .i64 (blankM k j)) ∧ Below wo.heap.size wo wr) (fun _ i _ => N + 1 - (intOf i).toNat)
      case atStart => exact ⟨0, by omega, rfl, own_nil _ _ _, Below.refl _ _⟩
      case round =>
        obtain ⟨t, ht, rfl, hown, hbi⟩ := hrel
        have HL := Lib.hid hown
        have HBi := Lib.hid hbi
        have hsi := hbi.size
        clear hown hbi
        obtain ⟨wi, rfl⟩ : ∃ wi : World, wi = wr := ⟨_, rfl⟩
        obtain ⟨vl, rfl⟩ : ∃ vl : Value, vl = u5 := ⟨_, rfl⟩
        by_cases hlu : t < N + 1
        · have g2 : decide (t ≤ N) = true := decide_eq_true (by omega)
          by_cases e : k = t
          · have g3 : ((k : Int) == (t : Int)) = true := by simp; omega
            have HY : Hid (Value.int .i64 0 = Value.int .i64 (blankM k t)) := Lib.hid (by unfold blankM; rw [if_pos e])
            clear e
            go_wp2_with (at_builtin; refine wpList_append_own_at _ rfl (.tmp 20) (.tmp 21) 41 rfl wo.heap.size 3 i0 (.int .i64 0) 1 8 Try.underlying41 HI.out.1 HI.out.2.1 HI.out.2.2.1 HI.out.2.2.2 rfl (by omega) vl t _ (by rfl) (own_below HL.out ((Below.refl _ _).alloc (Nat.le_refl _) _)) ⟨wi.heap.size, 0, none⟩ 1 1 [Value.int .i64 (0)] (by rfl) rfl (news_one _ _ _) (by simp [Value.oneCell']) (by unfold maxLen; omega) (by omega) (by simp; omega) ?_; intro v2 w2 hown2 hg2 _ hat2; have HN := Lib.hid (own_snoc hown2 HY.out); have HB2 : Hid (Below wo.heap.size wo w2) := Lib.hid ((HBi.out.alloc HBi.out.size _).grown hg2 (by simp; omega) (fun q hq => (own_blk HL.out q hq).1)); clear hown2 hg2 hat2)
            all_goals exact ⟨⟨t + 1, by omega, by go_num, HN.out, HB2.out⟩, by simp [intOf]; omega⟩
          · have g3 : ((k : Int) == (t : Int)) = false := by simp; omega
            have HY : Hid (Value.int .i64 1099511627776 = Value.int .i64 (blankM k t)) := Lib.hid (by unfold blankM; rw [if_neg e])
            clear e
            go_wp2_with (at_builtin; refine wpList_append_own_at _ rfl (.tmp 23) (.tmp 24) 41 rfl wo.heap.size 3 i0 (.int .i64 0) 1 8 Try.underlying41 HI.out.1 HI.out.2.1 HI.out.2.2.1 HI.out.2.2.2 rfl (by omega) vl t _ (by rfl) (own_below HL.out ((Below.refl _ _).alloc (Nat.le_refl _) _)) ⟨wi.heap.size, 0, none⟩ 1 1 [Value.int .i64 (1099511627776)] (by rfl) rfl (news_one _ _ _) (by simp [Value.oneCell']) (by unfold maxLen; omega) (by omega) (by simp; omega) ?_; intro v2 w2 hown2 hg2 _ hat2; have HN := Lib.hid (own_snoc hown2 HY.out); have HB2 : Hid (Below wo.heap.size wo w2) := Lib.hid ((HBi.out.alloc HBi.out.size _).grown hg2 (by simp; omega) (fun q hq => (own_blk HL.out q hq).1)); clear hown2 hg2 hat2)
            all_goals exact ⟨⟨t + 1, by omega, by go_num, HN.out, HB2.out⟩, by simp [intOf]; omega⟩
        · have htn : t = N + 1 := by omega
          have g2 : decide (t ≤ N) = false := decide_eq_false (by omega)
          obtain ⟨g, c, rfl, hq1, hq2, hq3, hq4, hq5⟩ := own_row HL.out (by omega)
          rw [htn] at hq3 hq4
          have HRW : Hid (RowNew wo g c (N + 1) (blankM k) wi) := Lib.hid ⟨hq1, hq2, hq3, hq4, fun j _ => hq5 j, HBi.out⟩
          have htn2 : ((Value.slice (some ⟨g, 0, none⟩) t c : Value) = .slice (some ⟨g, 0, none⟩) (N + 1) c) := by rw [htn]
          subst htn
          clear hq1 hq2 hq3 hq4 hq5 htn2 HL
          go_wp2_with (at_builtin; refine wpList_append_own_at _ rfl (.tmp 26) (.tmp 28) 29 rfl (w.heap.size + 1) 41 i1 (.slice none 0 0) 1 24 Try.underlying29 HI1.out.1 HI1.out.2.1 HI1.out.2.2.1 HI1.out.2.2.2 rfl (by omega) va k _ (by rfl) (own_below (own_below HP.out.own HRW.out.2.2.2.2.2) ((Below.refl _ _).alloc (Nat.le_refl _) _)) ⟨wi.heap.size, 0, none⟩ 1 1 [Value.slice (some ⟨g, 0, none⟩) (N + 1) c] (by rfl) rfl (news_one _ _ _) (by simp [Value.oneCell']) (by unfold maxLen; omega) (by omega) (by simp; omega) ?_; intro v2 w2 hown2 hg2 _ hat2; have HN := Lib.hid (HP.out.snoc HRW.out hown2 hg2 hat2 hs0 (m' := blankM) (fun i j _ _ => rfl) (fun j _ => rfl)); have HB2 : Hid (Below (w.heap.size + 1) W0 w2) := Lib.hid (((HB.out.trans (HRW.out.2.2.2.2.2.mono hs0)).alloc (by omega) _).grown hg2 (by simp; omega) (fun q hq => (own_blk HP.out.own q hq).1)); clear hown2 hg2 hat2)
          all_goals exact ⟨⟨k + 1, _, _, by omega, by go_num, HN.out, HB2.out⟩, by simp [intOf]; omega⟩
    · have hkn : k = N + 1 := by omega
      subst hkn
      have g1 : decide (((N + 1 : Nat) : Int) ≤ (N : Int)) = false := decide_eq_false (by omega)
      obtain ⟨B, cp, rfl, hcp, hom⟩ := hbm.om (by omega)
      have HW : Hid (Below w.heap.size w wr) := Lib.hid (HB0.out.1.trans (hb.mono (by omega)))
      have HO := Lib.hid hom
      have HRb : Hid (B ≠ w.heap.size ∧ ∀ i, i < N + 1 → R i ≠ w.heap.size) := Lib.hid ⟨by have := hom.hB.1; omega, fun i hi => by have := (hom.hR i hi).1; omega⟩
      clear hom hbm hb hk hlt k1 f1
      go_wp2_with fail
      exact bodyPost_ret (v := .agg #[.slice (some ⟨B, 0, none⟩) (N + 1) cp]) (by simp [results, Try.results73, go_sem, *]) rfl ⟨B, R, C, cp, rfl, hcp, (HO.out.lower (by omega)).keep (by simp) (Below.heap_setCell _ ⟨w.heap.size, 0, none⟩ _ _ HRb.out.1) (fun i hi => Below.heap_setCell _ ⟨w.heap.size, 0, none⟩ _ _ (HRb.out.2 i hi)), HW.out.setCell (Nat.le_refl _) _⟩
end Go.Proofs.Ytdmphpkiclfhhaa.C
