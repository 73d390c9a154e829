/- slices.Clone of a row, zone.cloned, zone.Close: walks. -/
import Derived.Test.YtdmphpkiclfhhaaZClosed
import Derived.Maps.AppendAt
import Derived.OwnWalk
import Derived.Lib.LazyBuf
import Derived.Laws.OwnMore
namespace Go.Proofs.Ytdmphpkiclfhhaa.C
open Go.RowKit
set_option linter.unusedSimpArgs false
set_option linter.unusedVariables false
theorem infoI : (Try.prog.info? 3).map (fun i => (i.zero, i.size, i.bytes)) = some (some (.int .i64 0), 1, 8) := by kernel_rfl
/-- A new row. -/
def RowNew (w : World) (g cap n : Nat) (f : Nat → Int) (w' : World) : Prop :=
  w.heap.size ≤ g ∧ g < w'.heap.size ∧ n ≤ cap ∧ (∀ j, j < n → w'.cell? ⟨g, j, none⟩ = some (.int .i64 (f j))) ∧ (∀ j, j < n → w'.frozen? ⟨g, j, none⟩ = false) ∧ Below w.heap.size w w'
def ClonePost (n : Nat) (f : Nat → Int) (w : World) (e : Ending) (w' : World) : Prop := ∃ g cap, e = .returned (.slice (some ⟨g, 0, none⟩) n cap) ∧ RowNew w g cap n f w'
theorem own_empty (w : World) (e : TypeId) : (w.alloc (.cells #[] e)).ownsRow w.heap.size e 1 (.slice (some ⟨w.heap.size, 0, none⟩) 0 0) 0 [] :=
  ⟨rfl, .inr ⟨w.heap.size, 0, #[], rfl, Nat.le_refl _, by simpa using heap_alloc_new w (.cells #[] e), Nat.le_refl _, Nat.zero_le _, rfl, rfl⟩⟩
theorem own_row {w : World} {base n : Nat} {e : TypeId} {v : Value} {f : Nat → Value} (h : w.ownsRow base e 1 v n ((List.range n).map f)) (hn : 1 ≤ n) :
    ∃ g cap, v = .slice (some ⟨g, 0, none⟩) n cap ∧ base ≤ g ∧ g < w.heap.size ∧ n ≤ cap ∧ (∀ j, j < n → w.cell? ⟨g, j, none⟩ = some (f j)) ∧ (∀ j, w.frozen? ⟨g, j, none⟩ = false) := by
  have hh := h
  rcases h.2 with ⟨_, h0⟩ | ⟨g, cap, cur, rfl, hb, hc, hl, hm, hs, ht⟩
  · omega
  refine ⟨g, cap, rfl, hb, (Array.getElem?_eq_some_iff.1 hc).1, hl, fun j hj => ?_, fun j => ?_⟩
  · have := hh.cells (g := g) rfl j (f j) (by simp [hj])
    rwa [addr_plain] at this
  · exact hh.frozenAt j
set_option maxHeartbeats 1600000 in
theorem clone_c (a : Addr) (n cap : Nat) (f : Nat → Int) (w : World) (hn : 1 ≤ n) (hn2 : n ≤ 1000) (hc : ∀ j, j < n → w.cell? (a.add j) = some (.int .i64 (f j))) :
    Calls Try.prog 105 #[.slice (some a) n cap] w (ClonePost n f w) := by
  have HC := Lib.hid hc
  clear hc
  obtain ⟨i0, hi, hz⟩ := Option.map_eq_some_iff.1 infoI
  simp only [Prod.mk.injEq] at hz
  obtain ⟨hz0, hz1, hz2⟩ := hz
  have hnil := fun W => run_eql_slice_nil (P := Try.prog) W 41 3 (some a) n cap Try.underlying41
  have hcw : ∀ j u, ((List.range n).map fun j => Value.int .i64 (f j))[j]? = some u → (w.alloc (.cells #[] 3)).cell? (a.add j) = some u := by
    intro j u hu
    have hj : j < n := by
      rcases Nat.lt_or_ge j n with h | h
      · exact h
      · simp [h] at hu
    simp [hj] at hu
    rw [← hu]
    exact cell_later ((Below.refl _ _).alloc (Nat.le_refl _) _) (HC.out j hj)
  go_enter Try.func105, Try.ntmps105
  go_wp2_with (at_builtin; refine wpList_append_own_at _ rfl _ _ 41 rfl w.heap.size 3 i0 (.int .i64 0) 1 8 Try.underlying41 hi hz0 hz1 hz2 rfl (by omega) (.slice (some ⟨w.heap.size, 0, none⟩) 0 0) 0 [] (by rfl) (own_empty w 3) a n cap ((List.range n).map fun j => Value.int .i64 (f j)) (by rfl) (by simp) hcw (by simp [Value.oneCell']) (by unfold maxLen; omega) (by omega) (by simp) ?_; intro v' w1 hown hg _ hat)
  have hb : Below w.heap.size w w1 := ((Below.refl _ _).alloc (Nat.le_refl _) _).grown hg (by simp) (by rintro k hk; simp [Value.ownBlock] at hk; omega)
  simp only [Nat.zero_add, List.nil_append] at hown
  obtain ⟨g, c, rfl, hg1, hg2, hg3, hg4, hg5⟩ := own_row hown hn
  have HP : Hid (RowNew w g c n f w1) := Lib.hid ⟨hg1, hg2, hg3, hg4, fun j _ => hg5 j, hb⟩
  clear hown hg hat hb hg1 hg2 hg3 hg4 hg5 hcw hz0 hz1 hz2 hi
  go_wp2_with fail
  go_ret
  exact ⟨g, c, rfl, HP.out⟩
/-- A matrix of the call's own of which k rows are made. -/
structure OMP (w : World) (base B : Nat) (R C : Nat → Nat) (n k : Nat) (t : TypeId) (m : Z.M) : Prop where
  hB : base ≤ B
  hR : ∀ i, i < k → base ≤ R i ∧ R i < w.heap.size ∧ R i ≠ B ∧ n ≤ C i
  inj : ∀ i j, i < k → j < k → R i = R j → i = j
  outer : w.rowIs B t n (fun i => if i < k then .slice (some ⟨R i, 0, none⟩) n (C i) else .slice none 0 0)
  inner : ∀ i j, i < k → j < n → w.cell? ⟨R i, j, none⟩ = some (.int .i64 (m i j))
  frz : ∀ i j, i < k → j < n → w.frozen? ⟨R i, j, none⟩ = false
theorem OMP.om {w : World} {base B n : Nat} {R C : Nat → Nat} {t : TypeId} {m : Z.M} (h : OMP w base B R C n n t m) : OM w base B R C n m :=
  ⟨⟨h.hB, h.outer.lt⟩, h.hR, h.inj, fun i hi => by have := h.outer.cell hi; rwa [if_pos hi] at this, h.inner, h.frz⟩
theorem OMP.start (w : World) {base : Nat} (hb : base ≤ w.heap.size) (n : Nat) (t : TypeId) (R C : Nat → Nat) (m : Z.M) : OMP (w.alloc (.cells (madeCells #[.slice none 0 0] n) t)) base w.heap.size R C n 0 t m :=
  ⟨hb, fun i hi => absurd hi (by omega), fun i j hi => absurd hi (by omega), (World.rowIs_made _ _ _ _).congr (fun i _ => by rw [if_neg (by omega)]), fun i j hi => absurd hi (by omega), fun i j hi => absurd hi (by omega)⟩
theorem OMP.below {w w' : World} {base B n k : Nat} {R C : Nat → Nat} {t : TypeId} {m : Z.M} (h : OMP w base B R C n k t m) (hb : Below w.heap.size w w') : OMP w' base B R C n k t m :=
  ⟨h.hB, fun i hi => ⟨(h.hR i hi).1, Nat.lt_of_lt_of_le (h.hR i hi).2.1 hb.size, (h.hR i hi).2.2⟩, h.inj, h.outer.of_block (hb.block _ h.outer.lt), fun i j hi hj => (hb.cell (p := ⟨R i, j, none⟩) (h.hR i hi).2.1).trans (h.inner i j hi hj), fun i j hi hj => (hb.frozen (p := ⟨R i, j, none⟩) (h.hR i hi).2.1).trans (h.frz i j hi hj)⟩
theorem OMP.new {w w' : World} {base B n k : Nat} {R C : Nat → Nat} {t : TypeId} {m m' : Z.M} {g c : Nat} {f : Nat → Int} (h : OMP w base B R C n k t m) (hk : k < n) (hr : RowNew w g c n f w')
    (hm : ∀ i j, i < k → j < n → m' i j = m i j) (hm2 : ∀ j, j < n → m' k j = f j) (hbase : base ≤ w.heap.size) :
    OMP (w'.setCell ⟨B, k, none⟩ (.slice (some ⟨g, 0, none⟩) n c)) base B (fun i => if i = k then g else R i) (fun i => if i = k then c else C i) n (k + 1) t m' := by
  obtain ⟨h1, h2, h3, h4, h5, hb⟩ := hr
  have h' := h.below hb
  have hsz : (w'.setCell ⟨B, k, none⟩ (.slice (some ⟨g, 0, none⟩) n c)).heap.size = w'.heap.size := by simp
  have hBl := h.outer.lt
  refine ⟨h.hB, fun i hi => ?_, fun i j hi hj e => ?_, (h'.outer.set k _).congr (fun i hi => ?_), fun i j hi hj => ?_, fun i j hi hj => ?_⟩
  · rw [hsz]
    by_cases e : i = k
    · simp only [e, if_true]; exact ⟨by omega, h2, by omega, h3⟩
    · simp only [e, if_false]; exact h'.hR i (by omega)
  · by_cases e1 : i = k
    · by_cases e2 : j = k
      · omega
      · simp only [e1, e2, if_true, if_false] at e
        have := (h.hR j (by omega)).2.1; omega
    · by_cases e2 : j = k
      · simp only [e1, e2, if_true, if_false] at e
        have := (h.hR i (by omega)).2.1; omega
      · simp only [e1, e2, if_false] at e
        exact h.inj i j (by omega) (by omega) e
  · by_cases e : i = k
    · simp only [e, if_true]; rw [if_pos (by omega)]
    · simp only [e, if_false]
      by_cases e2 : i < k
      · rw [if_pos e2, if_pos (by omega)]
      · rw [if_neg e2, if_neg (by omega)]
  · by_cases e : i = k
    · subst e
      simp only [if_true]
      rw [World.cell?_setCell_far _ _ _ _ (by show B ≠ g; omega), h4 j hj, hm2 j hj]
    · simp only [e, if_false]
      rw [World.cell?_setCell_far _ _ _ _ (by show B ≠ R i; exact fun q => (h.hR i (by omega)).2.2.1 q.symm), h'.inner i j (by omega) hj, hm i j (by omega) hj]
  · simp only [World.frozen?_setCell]
    by_cases e : i = k
    · subst e
      simp only [if_true]
      exact h5 j hj
    · simp only [e, if_false]
      exact h'.frz i j (by omega) hj
theorem OMP.set {w : World} {base B n k : Nat} {R C : Nat → Nat} {t : TypeId} {m : Z.M} (h : OMP w base B R C n k t m) {i j : Nat} (hi : i < k) (hj : j < n) (v : Int) : OMP (w.setCell ⟨R i, j, none⟩ (.int .i64 v)) base B R C n k t (Z.upd m i j v) := by
  have hs : (w.setCell ⟨R i, j, none⟩ (.int .i64 v)).heap.size = w.heap.size := by simp
  refine ⟨h.hB, fun a ha => by rw [hs]; exact h.hR a ha, h.inj, h.outer.setOther (fun q => (h.hR i hi).2.2.1 q.symm) _, fun a b ha hb => ?_, fun a b ha hb => ?_⟩
  · by_cases e : a = i ∧ b = j
    · obtain ⟨rfl, rfl⟩ := e
      rw [World.cell?_setCell_same _ _ _ (h.inner a b ha hb), Z.upd_same]
    · rw [World.cell?_setCell_other _ _ _ _ (fun q => e (by injection q with q1 q2; exact ⟨h.inj a i ha hi q1.symm, q2.symm⟩)), Z.upd_other _ _ _ _ e]; exact h.inner a b ha hb
  · simp [go_sem]; exact h.frz a b ha hb
theorem OMP.outerAt {w : World} {base B n k : Nat} {R C : Nat → Nat} {t : TypeId} {m : Z.M} (h : OMP w base B R C n k t m) {i : Nat} (hi : i < k) (hn : i < n) : w.cell? ⟨B, i, none⟩ = some (.slice (some ⟨R i, 0, none⟩) n (C i)) := by
  have := h.outer.cell hn; rwa [if_pos hi] at this
theorem OMP.alike {w : World} {base B n k : Nat} {R C : Nat → Nat} {t : TypeId} {m m' : Z.M} (h : OMP w base B R C n k t m) (ha : ∀ i j, i < k → j < n → m i j = m' i j) : OMP w base B R C n k t m' :=
  ⟨h.hB, h.hR, h.inj, h.outer, fun i j hi hj => by rw [← ha i j hi hj]; exact h.inner i j hi hj, h.frz⟩
/-- Clamped as far as (k, t). -/
def CM (m : Z.M) (k t : Nat) : Z.M := fun a b => if a < k ∨ (a = k ∧ b < t) then Z.clamp (m a b) else m a b
theorem clamp_ite (x : Int) : (if -1099511627776 < (if 1099511627776 < x then 1099511627776 else x) then (if 1099511627776 < x then 1099511627776 else x) else -1099511627776) = Z.clamp x := by unfold Z.clamp; split <;> split <;> omega
/-- A matrix that a call makes. -/
def NewM (w : World) (n : Nat) (m : Z.M) (e : Ending) (w' : World) : Prop := ∃ B R C cap, e = .returned (.agg #[.slice (some ⟨B, 0, none⟩) n cap]) ∧ n ≤ cap ∧ OM w' w.heap.size B R C n m ∧ Below w.heap.size w w'
theorem infoR : (Try.prog.info? 41).map (fun i => (i.zero, i.size, i.bytes)) = some (some (.slice none 0 0), 1, 24) := by kernel_rfl
set_option maxRecDepth 100000 in
set_option maxHeartbeats 6400000 in
theorem cloned_c (a : Addr) (n cap : Nat) (m : Z.M) (w : World) (hn : 1 ≤ n) (hn2 : n ≤ 1000) (hm : RM w a n m) :
    Calls Try.prog 84 #[.agg #[.slice (some a) n cap]] w (NewM w n (Z.clampM m)) := by
  have HM := Lib.hid hm
  clear hm
  have hmk := fun W => run_make_row' (P := Try.prog) 29 41 (.slice none 0 0) 24 Try.underlying29 infoR rfl .i64 .i64 n (by omega) (by omega) W
  go_enter Try.func84, Try.ntmps84
  go_upto_region 2 with fail
  clear hmk
  refine at_world (fun W => Hid (Below w.heap.size w W ∧ OMP W (w.heap.size + 1 + 1) (w.heap.size + 1 + 1) (fun _ => 0) (fun _ => 0) n 0 41 (Z.clampM m)) ∧ (∀ o, W.cell? ⟨w.heap.size, o, none⟩ = [Value.slice (some a) n cap][o]?) ∧ (∀ o, W.cell? ⟨w.heap.size + 1, o, none⟩ = [Value.slice none 0 0][o]?) ∧ (∀ o, W.frozen? ⟨w.heap.size + 1, o, none⟩ = false)) ?_ ?_
  · refine ⟨Lib.hid ⟨(by repeat' (first | exact Below.refl _ _ | (refine Below.alloc ?_ ?_ _) | (refine Below.setCell ?_ ?_ _) | (refine Below.drew ?_) | (refine below_next ?_ ?_ (by assumption)) | omega | (simp; done) | (simp; omega))), ?_⟩, ?_, ?_, ?_⟩
    · simpa using OMP.start ((w.alloc (.cells #[.slice (some a) n cap] 31)).alloc (.cells #[.slice none 0 0] 31)) (base := w.heap.size + 1 + 1) (by simp) n 41 (fun _ => 0) (fun _ => 0) (Z.clampM m)
    · intro o; simp [go_sem]
    · intro o; simp [go_sem]
    · intro o; simp [go_sem]
  intro W0 HW0
  obtain ⟨HB0, k0, k1, f1⟩ := HW0
  go_wp2_with fail
  go_loopw [15] (fun i wr => ∃ (k : Nat) (R C : Nat → Nat), k ≤ n ∧ i = .int .i64 k ∧ OMP wr (w.heap.size + 1 + 1) (w.heap.size + 1 + 1) R C n k 41 (Z.clampM m) ∧ Below (w.heap.size + 1 + 1) W0 wr) (fun i _ => n - (intOf i).toNat)
  case atStart => exact ⟨0, _, _, by omega, rfl, HB0.out.2, Below.refl _ _⟩
  case round =>
    obtain ⟨k, R, C, hk, rfl, homp, hb⟩ := hrel
    have hs0 : w.heap.size + 1 + 1 ≤ wr.heap.size := by have := homp.outer.lt; omega
    have k0' := fun o => (hb.cell (p := ⟨w.heap.size, o, none⟩) (by show w.heap.size < _; omega)).trans (k0 o)
    have k1' := fun o => (hb.cell (p := ⟨w.heap.size + 1, o, none⟩) (by show w.heap.size + 1 < _; omega)).trans (k1 o)
    have f1' := fun o => (hb.frozen (p := ⟨w.heap.size + 1, o, none⟩) (by show w.heap.size + 1 < _; omega)).trans (f1 o)
    by_cases hlt : k < n
    · have HW : Hid (Below w.heap.size w wr) := Lib.hid (HB0.out.1.trans (hb.mono (by omega)))
      obtain ⟨Rm, Cm, hm1, hm2⟩ := HM.out.below HW.out
      have c1 := (hm1 k hlt).1
      have hrow : ∀ j, j < n → wr.cell? ((Rm k).add j) = some (.int .i64 (m k j)) := fun j hj => hm2 k j hlt hj
      have CL := fun W => clone_c (Rm k) n (Cm k) (m k) W hn hn2
      have HR := Lib.hid hrow
      have HP := Lib.hid homp
      have HB := Lib.hid hb
      have hk0 : (0 : Int) ≤ (k : Int) := by omega
      have hk1 : (k : Int) < (n : Int) := by omega
      clear hm1 hm2 hrow homp hb k0 k1 f1 k0' k1' f1'
      obtain ⟨wo, rfl⟩ : ∃ wo : World, wo = wr := ⟨_, rfl⟩
      go_upto_region 6 with (go_at_call 105; refine (CL _ HR.out).mono ?_; rintro e w1 ⟨g, c, rfl, hrw⟩; have q1 := (HP.out.below hrw.2.2.2.2.2).outer.cell hlt; have q2 := (HP.out.below hrw.2.2.2.2.2).outer.frozen k)
      refine at_world (fun W => ∃ R1 C1 : Nat → Nat, R1 k = g ∧ C1 k = c ∧ Hid (OMP W (w.heap.size + 1 + 1) (w.heap.size + 1 + 1) R1 C1 n (k + 1) 41 (CM m k 0) ∧ Below (w.heap.size + 1 + 1) W0 W)) ?_ ?_
      · refine ⟨_, _, ?_, ?_, Lib.hid ⟨HP.out.new hlt hrw (m' := CM m k 0) (fun i j hi hj => ?_) (fun j hj => ?_) hs0, ?_⟩⟩
        · simp
        · simp
        · unfold CM; rw [if_pos (.inl hi)]; rfl
        · unfold CM; rw [if_neg (by omega)]
        · exact (HB.out.trans (hrw.2.2.2.2.2.mono hs0)).setCell (Nat.le_refl _) _
      rintro W1 ⟨R1, C1, rfl, rfl, HO1⟩
      clear q1 q2 hrw HP HB HR CL c1 HW w1
      have c3 := HO1.out.1.outerAt (Nat.lt_succ_self k) hlt
      go_wp2_with fail
      clear c3
      go_loopw [30] (fun i wr => ∃ t : Nat, t ≤ n ∧ i = .int .i64 t ∧ OMP wr (w.heap.size + 1 + 1) (w.heap.size + 1 + 1) R1 C1 n (k + 1) 41 (CM m k t) ∧ Below (w.heap.size + 1 + 1) W0 wr) (fun i _ => n - (intOf i).toNat)
      case atStart => exact ⟨0, by omega, rfl, HO1.out.1, HO1.out.2⟩
      case round =>
        obtain ⟨t, ht, rfl, homp, hb⟩ := hrel
        by_cases hlu : t < n
        · have c1 := homp.outerAt (Nat.lt_succ_self k) hlt
          have c2 := homp.inner k t (by omega) hlu
          have f2 := homp.frz k t (by omega) hlu
          have e2 : CM m k t k t = m k t := by unfold CM; rw [if_neg (by omega)]
          rw [e2] at c2
          have HS : Hid (∀ i j, i < k + 1 → j < n → Z.upd (CM m k t) k t (Z.clamp (m k t)) i j = CM m k (t + 1) i j) := Lib.hid (fun i j hi hj => by
            unfold Z.upd CM
            by_cases e : i = k ∧ j = t
            · obtain ⟨rfl, rfl⟩ := e
              rw [if_pos ⟨rfl, rfl⟩, if_pos (by omega)]
            · rw [if_neg e]
              by_cases e3 : i < k ∨ (i = k ∧ j < t)
              · rw [if_pos e3, if_pos (by omega)]
              · rw [if_neg e3, if_neg (by omega)])
          obtain ⟨x, hx⟩ : ∃ x, m k t = x := ⟨_, rfl⟩
          rw [hx] at c2 HS
          have HP := Lib.hid homp
          have HB := Lib.hid hb
          have ht0 : (0 : Int) ≤ (t : Int) := by omega
          have ht1 : (t : Int) < (n : Int) := by omega
          clear homp hb hx e2
          go_wp2_with fail
          all_goals exact ⟨⟨t + 1, by omega, by go_num, by rw [clamp_ite]; exact (HP.out.set (by omega) hlu _).alike HS.out, HB.out.setCell ((HP.out.hR k (by omega)).1) _⟩, by simp [intOf]; omega⟩
        · obtain rfl : t = n := by omega
          have HP : Hid (OMP wr (w.heap.size + 1 + 1) (w.heap.size + 1 + 1) R1 C1 t (k + 1) 41 (Z.clampM m)) := Lib.hid (homp.alike (fun i j hi hj => by unfold CM; rw [if_pos (by omega)]; rfl))
          have HB := Lib.hid hb
          clear homp hb ht hlu
          go_wp2_with fail
          all_goals exact ⟨⟨k + 1, R1, C1, by omega, by go_num, HP.out, HB.out⟩, by simp [intOf]; omega⟩
    · obtain rfl : k = n := by omega
      have HP : Hid (OM wr w.heap.size (w.heap.size + 1 + 1) R C k (Z.clampM m)) := Lib.hid (homp.om.lower (by omega))
      have HW : Hid (Below w.heap.size w wr) := Lib.hid (HB0.out.1.trans (hb.mono (by omega)))
      have HRb : Hid (∀ i, i < k → w.heap.size + 1 + 1 ≤ R i) := Lib.hid (fun i hi => (homp.hR i hi).1)
      clear homp hb hk hlt k0 k1 f1
      go_wp2_with fail
      exact bodyPost_ret (v := .agg #[.slice (some ⟨w.heap.size + 1 + 1, 0, none⟩) k k]) (by simp [results, Try.results84, go_sem, *]) rfl ⟨_, R, C, _, rfl, Nat.le_refl _, HP.out.keep (by simp) (Below.heap_setCell _ ⟨w.heap.size + 1, 0, none⟩ _ _ (by show w.heap.size + 1 + 1 ≠ w.heap.size + 1; omega)) (fun i hi => Below.heap_setCell _ ⟨w.heap.size + 1, 0, none⟩ _ _ (by have := HRb.out i hi; show R i ≠ w.heap.size + 1; omega)), HW.out.setCell (by show w.heap.size ≤ w.heap.size + 1; omega) _⟩
/-- A matrix that a call makes, or nothing. -/
def NewM2 (w : World) (n : Nat) (m : Z.M) (e : Ending) (w' : World) : Prop := Below w.heap.size w w' ∧ ((Z.okM m n = true ∧ ∃ B R C cap, e = .returned (.tuple #[.agg #[.slice (some ⟨B, 0, none⟩) n cap], .bool true]) ∧ n ≤ cap ∧ OM w' w.heap.size B R C n m) ∨ (Z.okM m n = false ∧ e = .returned (.tuple #[.agg #[.slice none 0 0], .bool false])))
end Go.Proofs.Ytdmphpkiclfhhaa.C
