/- A memory and its blocks, as they lie (MR); memory.New, Add: walks. -/
import Derived.Test.YtkgdogdallojlaaMem
import Derived.BigFrame
import Derived.BigGuard
import Derived.StillTailTactics
import Derived.Deep.CutBlock
import Derived.WalkMore
import Derived.Deep.RegionLaw
namespace Go.Proofs.Ytkgdogdallojlaa.C
open Go.RowKit
set_option linter.unusedSimpArgs false
set_option linter.unusedVariables false
theorem infoB : (Try.prog.info? 52).map (fun i => (i.zero, i.size, i.bytes)) = some (some (.agg #[.int .i64 0, .slice none 0 0]), 2, 32) := by kernel_rfl
theorem infoM : (Try.prog.info? 3).map (fun i => (i.zero, i.size, i.bytes)) = some (some (.int .i64 0), 1, 8) := by kernel_rfl
theorem m_plain (g j : Nat) : (⟨g, 0, none⟩ : Addr).add j = ⟨g, j, none⟩ := by unfold Addr.add; split <;> simp_all
theorem m_kept {w w' : World} {p : Addr} (h : w'.heap[p.block]? = w.heap[p.block]?) : w'.cell? p = w.cell? p := World.cell?_of_block (w := w) h
theorem m_frz {w w' : World} {p : Addr} (h : w'.heap[p.block]? = w.heap[p.block]?) : w'.frozen? p = w.frozen? p := World.frozen?_of_block (w := w) h
/-- The cells of n blocks in a row. -/
def xsM (ts : Nat → Int) (ad ln cp : Nat → Nat) : Nat → List Value
  | 0 => []
  | n + 1 => xsM ts ad ln cp n ++ [.int .i64 (ts n), .slice (some ⟨ad n, 0, none⟩) (ln n) (cp n)]
theorem xsM_len (ts : Nat → Int) (ad ln cp : Nat → Nat) (n : Nat) : (xsM ts ad ln cp n).length = n * 2 := by
  induction n with
  | zero => rfl
  | succ n ih => simp [xsM, ih]; omega
theorem xsM_at (ts : Nat → Int) (ad ln cp : Nat → Nat) (n i : Nat) (h : i < n) :
    (xsM ts ad ln cp n)[i * 2]? = some (.int .i64 (ts i)) ∧ (xsM ts ad ln cp n)[i * 2 + 1]? = some (.slice (some ⟨ad i, 0, none⟩) (ln i) (cp i)) := by
  induction n with
  | zero => omega
  | succ n ih =>
    have hl := xsM_len ts ad ln cp n
    by_cases e : i = n
    · subst e
      constructor
      · rw [xsM, List.getElem?_append_right (by omega), hl]; simp
      · rw [xsM, List.getElem?_append_right (by omega), hl]
        have : i * 2 + 1 - i * 2 = 1 := by omega
        rw [this]; rfl
    · obtain ⟨h1, h2⟩ := ih (by omega)
      constructor
      · rw [xsM, List.getElem?_append_left (by omega)]; exact h1
      · rw [xsM, List.getElem?_append_left (by omega)]; exact h2
theorem xsM_congr {ts ts' : Nat → Int} {ad ad' ln ln' cp cp' : Nat → Nat} (n : Nat) (h : ∀ i, i < n → ts i = ts' i ∧ ad i = ad' i ∧ ln i = ln' i ∧ cp i = cp' i) : xsM ts ad ln cp n = xsM ts' ad' ln' cp' n := by
  induction n with
  | zero => rfl
  | succ n ih =>
    obtain ⟨h1, h2, h3, h4⟩ := h n (by omega)
    rw [xsM, xsM, ih (fun i hi => h i (by omega)), h1, h2, h3, h4]
/-- A memory at block p: its slice is L, of n blocks; block i: type ts i, values f i in block ad i. -/
structure MR (w : World) (base p : Nat) (L : Value) (n : Nat) (ts : Nat → Int) (ad ln cp : Nat → Nat) (f : Nat → Nat → Int) : Prop where
  hp : base ≤ p ∧ p < w.heap.size
  cell : w.cell? ⟨p, 0, none⟩ = some L
  frz : w.frozen? ⟨p, 0, none⟩ = false
  own : w.ownsRow base 52 2 L n (xsM ts ad ln cp n)
  hL : L.ownBlock ≠ some p
  hA : ∀ i, i < n → base ≤ ad i ∧ ad i < w.heap.size ∧ ad i ≠ p ∧ L.ownBlock ≠ some (ad i) ∧ 1 ≤ ln i ∧ ln i ≤ 16 ∧ ln i ≤ cp i
  inj : ∀ i j, i < n → j < n → ad i = ad j → i = j
  inner : ∀ i j, i < n → j < ln i → w.cell? ⟨ad i, j, none⟩ = some (.int .i64 (f i j))
  ifrz : ∀ i j, i < n → j < ln i → w.frozen? ⟨ad i, j, none⟩ = false
theorem new_c (w : World) : Calls Try.prog 11 #[] w fun e w' => e = .returned (.pointer (some ⟨w.heap.size, 0, none⟩)) ∧ Below w.heap.size w w' ∧ MR w' w.heap.size w.heap.size (.slice none 0 0) 0 (fun _ => 0) (fun _ => 0) (fun _ => 0) (fun _ => 0) (fun _ _ => 0) := by
  go_enter Try.func11, Try.ntmps11
  go_wp2
  go_ret
  refine ⟨rfl, (by repeat' (first | exact Below.refl _ _ | (refine Below.alloc ?_ ?_ _) | (refine Below.setCell ?_ ?_ _) | (refine Below.drew ?_) | (refine below_next ?_ ?_ (by assumption)) | omega | (simp; done) | (simp; omega))), ⟨by simp, by simp [go_sem], by simp [go_sem], ⟨rfl, .inl ⟨rfl, rfl⟩⟩, by simp [Value.ownBlock], ?_, ?_, ?_, ?_⟩⟩
  all_goals intros; omega
def sizeM (s : Int) : Nat := (max 1 (min s 16)).toNat
theorem sizeM_bd (s : Int) : 1 ≤ sizeM s ∧ sizeM s ≤ 16 := by unfold sizeM; omega
theorem sizeM_eq (s : Int) : ((sizeM s : Nat) : Int) = max 1 (min s 16) := by unfold sizeM; omega
def addT (n : Nat) (ts : Nat → Int) (t : Int) : Nat → Int := fun i => if i = n then t else ts i
def addN (n : Nat) (ad : Nat → Nat) (a : Nat) : Nat → Nat := fun i => if i = n then a else ad i
def addF (n : Nat) (f : Nat → Nat → Int) (g : Nat → Int) : Nat → Nat → Int := fun i => if i = n then g else f i
theorem own_below {w w1 : World} {base : Nat} {e : TypeId} {size : Nat} {v : Value} {n : Nat} {xs : List Value} (h : w.ownsRow base e size v n xs) (hb : Below w.heap.size w w1) : w1.ownsRow base e size v n xs := by
  obtain ⟨h1, h2⟩ := h
  refine ⟨h1, ?_⟩
  rcases h2 with h2 | ⟨g, cap, cur, rfl, hg, hh, r⟩
  · exact .inl h2
  · exact .inr ⟨g, cap, cur, rfl, hg, (hb.block g (Array.getElem?_eq_some_iff.1 hh).1).trans hh, r⟩
theorem own_blk {w : World} {base : Nat} {e : TypeId} {size : Nat} {v : Value} {n : Nat} {xs : List Value} (h : w.ownsRow base e size v n xs) (k : Nat) (hk : v.ownBlock = some k) : base ≤ k ∧ k < w.heap.size := by
  rcases h.2 with ⟨rfl, _⟩ | ⟨g, cap, cur, rfl, hg, hh, _⟩
  · simp [Value.ownBlock] at hk
  · have : g = k := by simpa [Value.ownBlock] using hk
    subst this
    exact ⟨hg, (Array.getElem?_eq_some_iff.1 hh).1⟩
/-- Where the append of a new block is done. -/
def addW (w : World) (t : Int) (k : Nat) : World := ((w.alloc (.cells (madeCells #[.int .i64 0] k) 3)).alloc (.cells #[.int .i64 t, .slice (some ⟨w.heap.size, 0, none⟩) k k] 52)).drew
theorem addW_news (w : World) (t : Int) (k : Nat) : ∀ j u, ([.int .i64 t, .slice (some ⟨w.heap.size, 0, none⟩) k k] : List Value)[j]? = some u → (addW w t k).cell? ((⟨w.heap.size + 1, 0, none⟩ : Addr).add j) = some u := by
  intro j u hu
  rw [m_plain]
  unfold addW
  match j, hu with
  | 0, hu => simp at hu; subst hu; simp [go_sem]
  | 1, hu => simp at hu; subst hu; simp [go_sem]
  | j + 2, hu => simp at hu
theorem addW_new (w : World) (t : Int) (k : Nat) : (∀ j, j < k → (addW w t k).cell? ⟨w.heap.size, j, none⟩ = some (.int .i64 0)) ∧ (∀ j, (addW w t k).frozen? ⟨w.heap.size, j, none⟩ = false) := by
  unfold addW
  constructor
  · intro j hj
    simp [go_sem, madeCells, hj, Nat.mod_one]
  · intro j
    simp [go_sem]
theorem MR.added {w w1 : World} {base p n : Nat} {L : Value} {ts : Nat → Int} {ad ln cp : Nat → Nat} {f : Nat → Nat → Int} {t : Int} {k g cap : Nat} (hm : MR w base p L n ts ad ln cp f) (hb0 : base ≤ w.heap.size) (hk1 : 1 ≤ k) (hk2 : k ≤ 16)
    (hown : w1.ownsRow base 52 2 (.slice (some ⟨g, 0, none⟩) (n + 1) cap) (n + 1) (xsM ts ad ln cp n ++ [.int .i64 t, .slice (some ⟨w.heap.size, 0, none⟩) k k])) (hgrow : (addW w t k).grownBy w1 L.ownBlock) (hat : L.ownBlock = some g ∨ g = w.heap.size + 1 + 1) :
    Below base w (w1.setCell ⟨p, 0, none⟩ (.slice (some ⟨g, 0, none⟩) (n + 1) cap)) ∧
    MR (w1.setCell ⟨p, 0, none⟩ (.slice (some ⟨g, 0, none⟩) (n + 1) cap)) base p (.slice (some ⟨g, 0, none⟩) (n + 1) cap) (n + 1) (addT n ts t) (addN n ad w.heap.size) (addN n ln k) (addN n cp k) (addF n f fun _ => 0) := by
  have hbW : Below w.heap.size w (addW w t k) := by unfold addW; exact (by repeat' (first | exact Below.refl _ _ | (refine Below.alloc ?_ ?_ _) | (refine Below.setCell ?_ ?_ _) | (refine Below.drew ?_) | (refine below_next ?_ ?_ (by assumption)) | omega | (simp; done) | (simp; omega)))
  have hzW : (addW w t k).heap.size = w.heap.size + 1 + 1 := by unfold addW; simp
  have hw1 := hgrow.size
  have hpw := hm.hp.2
  have hgp : g ≠ p := by
    rcases hat with h | h
    · intro e; exact hm.hL (by rw [h, e])
    · omega
  have hgb : g ≠ w.heap.size := by
    rcases hat with h | h
    · have := (own_blk hm.own g h).2; omega
    · omega
  have keep : ∀ b, b < w.heap.size + 1 + 1 → L.ownBlock ≠ some b → w1.heap[b]? = (addW w t k).heap[b]? := fun b hb hne => hgrow.block b (by omega) (fun e => hne e.symm)
  have keep0 : ∀ b, b < w.heap.size → L.ownBlock ≠ some b → w1.heap[b]? = w.heap[b]? := fun b hb hne => (keep b (by omega) hne).trans (hbW.block b hb)
  have hLw : L.ownBlock ≠ some w.heap.size := fun e => by have := (own_blk hm.own _ e).2; omega
  have hset : ∀ b, b ≠ p → (w1.setCell ⟨p, 0, none⟩ (.slice (some ⟨g, 0, none⟩) (n + 1) cap)).heap[b]? = w1.heap[b]? := fun b hb => Below.heap_setCell w1 ⟨p, 0, none⟩ _ b hb
  have hsz : (w1.setCell ⟨p, 0, none⟩ (.slice (some ⟨g, 0, none⟩) (n + 1) cap)).heap.size = w1.heap.size := by simp
  have hc1 : w1.cell? ⟨p, 0, none⟩ = some L := (m_kept (p := ⟨p, 0, none⟩) (keep0 p hpw hm.hL)).trans hm.cell
  have hf1 : w1.frozen? ⟨p, 0, none⟩ = false := (m_frz (p := ⟨p, 0, none⟩) (keep0 p hpw hm.hL)).trans hm.frz
  refine ⟨((hbW.mono hb0).grown hgrow (by omega) (fun q hq => (own_blk hm.own q hq).1)).setCell (p := ⟨p, 0, none⟩) hm.hp.1 _, ⟨hm.hp.1, by omega⟩, World.cell?_setCell_same _ _ _ hc1, by simpa [go_sem] using hf1, ?_, ?_, fun i hi => ?_, fun i j hi hj e => ?_, fun i j hi hj => ?_, fun i j hi hj => ?_⟩
  · have e : xsM (addT n ts t) (addN n ad w.heap.size) (addN n ln k) (addN n cp k) (n + 1) = xsM ts ad ln cp n ++ [.int .i64 t, .slice (some ⟨w.heap.size, 0, none⟩) k k] := by
      rw [xsM, xsM_congr (ts' := ts) (ad' := ad) (ln' := ln) (cp' := cp) n (fun i hi => by simp [addT, addN, Nat.ne_of_lt hi])]
      simp [addT, addN]
    rw [e]
    obtain ⟨h1, h2⟩ := hown
    refine ⟨h1, ?_⟩
    rcases h2 with h2 | ⟨g', cap', cur, h3, hg, hh, r⟩
    · simp at h2
    · have eg : g = g' := by simp at h3; exact h3.1
      subst eg
      exact .inr ⟨g, cap', cur, h3, hg, (hset g hgp).trans hh, r⟩
  · intro e; simp [Value.ownBlock] at e; exact hgp e
  · by_cases e : i = n
    · simp only [addN, e, if_true]
      exact ⟨hb0, by omega, by omega, fun q => hgb (by simpa [Value.ownBlock] using q), hk1, hk2, Nat.le_refl _⟩
    · simp only [addN, e, if_false]
      obtain ⟨h1, h2, h3, h4, h5⟩ := hm.hA i (by omega)
      refine ⟨h1, by omega, h3, fun q => ?_, h5⟩
      have q2 : g = ad i := by simpa [Value.ownBlock] using q
      rcases hat with h | h
      · exact h4 (by rw [h, q2])
      · omega
  · by_cases e1 : i = n
    · by_cases e2 : j = n
      · omega
      · simp only [addN, e1, e2, if_true, if_false] at e
        have := (hm.hA j (by omega)).2.1; omega
    · by_cases e2 : j = n
      · simp only [addN, e1, e2, if_true, if_false] at e
        have := (hm.hA i (by omega)).2.1; omega
      · simp only [addN, e1, e2, if_false] at e
        exact hm.inj i j (by omega) (by omega) e
  · by_cases e : i = n
    · subst e
      simp only [addN, addF, if_true] at hj ⊢
      rw [m_kept (w := w1) (p := ⟨w.heap.size, j, none⟩) (hset w.heap.size (by omega)), m_kept (w := addW w t k) (p := ⟨w.heap.size, j, none⟩) (keep w.heap.size (by omega) hLw)]
      exact (addW_new w t k).1 j hj
    · simp only [addN, addF, e, if_false] at hj ⊢
      have hA := hm.hA i (by omega)
      rw [m_kept (w := w1) (p := ⟨ad i, j, none⟩) (hset _ hA.2.2.1), m_kept (w := w) (p := ⟨ad i, j, none⟩) (keep0 _ hA.2.1 hA.2.2.2.1)]
      exact hm.inner i j (by omega) hj
  · by_cases e : i = n
    · subst e
      simp only [addN, if_true] at hj ⊢
      rw [m_frz (w := w1) (p := ⟨w.heap.size, j, none⟩) (hset w.heap.size (by omega)), m_frz (w := addW w t k) (p := ⟨w.heap.size, j, none⟩) (keep w.heap.size (by omega) hLw)]
      exact (addW_new w t k).2 j
    · simp only [addN, e, if_false] at hj ⊢
      have hA := hm.hA i (by omega)
      rw [m_frz (w := w1) (p := ⟨ad i, j, none⟩) (hset _ hA.2.2.1), m_frz (w := w) (p := ⟨ad i, j, none⟩) (keep0 _ hA.2.1 hA.2.2.2.1)]
      exact hm.ifrz i j (by omega) hj
/-- A name for the world at a region's end. -/
theorem at_normal {Q : Exit → Act → World → Prop} {e : Exit} {a : Act} {w : World} (F : World → Prop) (h : F w) (k : ∀ W, F W → Q e a W) : Q e a w := k w h
/-- .. and another block. -/
def Added (w : World) (base p n : Nat) (ts : Nat → Int) (ad ln cp : Nat → Nat) (f : Nat → Nat → Int) (t s : Int) (e : Ending) (w' : World) : Prop :=
  e = .returned (.int .i64 n) ∧ Below base w w' ∧ ∃ L a, MR w' base p L (n + 1) (addT n ts t) (addN n ad a) (addN n ln (sizeM s)) (addN n cp (sizeM s)) (addF n f fun _ => 0)
set_option maxHeartbeats 1600000 in
theorem add_c (base p n : Nat) (L : Value) (ts : Nat → Int) (ad ln cp : Nat → Nat) (f : Nat → Nat → Int) (t s : Int) (w : World) (hm : MR w base p L n ts ad ln cp f) (hn : n ≤ 100000) (hb0 : base ≤ w.heap.size) :
    Calls Try.prog 12 #[.pointer (some ⟨p, 0, none⟩), .int .i64 t, .int .i64 s] w (Added w base p n ts ad ln cp f t s) := by
  obtain ⟨i0, hi, hz⟩ := Option.map_eq_some_iff.1 infoB
  simp only [Prod.mk.injEq] at hz
  have HI := Lib.hid (And.intro hi hz)
  clear hi hz
  have HM := Lib.hid hm
  have HL := Lib.hid hm.hL
  have c0 := hm.cell
  have f0 := hm.frz
  have hp2 := hm.hp.2
  clear hm
  have hmk := fun (kl kc : IntKind) (w : World) => run_make_row' (P := Try.prog) 22 3 (.int .i64 0) 8 Try.underlying22 infoM rfl kl kc (sizeM s) (by have := sizeM_bd s; omega) (by have := sizeM_bd s; omega) w
  go_enter Try.func12, Try.ntmps12
  go_upto_region 3 with fail
  have hs1 : (if 1 < (if 16 < s then 16 else s) then (if 16 < s then 16 else s) else 1) = ((sizeM s : Nat) : Int) := by
    rw [sizeM_eq]; split <;> split <;> omega
  have hbW : Below w.heap.size w (addW w t (sizeM s)) := by unfold addW; exact (by repeat' (first | exact Below.refl _ _ | (refine Below.alloc ?_ ?_ _) | (refine Below.setCell ?_ ?_ _) | (refine Below.drew ?_) | (refine below_next ?_ ?_ (by assumption)) | omega | (simp; done) | (simp; omega)))
  have hnW := addW_news w t (sizeM s)
  have hzW : (addW w t (sizeM s)).heap.size = w.heap.size + 1 + 1 := by unfold addW; simp
  have HbW := Lib.hid hbW
  have HnW := Lib.hid hnW
  have HzW := Lib.hid hzW
  clear hbW hnW hzW
  have ne1 : (w.heap.size == p) = false := by simp; omega
  have ne2 : (w.heap.size + 1 == p) = false := by simp; omega
  go_region_law (first | (refine step_append_lies (addW w t (sizeM s)) (by rfl) (.tmp 13) (.tmp 20) 43 (by rfl) base 52 i0 (.agg #[.int .i64 0, .slice none 0 0]) 2 32 Try.underlying43 HI.out.1 HI.out.2.1 HI.out.2.2.1 HI.out.2.2.2 rfl (by omega) L n _ (by rfl) (own_below HM.out.own HbW.out) ⟨w.heap.size + 1, 0, none⟩ 1 1 [.int .i64 t, .slice (some ⟨w.heap.size, 0, none⟩) (sizeM s) (sizeM s)] (by rfl) rfl HnW.out (by simp [Value.oneCell']) (by omega) (by unfold maxLen; omega) (by omega) (by have := HzW.out; omega) (w.heap.size + 1 + 1) HzW.out ?_; intro g cap w1 hown hgrow hat hlt; have hc1 : w1.cell? ⟨p, 0, none⟩ = some L := (hgrow.cell_far ⟨p, 0, none⟩ (by have := HzW.out; show p < _; omega) (fun e => HL.out e.symm)).trans ((HbW.out.cell (p := ⟨p, 0, none⟩) hp2).trans c0); have hf1 : w1.frozen? ⟨p, 0, none⟩ = false := (hgrow.frozen_far ⟨p, 0, none⟩ (by have := HzW.out; show p < _; omega) (fun e => HL.out e.symm)).trans ((HbW.out.frozen (p := ⟨p, 0, none⟩) hp2).trans f0)))
  all_goals have hw : (w1.setCell ⟨p, 0, none⟩ (Value.slice (some ⟨g, 0, none⟩) (n + 1) cap)).cell? ⟨p, 0, none⟩ = some (.slice (some ⟨g, 0, none⟩) (n + 1) cap) := World.cell?_setCell_same _ _ _ hc1
  all_goals have hsl := sizeM_bd s
  all_goals have HA := Lib.hid (HM.out.added hb0 hsl.1 hsl.2 hown hgrow hat)
  all_goals clear hown hgrow hat hlt hsl
  all_goals refine at_normal (fun W => W.cell? ⟨p, 0, none⟩ = some (.slice (some ⟨g, 0, none⟩) (n + 1) cap) ∧ Hid (Below base w W ∧ MR W base p (.slice (some ⟨g, 0, none⟩) (n + 1) cap) (n + 1) (addT n ts t) (addN n ad w.heap.size) (addN n ln (sizeM s)) (addN n cp (sizeM s)) (addF n f fun _ => 0))) ⟨hw, HA⟩ ?_
  all_goals clear hw HA hc1 hf1
  all_goals intro W ⟨hw, HA⟩
  all_goals go_wp2_with fail
  all_goals go_ret
  all_goals exact ⟨ret_i64 (by go_num), HA.out.1, _, _, HA.out.2⟩
end Go.Proofs.Ytkgdogdallojlaa.C
