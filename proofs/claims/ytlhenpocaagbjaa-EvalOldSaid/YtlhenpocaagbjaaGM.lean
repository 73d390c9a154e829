/- Memories, and two of them side by side -/
import Derived.WalkKit
import Derived.ProofKit
import Derived.ChangeOld
import Derived.ChangeSlices
import Derived.Below
import Derived.RowKit
import Derived.Test.YtlhenpocaagbjaaRefTyp
import Derived.Test.YtlhenpocaagbjaaWords
import Derived.Lib.Hide
import Derived.Laws.AppendOwn
import Derived.Deep.AppendLies
import Derived.Deep.RegionHeld3
import Derived.Deep.OwnRows
import Derived.BigFrame
import Derived.BigGuard
import Derived.StillTailTactics
import Derived.Deep.CutBlock
import Derived.WalkMore
import Derived.Deep.RegionLaw
import Derived.Maps.AppendAt
import Derived.OwnWalk
import Derived.Lib.LazyBuf
import Derived.Laws.OwnMore
import Derived.ArgAppend
import Derived.Outline
namespace Go.Proofs.Ytlhenpocaagbjaa.C
open Go.ChangeShapes Go.WideShapes Go.RowKit
/-- A slice of whole numbers that is read: nil, empty and other slices alike. -/
def IntRow (w : World) (k : IntKind) (a : Option Addr) (n : Nat) (zs : List Int) : Prop :=
  zs.length = n ∧ n ≤ maxLen ∧ (∀ z ∈ zs, (Lit.int k z).wf = true) ∧ (0 < n → ∃ ad, a = some ad ∧ ad.block < w.heap.size ∧ ∀ j, j < n → w.cell? (ad.add j) = some (.int k (zs.getD j 0)))
theorem add_block (ad : Addr) (j : Nat) : (ad.add j).block = ad.block := by unfold Addr.add; split <;> rfl
theorem open_row {H : Type} {enc : TypeId × Value → H} {P : Program} {W : World} {base : Nat} {spare : Nat → Bool} {held : Bool} {t e : TypeId} {k : IntKind} {a : Option Addr} {len cap : Nat} {d : DataW H} {ps : List MemPlace}
    (ht : P.underlying t = some (.slice e)) (he : P.underlying e = some (.int k)) (hc : P.cellsOf e = 1) (h : DataW.Trod enc P W base spare held t (.slice a len cap) d ps) : ∃ zs, IntRow W k a len zs := by
  obtain ⟨fuel, hf⟩ := h
  rcases open_ints ht he hc hf with ⟨hcs, _⟩ | ⟨x, l, c, zs, hcs, _, hl, hm, hz, _, hcell, hwz⟩
  · simp [Value.cells] at hcs
    obtain ⟨rfl, rfl, rfl⟩ := hcs
    exact ⟨[], rfl, by simp [maxLen], by simp, fun h => absurd h (by omega)⟩
  · simp [Value.cells] at hcs
    obtain ⟨rfl, rfl, rfl⟩ := hcs
    have hlz : len ≤ zs.length := by rw [hz]; split <;> omega
    refine ⟨zs.take len, by simp; omega, by omega, fun z hz' => hwz z (List.mem_of_mem_take hz'), fun h0 => ⟨x, rfl, ?_, fun j hj => ?_⟩⟩
    · have := World.block_lt_of_cell? W _ (hcell 0 (by omega))
      rwa [add_block] at this
    · rw [hcell j (by omega)]
      simp [List.getD_eq_getElem?_getD, hj]
theorem IntRow.below {w w' : World} {k : IntKind} {a : Option Addr} {n : Nat} {zs : List Int} (h : IntRow w k a n zs) (hb : Below w.heap.size w w') : IntRow w' k a n zs :=
  ⟨h.1, h.2.1, h.2.2.1, fun h0 => by
    obtain ⟨ad, e, hl, hc⟩ := h.2.2.2 h0
    exact ⟨ad, e, Nat.lt_of_lt_of_le hl hb.size, fun j hj => (hb.cell (by rw [add_block]; exact hl)).trans (hc j hj)⟩⟩
theorem IntRow.wf {w : World} {k : IntKind} {a : Option Addr} {n : Nat} {zs : List Int} (h : IntRow w k a n zs) {j : Nat} (hj : j < n) : (Lit.int k (zs.getD j 0)).wf = true := by
  have hl : j < zs.length := by rw [h.1]; exact hj
  refine h.2.2.1 _ ?_
  rw [List.getD_eq_getElem?_getD, List.getElem?_eq_getElem hl]
  exact List.getElem_mem hl
end Go.Proofs.Ytlhenpocaagbjaa.C

namespace Go.Proofs.Ytlhenpocaagbjaa.C
open Go.RowKit
theorem wf_u8 {x : Int} (h : (Lit.int .u8 x).wf = true) : 0 ≤ x ∧ x ≤ 255 := by
  have : IntKind.min .u8 ≤ x ∧ x ≤ IntKind.max .u8 := by simpa [Lit.wf] using h
  simpa [IntKind.min, IntKind.max, IntKind.signed, IntKind.bits] using this
theorem wf_u16 {x : Int} (h : (Lit.int .u16 x).wf = true) : 0 ≤ x ∧ x ≤ 65535 := by
  have : IntKind.min .u16 ≤ x ∧ x ≤ IntKind.max .u16 := by simpa [Lit.wf] using h
  simpa [IntKind.min, IntKind.max, IntKind.signed, IntKind.bits] using this
theorem wf_u32 {x : Int} (h : (Lit.int .u32 x).wf = true) : 0 ≤ x ∧ x ≤ 4294967295 := by
  have : IntKind.min .u32 ≤ x ∧ x ≤ IntKind.max .u32 := by simpa [Lit.wf] using h
  simpa [IntKind.min, IntKind.max, IntKind.signed, IntKind.bits] using this
theorem wf_i8 {x : Int} (h : (Lit.int .i8 x).wf = true) : -128 ≤ x ∧ x ≤ 127 := by
  have : IntKind.min .i8 ≤ x ∧ x ≤ IntKind.max .i8 := by simpa [Lit.wf] using h
  simpa [IntKind.min, IntKind.max, IntKind.signed, IntKind.bits] using this
theorem wf_i16 {x : Int} (h : (Lit.int .i16 x).wf = true) : -32768 ≤ x ∧ x ≤ 32767 := by
  have : IntKind.min .i16 ≤ x ∧ x ≤ IntKind.max .i16 := by simpa [Lit.wf] using h
  simpa [IntKind.min, IntKind.max, IntKind.signed, IntKind.bits] using this
theorem wf_i32 {x : Int} (h : (Lit.int .i32 x).wf = true) : -2147483648 ≤ x ∧ x ≤ 2147483647 := by
  have : IntKind.min .i32 ≤ x ∧ x ≤ IntKind.max .i32 := by simpa [Lit.wf] using h
  simpa [IntKind.min, IntKind.max, IntKind.signed, IntKind.bits] using this
theorem wf_i64 {x : Int} (h : (Lit.int .i64 x).wf = true) : -9223372036854775808 ≤ x ∧ x ≤ 9223372036854775807 := by
  have : IntKind.min .i64 ≤ x ∧ x ≤ IntKind.max .i64 := by simpa [Lit.wf] using h
  simpa [IntKind.min, IntKind.max, IntKind.signed, IntKind.bits] using this
end Go.Proofs.Ytlhenpocaagbjaa.C

namespace Go.Proofs.Ytlhenpocaagbjaa.C
open Go.RowKit
set_option linter.unusedSimpArgs false
set_option linter.unusedVariables false
theorem has_nil (id at' : Int) (w : World) : Calls Try.prog 35 #[.pointer none, .int .i64 id, .int .i64 at'] w fun e w' => e = .returned (.bool false) ∧ w = w' := by
  go_enter Try.func35, Try.ntmps35
  go_wp2
  go_ret
  exact ⟨rfl, rfl⟩
theorem get_nil (id at' : Int) (w : World) : Calls Try.prog 59 #[.pointer none, .int .i64 id, .int .i64 at'] w fun e w' => e = .returned (.tuple #[.int .i64 0, .bool false]) ∧ w = w' := by
  go_enter Try.func59, Try.ntmps59
  go_wp2_with ((go_at_call 35; refine (has_nil id at' _).mono ?_; rintro e w' ⟨rfl, rfl⟩))
  exact bodyPost_ret (v := .tuple #[.int .i64 0, .bool false]) (by simp [results, Try.results59, go_sem, *]) rfl ⟨rfl, rfl⟩
theorem set_nil (id at' v : Int) (w : World) : Calls Try.prog 22 #[.pointer none, .int .i64 id, .int .i64 at', .int .i64 v] w fun e w' => e = .returned (.bool false) ∧ w = w' := by
  go_enter Try.func22, Try.ntmps22
  go_wp2_with ((go_at_call 35; refine (has_nil id at' _).mono ?_; rintro e w' ⟨rfl, rfl⟩))
  go_ret
  exact ⟨rfl, rfl⟩
theorem add_nil (t s : Int) (w : World) : Calls Try.prog 20 #[.pointer none, .int .i64 t, .int .i64 s] w fun e w' => e = .returned (.int .i64 (-1)) ∧ w = w' := by
  go_enter Try.func20, Try.ntmps20
  go_wp2
  go_ret
  exact ⟨rfl, rfl⟩
end Go.Proofs.Ytlhenpocaagbjaa.C

namespace Go.Proofs.Ytlhenpocaagbjaa.C
open Go.RowKit
set_option linter.unusedSimpArgs false
set_option linter.unusedVariables false
theorem infoB : (Try.prog.info? 89).map (fun i => (i.zero, i.size, i.bytes)) = some (some (.agg #[.int .i64 0, .slice none 0 0]), 2, 32) := by kernel_rfl
theorem infoM : (Try.prog.info? 3).map (fun i => (i.zero, i.size, i.bytes)) = some (some (.int .i64 0), 1, 8) := by kernel_rfl
theorem m_plain (g j : Nat) : (⟨g, 0, none⟩ : Addr).add j = ⟨g, j, none⟩ := by unfold Addr.add; split <;> simp_all
theorem m_kept {w w' : World} {p : Addr} (h : w'.heap[p.block]? = w.heap[p.block]?) : w'.cell? p = w.cell? p := World.cell?_of_block (w := w) h
theorem m_frz {w w' : World} {p : Addr} (h : w'.heap[p.block]? = w.heap[p.block]?) : w'.frozen? p = w.frozen? p := World.frozen?_of_block (w := w) h
/-- The cells of n blocks in a row. -/
def xsM (ts : Nat → Int) (ad ln cp : Nat → Nat) : Nat → List Value
  | 0 => []
  | n + 1 => xsM ts ad ln cp n ++ [.int .i64 (ts n), .slice (some ⟨ad n, 0, none⟩) (ln n) (cp n)]
theorem xsM_len (ts : Nat → Int) (ad ln cp : Nat → Nat) (n : Nat) : (xsM ts ad ln cp n).length = n * 2 := by
  induction n with
  | zero => rfl
  | succ n ih => simp [xsM, ih]; omega
theorem xsM_at (ts : Nat → Int) (ad ln cp : Nat → Nat) (n i : Nat) (h : i < n) :
    (xsM ts ad ln cp n)[i * 2]? = some (.int .i64 (ts i)) ∧ (xsM ts ad ln cp n)[i * 2 + 1]? = some (.slice (some ⟨ad i, 0, none⟩) (ln i) (cp i)) := by
  induction n with
  | zero => omega
  | succ n ih =>
    have hl := xsM_len ts ad ln cp n
    by_cases e : i = n
    · subst e
      constructor
      · rw [xsM, List.getElem?_append_right (by omega), hl]; simp
      · rw [xsM, List.getElem?_append_right (by omega), hl]
        have : i * 2 + 1 - i * 2 = 1 := by omega
        rw [this]; rfl
    · obtain ⟨h1, h2⟩ := ih (by omega)
      constructor
      · rw [xsM, List.getElem?_append_left (by omega)]; exact h1
      · rw [xsM, List.getElem?_append_left (by omega)]; exact h2
theorem xsM_congr {ts ts' : Nat → Int} {ad ad' ln ln' cp cp' : Nat → Nat} (n : Nat) (h : ∀ i, i < n → ts i = ts' i ∧ ad i = ad' i ∧ ln i = ln' i ∧ cp i = cp' i) : xsM ts ad ln cp n = xsM ts' ad' ln' cp' n := by
  induction n with
  | zero => rfl
  | succ n ih =>
    obtain ⟨h1, h2, h3, h4⟩ := h n (by omega)
    rw [xsM, xsM, ih (fun i hi => h i (by omega)), h1, h2, h3, h4]
/-- A memory at block p: its slice is L, of n blocks; block i: type ts i, values f i in block ad i. -/
structure MR (w : World) (base p : Nat) (L : Value) (n : Nat) (ts : Nat → Int) (ad ln cp : Nat → Nat) (f : Nat → Nat → Int) : Prop where
  hp : base ≤ p ∧ p < w.heap.size
  cell : w.cell? ⟨p, 0, none⟩ = some L
  frz : w.frozen? ⟨p, 0, none⟩ = false
  own : w.ownsRow base 89 2 L n (xsM ts ad ln cp n)
  hL : L.ownBlock ≠ some p
  hA : ∀ i, i < n → base ≤ ad i ∧ ad i < w.heap.size ∧ ad i ≠ p ∧ L.ownBlock ≠ some (ad i) ∧ 1 ≤ ln i ∧ ln i ≤ 16 ∧ ln i ≤ cp i
  inj : ∀ i j, i < n → j < n → ad i = ad j → i = j
  inner : ∀ i j, i < n → j < ln i → w.cell? ⟨ad i, j, none⟩ = some (.int .i64 (f i j))
  ifrz : ∀ i j, i < n → j < ln i → w.frozen? ⟨ad i, j, none⟩ = false
theorem new_c (w : World) : Calls Try.prog 19 #[] w fun e w' => e = .returned (.pointer (some ⟨w.heap.size, 0, none⟩)) ∧ Below w.heap.size w w' ∧ MR w' w.heap.size w.heap.size (.slice none 0 0) 0 (fun _ => 0) (fun _ => 0) (fun _ => 0) (fun _ => 0) (fun _ _ => 0) := by
  go_enter Try.func19, Try.ntmps19
  go_wp2
  go_ret
  refine ⟨rfl, (by repeat' (first | exact Below.refl _ _ | (refine Below.alloc ?_ ?_ _) | (refine Below.setCell ?_ ?_ _) | (refine Below.drew ?_) | (refine below_next ?_ ?_ (by assumption)) | omega | (simp; done) | (simp; omega))), ⟨by simp, by simp [go_sem], by simp [go_sem], ⟨rfl, .inl ⟨rfl, rfl⟩⟩, by simp [Value.ownBlock], ?_, ?_, ?_, ?_⟩⟩
  all_goals intros; omega
def sizeM (s : Int) : Nat := (max 1 (min s 16)).toNat
theorem sizeM_bd (s : Int) : 1 ≤ sizeM s ∧ sizeM s ≤ 16 := by unfold sizeM; omega
theorem sizeM_eq (s : Int) : ((sizeM s : Nat) : Int) = max 1 (min s 16) := by unfold sizeM; omega
def addT (n : Nat) (ts : Nat → Int) (t : Int) : Nat → Int := fun i => if i = n then t else ts i
def addN (n : Nat) (ad : Nat → Nat) (a : Nat) : Nat → Nat := fun i => if i = n then a else ad i
def addF (n : Nat) (f : Nat → Nat → Int) (g : Nat → Int) : Nat → Nat → Int := fun i => if i = n then g else f i
theorem own_below {w w1 : World} {base : Nat} {e : TypeId} {size : Nat} {v : Value} {n : Nat} {xs : List Value} (h : w.ownsRow base e size v n xs) (hb : Below w.heap.size w w1) : w1.ownsRow base e size v n xs := by
  obtain ⟨h1, h2⟩ := h
  refine ⟨h1, ?_⟩
  rcases h2 with h2 | ⟨g, cap, cur, rfl, hg, hh, r⟩
  · exact .inl h2
  · exact .inr ⟨g, cap, cur, rfl, hg, (hb.block g (Array.getElem?_eq_some_iff.1 hh).1).trans hh, r⟩
theorem own_blk {w : World} {base : Nat} {e : TypeId} {size : Nat} {v : Value} {n : Nat} {xs : List Value} (h : w.ownsRow base e size v n xs) (k : Nat) (hk : v.ownBlock = some k) : base ≤ k ∧ k < w.heap.size := by
  rcases h.2 with ⟨rfl, _⟩ | ⟨g, cap, cur, rfl, hg, hh, _⟩
  · simp [Value.ownBlock] at hk
  · have : g = k := by simpa [Value.ownBlock] using hk
    subst this
    exact ⟨hg, (Array.getElem?_eq_some_iff.1 hh).1⟩
/-- Where the append of a new block is done. -/
def addW (w : World) (t : Int) (k : Nat) : World := ((w.alloc (.cells (madeCells #[.int .i64 0] k) 3)).alloc (.cells #[.int .i64 t, .slice (some ⟨w.heap.size, 0, none⟩) k k] 89)).drew
theorem addW_news (w : World) (t : Int) (k : Nat) : ∀ j u, ([.int .i64 t, .slice (some ⟨w.heap.size, 0, none⟩) k k] : List Value)[j]? = some u → (addW w t k).cell? ((⟨w.heap.size + 1, 0, none⟩ : Addr).add j) = some u := by
  intro j u hu
  rw [m_plain]
  unfold addW
  match j, hu with
  | 0, hu => simp at hu; subst hu; simp [go_sem]
  | 1, hu => simp at hu; subst hu; simp [go_sem]
  | j + 2, hu => simp at hu
theorem addW_new (w : World) (t : Int) (k : Nat) : (∀ j, j < k → (addW w t k).cell? ⟨w.heap.size, j, none⟩ = some (.int .i64 0)) ∧ (∀ j, (addW w t k).frozen? ⟨w.heap.size, j, none⟩ = false) := by
  unfold addW
  constructor
  · intro j hj
    simp [go_sem, madeCells, hj, Nat.mod_one]
  · intro j
    simp [go_sem]
theorem MR.added {w w1 : World} {base p n : Nat} {L : Value} {ts : Nat → Int} {ad ln cp : Nat → Nat} {f : Nat → Nat → Int} {t : Int} {k g cap : Nat} (hm : MR w base p L n ts ad ln cp f) (hb0 : base ≤ w.heap.size) (hk1 : 1 ≤ k) (hk2 : k ≤ 16)
    (hown : w1.ownsRow base 89 2 (.slice (some ⟨g, 0, none⟩) (n + 1) cap) (n + 1) (xsM ts ad ln cp n ++ [.int .i64 t, .slice (some ⟨w.heap.size, 0, none⟩) k k])) (hgrow : (addW w t k).grownBy w1 L.ownBlock) (hat : L.ownBlock = some g ∨ g = w.heap.size + 1 + 1) :
    Below base w (w1.setCell ⟨p, 0, none⟩ (.slice (some ⟨g, 0, none⟩) (n + 1) cap)) ∧
    MR (w1.setCell ⟨p, 0, none⟩ (.slice (some ⟨g, 0, none⟩) (n + 1) cap)) base p (.slice (some ⟨g, 0, none⟩) (n + 1) cap) (n + 1) (addT n ts t) (addN n ad w.heap.size) (addN n ln k) (addN n cp k) (addF n f fun _ => 0) := by
  have hbW : Below w.heap.size w (addW w t k) := by unfold addW; exact (by repeat' (first | exact Below.refl _ _ | (refine Below.alloc ?_ ?_ _) | (refine Below.setCell ?_ ?_ _) | (refine Below.drew ?_) | (refine below_next ?_ ?_ (by assumption)) | omega | (simp; done) | (simp; omega)))
  have hzW : (addW w t k).heap.size = w.heap.size + 1 + 1 := by unfold addW; simp
  have hw1 := hgrow.size
  have hpw := hm.hp.2
  have hgp : g ≠ p := by
    rcases hat with h | h
    · intro e; exact hm.hL (by rw [h, e])
    · omega
  have hgb : g ≠ w.heap.size := by
    rcases hat with h | h
    · have := (own_blk hm.own g h).2; omega
    · omega
  have keep : ∀ b, b < w.heap.size + 1 + 1 → L.ownBlock ≠ some b → w1.heap[b]? = (addW w t k).heap[b]? := fun b hb hne => hgrow.block b (by omega) (fun e => hne e.symm)
  have keep0 : ∀ b, b < w.heap.size → L.ownBlock ≠ some b → w1.heap[b]? = w.heap[b]? := fun b hb hne => (keep b (by omega) hne).trans (hbW.block b hb)
  have hLw : L.ownBlock ≠ some w.heap.size := fun e => by have := (own_blk hm.own _ e).2; omega
  have hset : ∀ b, b ≠ p → (w1.setCell ⟨p, 0, none⟩ (.slice (some ⟨g, 0, none⟩) (n + 1) cap)).heap[b]? = w1.heap[b]? := fun b hb => Below.heap_setCell w1 ⟨p, 0, none⟩ _ b hb
  have hsz : (w1.setCell ⟨p, 0, none⟩ (.slice (some ⟨g, 0, none⟩) (n + 1) cap)).heap.size = w1.heap.size := by simp
  have hc1 : w1.cell? ⟨p, 0, none⟩ = some L := (m_kept (p := ⟨p, 0, none⟩) (keep0 p hpw hm.hL)).trans hm.cell
  have hf1 : w1.frozen? ⟨p, 0, none⟩ = false := (m_frz (p := ⟨p, 0, none⟩) (keep0 p hpw hm.hL)).trans hm.frz
  refine ⟨((hbW.mono hb0).grown hgrow (by omega) (fun q hq => (own_blk hm.own q hq).1)).setCell (p := ⟨p, 0, none⟩) hm.hp.1 _, ⟨hm.hp.1, by omega⟩, World.cell?_setCell_same _ _ _ hc1, by simpa [go_sem] using hf1, ?_, ?_, fun i hi => ?_, fun i j hi hj e => ?_, fun i j hi hj => ?_, fun i j hi hj => ?_⟩
  · have e : xsM (addT n ts t) (addN n ad w.heap.size) (addN n ln k) (addN n cp k) (n + 1) = xsM ts ad ln cp n ++ [.int .i64 t, .slice (some ⟨w.heap.size, 0, none⟩) k k] := by
      rw [xsM, xsM_congr (ts' := ts) (ad' := ad) (ln' := ln) (cp' := cp) n (fun i hi => by simp [addT, addN, Nat.ne_of_lt hi])]
      simp [addT, addN]
    rw [e]
    obtain ⟨h1, h2⟩ := hown
    refine ⟨h1, ?_⟩
    rcases h2 with h2 | ⟨g', cap', cur, h3, hg, hh, r⟩
    · simp at h2
    · have eg : g = g' := by simp at h3; exact h3.1
      subst eg
      exact .inr ⟨g, cap', cur, h3, hg, (hset g hgp).trans hh, r⟩
  · intro e; simp [Value.ownBlock] at e; exact hgp e
  · by_cases e : i = n
    · simp only [addN, e, if_true]
      exact ⟨hb0, by omega, by omega, fun q => hgb (by simpa [Value.ownBlock] using q), hk1, hk2, Nat.le_refl _⟩
    · simp only [addN, e, if_false]
      obtain ⟨h1, h2, h3, h4, h5⟩ := hm.hA i (by omega)
      refine ⟨h1, by omega, h3, fun q => ?_, h5⟩
      have q2 : g = ad i := by simpa [Value.ownBlock] using q
      rcases hat with h | h
      · exact h4 (by rw [h, q2])
      · omega
  · by_cases e1 : i = n
    · by_cases e2 : j = n
      · omega
      · simp only [addN, e1, e2, if_true, if_false] at e
        have := (hm.hA j (by omega)).2.1; omega
    · by_cases e2 : j = n
      · simp only [addN, e1, e2, if_true, if_false] at e
        have := (hm.hA i (by omega)).2.1; omega
      · simp only [addN, e1, e2, if_false] at e
        exact hm.inj i j (by omega) (by omega) e
  · by_cases e : i = n
    · subst e
      simp only [addN, addF, if_true] at hj ⊢
      rw [m_kept (w := w1) (p := ⟨w.heap.size, j, none⟩) (hset w.heap.size (by omega)), m_kept (w := addW w t k) (p := ⟨w.heap.size, j, none⟩) (keep w.heap.size (by omega) hLw)]
      exact (addW_new w t k).1 j hj
    · simp only [addN, addF, e, if_false] at hj ⊢
      have hA := hm.hA i (by omega)
      rw [m_kept (w := w1) (p := ⟨ad i, j, none⟩) (hset _ hA.2.2.1), m_kept (w := w) (p := ⟨ad i, j, none⟩) (keep0 _ hA.2.1 hA.2.2.2.1)]
      exact hm.inner i j (by omega) hj
  · by_cases e : i = n
    · subst e
      simp only [addN, if_true] at hj ⊢
      rw [m_frz (w := w1) (p := ⟨w.heap.size, j, none⟩) (hset w.heap.size (by omega)), m_frz (w := addW w t k) (p := ⟨w.heap.size, j, none⟩) (keep w.heap.size (by omega) hLw)]
      exact (addW_new w t k).2 j
    · simp only [addN, e, if_false] at hj ⊢
      have hA := hm.hA i (by omega)
      rw [m_frz (w := w1) (p := ⟨ad i, j, none⟩) (hset _ hA.2.2.1), m_frz (w := w) (p := ⟨ad i, j, none⟩) (keep0 _ hA.2.1 hA.2.2.2.1)]
      exact hm.ifrz i j (by omega) hj
/-- A name for the world at a region's end. -/
theorem at_normal {Q : Exit → Act → World → Prop} {e : Exit} {a : Act} {w : World} (F : World → Prop) (h : F w) (k : ∀ W, F W → Q e a W) : Q e a w := k w h
/-- .. and another block. -/
def Added (w : World) (base p n : Nat) (ts : Nat → Int) (ad ln cp : Nat → Nat) (f : Nat → Nat → Int) (t s : Int) (e : Ending) (w' : World) : Prop :=
  e = .returned (.int .i64 n) ∧ Below base w w' ∧ ∃ L a, MR w' base p L (n + 1) (addT n ts t) (addN n ad a) (addN n ln (sizeM s)) (addN n cp (sizeM s)) (addF n f fun _ => 0)
set_option maxHeartbeats 1600000 in
theorem add_c (base p n : Nat) (L : Value) (ts : Nat → Int) (ad ln cp : Nat → Nat) (f : Nat → Nat → Int) (t s : Int) (w : World) (hm : MR w base p L n ts ad ln cp f) (hn : n ≤ 100000) (hb0 : base ≤ w.heap.size) :
    Calls Try.prog 20 #[.pointer (some ⟨p, 0, none⟩), .int .i64 t, .int .i64 s] w (Added w base p n ts ad ln cp f t s) := by
  obtain ⟨i0, hi, hz⟩ := Option.map_eq_some_iff.1 infoB
  simp only [Prod.mk.injEq] at hz
  have HI := Lib.hid (And.intro hi hz)
  clear hi hz
  have HM := Lib.hid hm
  have HL := Lib.hid hm.hL
  have c0 := hm.cell
  have f0 := hm.frz
  have hp2 := hm.hp.2
  clear hm
  have hmk := fun (kl kc : IntKind) (w : World) => run_make_row' (P := Try.prog) 22 3 (.int .i64 0) 8 Try.underlying22 infoM rfl kl kc (sizeM s) (by have := sizeM_bd s; omega) (by have := sizeM_bd s; omega) w
  go_enter Try.func20, Try.ntmps20
  go_upto_region 3 with fail
  have hs1 : (if 1 < (if 16 < s then 16 else s) then (if 16 < s then 16 else s) else 1) = ((sizeM s : Nat) : Int) := by
    rw [sizeM_eq]; split <;> split <;> omega
  have hbW : Below w.heap.size w (addW w t (sizeM s)) := by unfold addW; exact (by repeat' (first | exact Below.refl _ _ | (refine Below.alloc ?_ ?_ _) | (refine Below.setCell ?_ ?_ _) | (refine Below.drew ?_) | (refine below_next ?_ ?_ (by assumption)) | omega | (simp; done) | (simp; omega)))
  have hnW := addW_news w t (sizeM s)
  have hzW : (addW w t (sizeM s)).heap.size = w.heap.size + 1 + 1 := by unfold addW; simp
  have HbW := Lib.hid hbW
  have HnW := Lib.hid hnW
  have HzW := Lib.hid hzW
  clear hbW hnW hzW
  have ne1 : (w.heap.size == p) = false := by simp; omega
  have ne2 : (w.heap.size + 1 == p) = false := by simp; omega
  go_region_law (first | (refine step_append_lies (addW w t (sizeM s)) (by rfl) (.tmp 13) (.tmp 20) 60 (by rfl) base 89 i0 (.agg #[.int .i64 0, .slice none 0 0]) 2 32 Try.underlying60 HI.out.1 HI.out.2.1 HI.out.2.2.1 HI.out.2.2.2 rfl (by omega) L n _ (by rfl) (own_below HM.out.own HbW.out) ⟨w.heap.size + 1, 0, none⟩ 1 1 [.int .i64 t, .slice (some ⟨w.heap.size, 0, none⟩) (sizeM s) (sizeM s)] (by rfl) rfl HnW.out (by simp [Value.oneCell']) (by omega) (by unfold maxLen; omega) (by omega) (by have := HzW.out; omega) (w.heap.size + 1 + 1) HzW.out ?_; intro g cap w1 hown hgrow hat hlt; have hc1 : w1.cell? ⟨p, 0, none⟩ = some L := (hgrow.cell_far ⟨p, 0, none⟩ (by have := HzW.out; show p < _; omega) (fun e => HL.out e.symm)).trans ((HbW.out.cell (p := ⟨p, 0, none⟩) hp2).trans c0); have hf1 : w1.frozen? ⟨p, 0, none⟩ = false := (hgrow.frozen_far ⟨p, 0, none⟩ (by have := HzW.out; show p < _; omega) (fun e => HL.out e.symm)).trans ((HbW.out.frozen (p := ⟨p, 0, none⟩) hp2).trans f0)))
  all_goals have hw : (w1.setCell ⟨p, 0, none⟩ (Value.slice (some ⟨g, 0, none⟩) (n + 1) cap)).cell? ⟨p, 0, none⟩ = some (.slice (some ⟨g, 0, none⟩) (n + 1) cap) := World.cell?_setCell_same _ _ _ hc1
  all_goals have hsl := sizeM_bd s
  all_goals have HA := Lib.hid (HM.out.added hb0 hsl.1 hsl.2 hown hgrow hat)
  all_goals clear hown hgrow hat hlt hsl
  all_goals refine at_normal (fun W => W.cell? ⟨p, 0, none⟩ = some (.slice (some ⟨g, 0, none⟩) (n + 1) cap) ∧ Hid (Below base w W ∧ MR W base p (.slice (some ⟨g, 0, none⟩) (n + 1) cap) (n + 1) (addT n ts t) (addN n ad w.heap.size) (addN n ln (sizeM s)) (addN n cp (sizeM s)) (addF n f fun _ => 0))) ⟨hw, HA⟩ ?_
  all_goals clear hw HA hc1 hf1
  all_goals intro W ⟨hw, HA⟩
  all_goals go_wp2_with fail
  all_goals go_ret
  all_goals exact ⟨ret_i64 (by go_num), HA.out.1, _, _, HA.out.2⟩
end Go.Proofs.Ytlhenpocaagbjaa.C

namespace Go.Proofs.Ytlhenpocaagbjaa.C
open Go.RowKit
set_option linter.unusedSimpArgs false
set_option linter.unusedVariables false
theorem MR.row {w : World} {base p n : Nat} {L : Value} {ts : Nat → Int} {ad ln cp : Nat → Nat} {f : Nat → Nat → Int} (hm : MR w base p L n ts ad ln cp f) (hn : 1 ≤ n) :
    ∃ g cap, L = .slice (some ⟨g, 0, none⟩) n cap ∧ n ≤ cap ∧ base ≤ g ∧ g < w.heap.size ∧ g ≠ p ∧ (∀ i, i < n → ad i ≠ g) ∧ (∀ i, i < n → w.cell? ⟨g, i * 2, none⟩ = some (.int .i64 (ts i)) ∧ w.cell? ⟨g, i * 2 + 1, none⟩ = some (.slice (some ⟨ad i, 0, none⟩) (ln i) (cp i))) := by
  have hh := hm.own
  obtain ⟨g, cap, hL, hb, hg⟩ := hh.form (by omega)
  have hcap : n ≤ cap := by
    rcases hh.2 with ⟨h1, h0⟩ | ⟨g', cap', cur, h1, _, _, h2, _⟩
    · omega
    · rw [hL] at h1; simp at h1; omega
  refine ⟨g, cap, hL, hcap, hb, hg, fun e => hm.hL (by rw [hL, e]; rfl), fun i hi e => (hm.hA i hi).2.2.2.1 (by rw [hL, e]; rfl), fun i hi => ?_⟩
  obtain ⟨h1, h2⟩ := xsM_at ts ad ln cp n i hi
  have k1 := hh.cells (g := g) (by rw [hL]; rfl) (i * 2) _ h1
  have k2 := hh.cells (g := g) (by rw [hL]; rfl) (i * 2 + 1) _ h2
  rw [m_plain] at k1 k2
  exact ⟨k1, k2⟩
set_option maxHeartbeats 1600000 in
theorem has_in (base p n : Nat) (L : Value) (ts : Nat → Int) (ad ln cp : Nat → Nat) (f : Nat → Nat → Int) (i j : Nat) (w : World) (hm : MR w base p L n ts ad ln cp f) (hi : i < n) (hj : j < ln i) :
    Calls Try.prog 35 #[.pointer (some ⟨p, 0, none⟩), .int .i64 i, .int .i64 j] w fun e w' => e = .returned (.bool true) ∧ w = w' := by
  obtain ⟨g, cap, rfl, hcap, _, _, _, _, hc⟩ := hm.row (by omega)
  have c0 := hm.cell
  obtain ⟨c1, c2⟩ := hc i hi
  clear hc hm hcap
  have g1 : decide (i < n) = true := decide_eq_true hi
  have g2 : decide (j < ln i) = true := decide_eq_true hj
  have hk0 : (0 : Int) ≤ (i : Int) := by omega
  have hk1 : (i : Int) < (n : Int) := by omega
  go_enter Try.func35, Try.ntmps35
  go_wp2_with fail
  go_ret
  exact ⟨rfl, rfl⟩
set_option maxHeartbeats 1600000 in
theorem get_in (base p n : Nat) (L : Value) (ts : Nat → Int) (ad ln cp : Nat → Nat) (f : Nat → Nat → Int) (i j : Nat) (w : World) (hm : MR w base p L n ts ad ln cp f) (hi : i < n) (hj : j < ln i) :
    Calls Try.prog 59 #[.pointer (some ⟨p, 0, none⟩), .int .i64 i, .int .i64 j] w fun e w' => e = .returned (.tuple #[.int .i64 (f i j), .bool true]) ∧ w = w' := by
  have HA := Lib.hid (has_in base p n L ts ad ln cp f i j w hm hi hj)
  have c3 := hm.inner i j hi hj
  obtain ⟨g, cap, rfl, hcap, _, _, _, _, hc⟩ := hm.row (by omega)
  have c0 := hm.cell
  obtain ⟨c1, c2⟩ := hc i hi
  clear hc hm hcap
  have hk0 : (0 : Int) ≤ (i : Int) := by omega
  have hk1 : (i : Int) < (n : Int) := by omega
  have hk2 : (0 : Int) ≤ (j : Int) := by omega
  have hk3 : (j : Int) < (ln i : Int) := by omega
  go_enter Try.func59, Try.ntmps59
  go_wp2_with ((go_at_call 35; refine (HA.out).mono ?_; rintro e w' ⟨rfl, rfl⟩))
  exact bodyPost_ret (v := .tuple #[.int .i64 (f i j), .bool true]) (by simp [results, Try.results59, go_sem, *]) rfl ⟨rfl, rfl⟩
def setF (f : Nat → Nat → Int) (i j : Nat) (v : Int) : Nat → Nat → Int := fun a b => if a = i ∧ b = j then v else f a b
theorem own_set {w : World} {base : Nat} {e : TypeId} {size : Nat} {L : Value} {n : Nat} {xs : List Value} (h : w.ownsRow base e size L n xs) {q : Addr} (hq : L.ownBlock ≠ some q.block) (v : Value) : (w.setCell q v).ownsRow base e size L n xs := by
  obtain ⟨h1, h2⟩ := h
  refine ⟨h1, ?_⟩
  rcases h2 with h2 | ⟨g, cap, cur, rfl, hg, hh, r⟩
  · exact .inl h2
  · exact .inr ⟨g, cap, cur, rfl, hg, (Below.heap_setCell w q v g (fun e => hq (by simp [Value.ownBlock, e]))).trans hh, r⟩
theorem MR.set {w : World} {base p n : Nat} {L : Value} {ts : Nat → Int} {ad ln cp : Nat → Nat} {f : Nat → Nat → Int} (hm : MR w base p L n ts ad ln cp f) {i j : Nat} (hi : i < n) (hj : j < ln i) (v : Int) :
    MR (w.setCell ⟨ad i, j, none⟩ (.int .i64 v)) base p L n ts ad ln cp (setF f i j v) := by
  have hs : (w.setCell ⟨ad i, j, none⟩ (.int .i64 v)).heap.size = w.heap.size := by simp
  have hA := hm.hA i hi
  have k := fun b (hb : b ≠ ad i) => Below.heap_setCell w ⟨ad i, j, none⟩ (.int .i64 v) b hb
  refine ⟨⟨hm.hp.1, by rw [hs]; exact hm.hp.2⟩, (m_kept (p := ⟨p, 0, none⟩) (k p (fun e => hA.2.2.1 e.symm))).trans hm.cell, (m_frz (p := ⟨p, 0, none⟩) (k p (fun e => hA.2.2.1 e.symm))).trans hm.frz, own_set hm.own (q := ⟨ad i, j, none⟩) hA.2.2.2.1 _, hm.hL, fun a ha => by rw [hs]; exact hm.hA a ha, hm.inj, fun a b ha hb => ?_, fun a b ha hb => ?_⟩
  · unfold setF
    by_cases e : a = i ∧ b = j
    · rw [if_pos e]
      obtain ⟨rfl, rfl⟩ := e
      exact World.cell?_setCell_same _ _ _ (hm.inner a b ha hb)
    · rw [if_neg e, World.cell?_setCell_other _ _ _ _ (fun q => e (by injection q with q1 q2; exact ⟨hm.inj a i ha hi q1.symm, q2.symm⟩))]
      exact hm.inner a b ha hb
  · simpa [go_sem] using hm.ifrz a b ha hb
theorem MR.below {w w' : World} {base p n : Nat} {L : Value} {ts : Nat → Int} {ad ln cp : Nat → Nat} {f : Nat → Nat → Int} (hm : MR w base p L n ts ad ln cp f) (hb : Below w.heap.size w w') : MR w' base p L n ts ad ln cp f :=
  ⟨⟨hm.hp.1, Nat.lt_of_lt_of_le hm.hp.2 hb.size⟩, (hb.cell (p := ⟨p, 0, none⟩) hm.hp.2).trans hm.cell, (hb.frozen (p := ⟨p, 0, none⟩) hm.hp.2).trans hm.frz, own_below hm.own hb, hm.hL,
   fun i hi => ⟨(hm.hA i hi).1, Nat.lt_of_lt_of_le (hm.hA i hi).2.1 hb.size, (hm.hA i hi).2.2⟩, hm.inj, fun i j hi hj => (hb.cell (p := ⟨ad i, j, none⟩) (hm.hA i hi).2.1).trans (hm.inner i j hi hj), fun i j hi hj => (hb.frozen (p := ⟨ad i, j, none⟩) (hm.hA i hi).2.1).trans (hm.ifrz i j hi hj)⟩
set_option maxHeartbeats 1600000 in
theorem set_in (base p n : Nat) (L : Value) (ts : Nat → Int) (ad ln cp : Nat → Nat) (f : Nat → Nat → Int) (i j : Nat) (v : Int) (w : World) (hm : MR w base p L n ts ad ln cp f) (hi : i < n) (hj : j < ln i) (hb0 : base ≤ w.heap.size) :
    Calls Try.prog 22 #[.pointer (some ⟨p, 0, none⟩), .int .i64 i, .int .i64 j, .int .i64 v] w fun e w' => e = .returned (.bool true) ∧ Below base w w' ∧ MR w' base p L n ts ad ln cp (setF f i j (wrapT (ts i) v)) := by
  have HA := Lib.hid (has_in base p n L ts ad ln cp f i j w hm hi hj)
  have HM := Lib.hid hm
  have HAi := Lib.hid (hm.hA i hi)
  obtain ⟨g, cap, rfl, hcap, _, _, _, _, hc⟩ := hm.row (by omega)
  have c0 := hm.cell
  obtain ⟨c1, c2⟩ := hc i hi
  clear hc hm hcap
  have hk0 : (0 : Int) ≤ (i : Int) := by omega
  have hk1 : (i : Int) < (n : Int) := by omega
  have hk2 : (0 : Int) ≤ (j : Int) := by omega
  have hk3 : (j : Int) < (ln i : Int) := by omega
  go_enter Try.func22, Try.ntmps22
  go_upto_region 3 with ((go_at_call 35; refine (HA.out).mono ?_; rintro e w' ⟨rfl, rfl⟩))
  obtain ⟨wo, rfl⟩ : ∃ wo : World, wo = w := ⟨_, rfl⟩
  have d0 := fun (x' : WIn (Below wo.heap.size wo)) => cell_later x'.h c0
  have d1 := fun (x' : WIn (Below wo.heap.size wo)) => cell_later x'.h c1
  have d2 := fun (x' : WIn (Below wo.heap.size wo)) => cell_later x'.h c2
  clear c0 c1 c2
  refine region_tail 20 (Below wo.heap.size wo) (by kernel_rfl) (by kernel_rfl) (Below.refl _ _).drew (fun inst => ?_)
  simp only [List.take_succ_cons, List.take_zero, List.drop_succ_cons, List.drop_zero]
  iterate 20 (go_big_quiet_step ((go_at_call 31; exact call_same _ (wrap_c (ts i) v _))))
  refine wpQuiet_nil ?_
  intro wd hbd
  have HD := Lib.hid (HM.out.below hbd)
  have k4 : wd.cell? ⟨ad i, j, none⟩ = some (.int .i64 (f i j)) := HD.out.inner i j hi hj
  have f4 : wd.frozen? ⟨ad i, j, none⟩ = false := HD.out.ifrz i j hi hj
  have HR : Hid (Below base wo (wd.setCell ⟨ad i, j, none⟩ (.int .i64 (wrapT (ts i) v))) ∧ MR (wd.setCell ⟨ad i, j, none⟩ (.int .i64 (wrapT (ts i) v))) base p (.slice (some ⟨g, 0, none⟩) n cap) n ts ad ln cp (setF f i j (wrapT (ts i) v))) := Lib.hid ⟨(hbd.mono hb0).setCell (p := ⟨ad i, j, none⟩) HAi.out.1 _, HD.out.set hi hj _⟩
  clear d0 d1 d2
  go_wp2_with fail
  go_ret
  exact ⟨rfl, HR.out⟩
end Go.Proofs.Ytlhenpocaagbjaa.C

namespace Go.Proofs.Ytlhenpocaagbjaa.C
open Go.RowKit
set_option linter.unusedSimpArgs false
set_option linter.unusedVariables false
/-- A memory that is read: block p holds a slice of n blocks, which lie in g. -/
structure MV (w : World) (p g n cap : Nat) (ts : Nat → Int) (ad ln cp : Nat → Nat) (f : Nat → Nat → Int) : Prop where
  cell : w.cell? ⟨p, 0, none⟩ = some (.slice (some ⟨g, 0, none⟩) n cap)
  hcap : n ≤ cap
  rows : ∀ i, i < n → w.cell? ⟨g, i * 2, none⟩ = some (.int .i64 (ts i)) ∧ w.cell? ⟨g, i * 2 + 1, none⟩ = some (.slice (some ⟨ad i, 0, none⟩) (ln i) (cp i))
  inner : ∀ i j, i < n → j < ln i → w.cell? ⟨ad i, j, none⟩ = some (.int .i64 (f i j))
theorem MR.view {w : World} {base p n : Nat} {L : Value} {ts : Nat → Int} {ad ln cp : Nat → Nat} {f : Nat → Nat → Int} (hm : MR w base p L n ts ad ln cp f) (hn : 1 ≤ n) : ∃ g cap, L = .slice (some ⟨g, 0, none⟩) n cap ∧ MV w p g n cap ts ad ln cp f ∧ base ≤ g ∧ g < w.heap.size ∧ g ≠ p ∧ (∀ i, i < n → ad i ≠ g) := by
  obtain ⟨g, cap, hL, hcap, h1, h2, h3, h4, h5⟩ := hm.row hn
  exact ⟨g, cap, hL, ⟨by rw [← hL]; exact hm.cell, hcap, h5, hm.inner⟩, h1, h2, h3, h4⟩
theorem MV.keep {w w' : World} {p g n cap : Nat} {ts : Nat → Int} {ad ln cp : Nat → Nat} {f : Nat → Nat → Int} (hm : MV w p g n cap ts ad ln cp f) (hp : w'.heap[p]? = w.heap[p]?) (hg : w'.heap[g]? = w.heap[g]?) (ha : ∀ i, i < n → w'.heap[ad i]? = w.heap[ad i]?) : MV w' p g n cap ts ad ln cp f :=
  ⟨(m_kept (p := ⟨p, 0, none⟩) hp).trans hm.cell, hm.hcap, fun i hi => ⟨(m_kept (p := ⟨g, i * 2, none⟩) hg).trans (hm.rows i hi).1, (m_kept (p := ⟨g, i * 2 + 1, none⟩) hg).trans (hm.rows i hi).2⟩, fun i j hi hj => (m_kept (p := ⟨ad i, j, none⟩) (ha i hi)).trans (hm.inner i j hi hj)⟩
def hasM (n : Nat) (ln : Nat → Nat) (id at' : Int) : Bool := decide (0 ≤ id ∧ id < n ∧ 0 ≤ at' ∧ at' < ln id.toNat)
set_option maxHeartbeats 1600000 in
theorem has_c (p g n cap : Nat) (ts : Nat → Int) (ad ln cp : Nat → Nat) (f : Nat → Nat → Int) (id at' : Int) (w : World) (hv : MV w p g n cap ts ad ln cp f) :
    Calls Try.prog 35 #[.pointer (some ⟨p, 0, none⟩), .int .i64 id, .int .i64 at'] w fun e w' => e = .returned (.bool (hasM n ln id at')) ∧ w = w' := by
  have c0 := hv.cell
  by_cases h1 : 0 ≤ id
  · obtain ⟨i, rfl⟩ := Int.eq_ofNat_of_zero_le h1
    by_cases h2 : i < n
    · obtain ⟨c1, c2⟩ := hv.rows i h2
      have g1 : decide (i < n) = true := decide_eq_true h2
      have hk0 : (0 : Int) ≤ (i : Int) := by omega
      have hk1 : (i : Int) < (n : Int) := by omega
      by_cases h3 : 0 ≤ at'
      · obtain ⟨j, rfl⟩ := Int.eq_ofNat_of_zero_le h3
        have e0 : hasM n ln (i : Int) (j : Int) = decide (j < ln i) := by
          unfold hasM
          by_cases h4 : j < ln i
          · rw [decide_eq_true h4]; exact decide_eq_true ⟨h1, by omega, h3, by simpa using h4⟩
          · rw [decide_eq_false h4]; exact decide_eq_false (fun q => h4 (by have := q.2.2.2; simpa using this))
        rw [e0]
        clear e0 h1 h3 hv
        rcases Bool.eq_false_or_eq_true (decide (j < ln i)) with g2 | g2
        · rw [g2]
          go_enter Try.func35, Try.ntmps35
          go_wp2_with fail
          go_ret
          exact ⟨rfl, rfl⟩
        · rw [g2]
          go_enter Try.func35, Try.ntmps35
          go_wp2_with fail
          go_ret
          exact ⟨rfl, rfl⟩
      · have e0 : hasM n ln (i : Int) at' = false := decide_eq_false (fun q => h3 q.2.2.1)
        rw [e0]
        have g3 : decide (0 ≤ at') = false := decide_eq_false h3
        have g4 : at' < 0 := by omega
        clear e0 h1 h3 hv
        go_enter Try.func35, Try.ntmps35
        go_wp2_with fail
        go_ret
        exact ⟨rfl, rfl⟩
    · have e0 : hasM n ln (i : Int) at' = false := decide_eq_false (fun q => h2 (by have := q.2.1; omega))
      rw [e0]
      have g1 : decide (i < n) = false := decide_eq_false h2
      clear e0 h1 hv
      go_enter Try.func35, Try.ntmps35
      go_wp2_with fail
      go_ret
      exact ⟨rfl, rfl⟩
  · have e0 : hasM n ln id at' = false := decide_eq_false (fun q => h1 q.1)
    rw [e0]
    have g3 : decide (0 ≤ id) = false := decide_eq_false h1
    have g4 : id < 0 := by omega
    clear e0 h1 hv
    go_enter Try.func35, Try.ntmps35
    go_wp2_with fail
    go_ret
    exact ⟨rfl, rfl⟩
set_option maxHeartbeats 1600000 in
theorem get_v (p g n cap : Nat) (ts : Nat → Int) (ad ln cp : Nat → Nat) (f : Nat → Nat → Int) (i j : Nat) (w : World) (hv : MV w p g n cap ts ad ln cp f) (hi : i < n) (hj : j < ln i) :
    Calls Try.prog 59 #[.pointer (some ⟨p, 0, none⟩), .int .i64 i, .int .i64 j] w fun e w' => e = .returned (.tuple #[.int .i64 (f i j), .bool true]) ∧ w = w' := by
  have HA := has_c p g n cap ts ad ln cp f i j w hv
  rw [show hasM n ln (i : Int) (j : Int) = true from decide_eq_true ⟨by omega, by omega, by omega, by simpa using hj⟩] at HA
  have HA := Lib.hid HA
  have c3 := hv.inner i j hi hj
  have c0 := hv.cell
  obtain ⟨c1, c2⟩ := hv.rows i hi
  clear hv
  have hk0 : (0 : Int) ≤ (i : Int) := by omega
  have hk1 : (i : Int) < (n : Int) := by omega
  have hk2 : (0 : Int) ≤ (j : Int) := by omega
  have hk3 : (j : Int) < (ln i : Int) := by omega
  go_enter Try.func59, Try.ntmps59
  go_wp2_with ((go_at_call 35; refine (HA.out).mono ?_; rintro e w' ⟨rfl, rfl⟩))
  exact bodyPost_ret (v := .tuple #[.int .i64 (f i j), .bool true]) (by simp [results, Try.results59, go_sem, *]) rfl ⟨rfl, rfl⟩
set_option maxHeartbeats 1600000 in
theorem set_out (p g n cap : Nat) (ts : Nat → Int) (ad ln cp : Nat → Nat) (f : Nat → Nat → Int) (id at' v : Int) (w : World) (hv : MV w p g n cap ts ad ln cp f) (hn : hasM n ln id at' = false) :
    Calls Try.prog 22 #[.pointer (some ⟨p, 0, none⟩), .int .i64 id, .int .i64 at', .int .i64 v] w fun e w' => e = .returned (.bool false) ∧ w = w' := by
  have HA := has_c p g n cap ts ad ln cp f id at' w hv
  rw [hn] at HA
  have HA := Lib.hid HA
  clear hv hn
  go_enter Try.func22, Try.ntmps22
  go_wp2_with ((go_at_call 35; refine (HA.out).mono ?_; rintro e w' ⟨rfl, rfl⟩))
  go_ret
  exact ⟨rfl, rfl⟩
end Go.Proofs.Ytlhenpocaagbjaa.C

namespace Go.Proofs.Ytlhenpocaagbjaa.C
open Go.RowKit
set_option linter.unusedSimpArgs false
set_option linter.unusedVariables false
/-- A new row. -/
def RowNew (w : World) (g cap n : Nat) (f : Nat → Int) (w' : World) : Prop :=
  w.heap.size ≤ g ∧ g < w'.heap.size ∧ n ≤ cap ∧ (∀ j, j < n → w'.cell? ⟨g, j, none⟩ = some (.int .i64 (f j))) ∧ (∀ j, j < n → w'.frozen? ⟨g, j, none⟩ = false) ∧ Below w.heap.size w w'
def ClonePost (n : Nat) (f : Nat → Int) (w : World) (e : Ending) (w' : World) : Prop := ∃ g cap, e = .returned (.slice (some ⟨g, 0, none⟩) n cap) ∧ RowNew w g cap n f w'
theorem own_empty (w : World) (e : TypeId) (s : Nat) : (w.alloc (.cells #[] e)).ownsRow w.heap.size e s (.slice (some ⟨w.heap.size, 0, none⟩) 0 0) 0 [] :=
  ⟨by simp, .inr ⟨w.heap.size, 0, #[], rfl, Nat.le_refl _, by simpa using heap_alloc_new w (.cells #[] e), Nat.le_refl _, Nat.zero_le _, by simp, by simp⟩⟩
theorem own_row {w : World} {base n : Nat} {e : TypeId} {v : Value} {f : Nat → Value} (h : w.ownsRow base e 1 v n ((List.range n).map f)) (hn : 1 ≤ n) :
    ∃ g cap, v = .slice (some ⟨g, 0, none⟩) n cap ∧ base ≤ g ∧ g < w.heap.size ∧ n ≤ cap ∧ (∀ j, j < n → w.cell? ⟨g, j, none⟩ = some (f j)) ∧ (∀ j, w.frozen? ⟨g, j, none⟩ = false) := by
  have hh := h
  rcases h.2 with ⟨_, h0⟩ | ⟨g, cap, cur, rfl, hb, hc, hl, hm, hs, ht⟩
  · omega
  refine ⟨g, cap, rfl, hb, (Array.getElem?_eq_some_iff.1 hc).1, hl, fun j hj => ?_, fun j => ?_⟩
  · have := hh.cells (g := g) rfl j (f j) (by simp [hj])
    rwa [m_plain] at this
  · exact hh.frozenAt j
theorem xsM_one (ts : Nat → Int) (ad ln cp : Nat → Nat) (n : Nat) : ∀ u ∈ xsM ts ad ln cp n, u.oneCell' = true := by
  induction n with
  | zero => intro u hu; simp [xsM] at hu
  | succ n ih =>
    intro u hu
    simp [xsM] at hu
    rcases hu with hu | rfl | rfl
    · exact ih u hu
    · simp [Value.oneCell']
    · simp [Value.oneCell']
theorem xsM_news {w : World} {g n : Nat} {ts : Nat → Int} {ad ln cp : Nat → Nat} (h : ∀ i, i < n → w.cell? ⟨g, i * 2, none⟩ = some (.int .i64 (ts i)) ∧ w.cell? ⟨g, i * 2 + 1, none⟩ = some (.slice (some ⟨ad i, 0, none⟩) (ln i) (cp i))) :
    ∀ j u, (xsM ts ad ln cp n)[j]? = some u → w.cell? ((⟨g, 0, none⟩ : Addr).add j) = some u := by
  intro j u hu
  have hj : j < n * 2 := by
    have := (List.getElem?_eq_some_iff.1 hu).1
    rwa [xsM_len] at this
  rw [m_plain]
  have hi : j / 2 < n := by omega
  obtain ⟨x1, x2⟩ := xsM_at ts ad ln cp n (j / 2) hi
  obtain ⟨h1, h2⟩ := h (j / 2) hi
  rcases Nat.mod_two_eq_zero_or_one j with e | e
  · have ej : j / 2 * 2 = j := by omega
    rw [ej] at x1 h1
    rw [x1] at hu
    rw [h1, hu]
  · have ej : j / 2 * 2 + 1 = j := by omega
    rw [ej] at x2 h2
    rw [x2] at hu
    rw [h2, hu]
/-- A new row of blocks. -/
def RowsNew (w : World) (g cap n : Nat) (ts : Nat → Int) (ad ln cp : Nat → Nat) (w' : World) : Prop :=
  w.heap.size ≤ g ∧ g < w'.heap.size ∧ n ≤ cap ∧ (∀ i, i < n → w'.cell? ⟨g, i * 2, none⟩ = some (.int .i64 (ts i)) ∧ w'.cell? ⟨g, i * 2 + 1, none⟩ = some (.slice (some ⟨ad i, 0, none⟩) (ln i) (cp i))) ∧ (∀ j, w'.frozen? ⟨g, j, none⟩ = false) ∧ Below w.heap.size w w'
end Go.Proofs.Ytlhenpocaagbjaa.C

namespace Go.Proofs.Ytlhenpocaagbjaa.C
open Go.RowKit
set_option linter.unusedSimpArgs false
set_option linter.unusedVariables false
/-- A copy of which k blocks have arrays of their own. -/
structure CI (w : World) (B p g cap n k : Nat) (ts : Nat → Int) (ad0 ad ln cp : Nat → Nat) (f : Nat → Nat → Int) : Prop where
  hp : B ≤ p ∧ p < w.heap.size
  hg : B ≤ g ∧ g < w.heap.size ∧ g ≠ p
  cell : w.cell? ⟨p, 0, none⟩ = some (.slice (some ⟨g, 0, none⟩) n cap)
  hcap : n ≤ cap
  rows : ∀ i, i < n → w.cell? ⟨g, i * 2, none⟩ = some (.int .i64 (ts i)) ∧ w.cell? ⟨g, i * 2 + 1, none⟩ = some (.slice (some ⟨ad i, 0, none⟩) (ln i) (cp i))
  frz : ∀ j, w.frozen? ⟨g, j, none⟩ = false
  new : ∀ i, i < k → B ≤ ad i ∧ ad i < w.heap.size ∧ ad i ≠ g ∧ ad i ≠ p
  low : ∀ i, i < n → ad0 i < B
  old : ∀ i, k ≤ i → i < n → ad i = ad0 i
  inner : ∀ i j, i < n → j < ln i → w.cell? ⟨ad i, j, none⟩ = some (.int .i64 (f i j))
theorem CI.step {w w1 : World} {B p g cap n k : Nat} {ts : Nat → Int} {ad0 ad ln cp : Nat → Nat} {f : Nat → Nat → Int} {gn cn : Nat} (h : CI w B p g cap n k ts ad0 ad ln cp f) (hk : k < n) (hr : RowNew w gn cn (ln k) (f k) w1) :
    CI (w1.setCell ⟨g, k * 2 + 1, none⟩ (.slice (some ⟨gn, 0, none⟩) (ln k) cn)) B p g cap n (k + 1) ts ad0 (fun i => if i = k then gn else ad i) ln (fun i => if i = k then cn else cp i) f := by
  obtain ⟨r1, r2, r3, r4, r5, hb⟩ := hr
  have hsz : (w1.setCell ⟨g, k * 2 + 1, none⟩ (.slice (some ⟨gn, 0, none⟩) (ln k) cn)).heap.size = w1.heap.size := by simp
  have hs1 := hb.size
  have hp := h.hp
  have hg := h.hg
  have k1 : ∀ b, b ≠ g → (w1.setCell ⟨g, k * 2 + 1, none⟩ (.slice (some ⟨gn, 0, none⟩) (ln k) cn)).heap[b]? = w1.heap[b]? := fun b hb => Below.heap_setCell w1 ⟨g, k * 2 + 1, none⟩ _ b hb
  have k2 : ∀ b, b < w.heap.size → b ≠ g → (w1.setCell ⟨g, k * 2 + 1, none⟩ (.slice (some ⟨gn, 0, none⟩) (ln k) cn)).heap[b]? = w.heap[b]? := fun b hl hne => (k1 b hne).trans (hb.block b hl)
  have hex : w1.cell? ⟨g, k * 2 + 1, none⟩ = some (.slice (some ⟨ad k, 0, none⟩) (ln k) (cp k)) := (hb.cell (p := ⟨g, k * 2 + 1, none⟩) hg.2.1).trans (h.rows k hk).2
  refine ⟨⟨hp.1, by omega⟩, ⟨hg.1, by omega, hg.2.2⟩, (m_kept (p := ⟨p, 0, none⟩) (k2 p hp.2 (fun e => hg.2.2 e.symm))).trans h.cell, h.hcap, fun i hi => ⟨?_, ?_⟩, fun j => ?_, fun i hi => ?_, h.low, fun i h1 h2 => ?_, fun i j hi hj => ?_⟩
  · rw [World.cell?_setCell_other _ _ _ _ (fun q => by injection q with _ q2; omega), hb.cell (p := ⟨g, i * 2, none⟩) hg.2.1]
    exact (h.rows i hi).1
  · by_cases e : i = k
    · subst e
      simp only [if_true]
      exact World.cell?_setCell_same _ _ _ hex
    · simp only [e, if_false]
      rw [World.cell?_setCell_other _ _ _ _ (fun q => by injection q with _ q2; omega), hb.cell (p := ⟨g, i * 2 + 1, none⟩) hg.2.1]
      exact (h.rows i hi).2
  · have : w1.frozen? ⟨g, j, none⟩ = false := (hb.frozen (p := ⟨g, j, none⟩) hg.2.1).trans (h.frz j)
    simpa [go_sem] using this
  · by_cases e : i = k
    · simp only [e, if_true]
      exact ⟨by omega, by omega, by omega, by omega⟩
    · simp only [e, if_false]
      have := h.new i (by omega)
      exact ⟨this.1, by omega, this.2.2⟩
  · have e : i ≠ k := by omega
    simp only [e, if_false]
    exact h.old i (by omega) h2
  · by_cases e : i = k
    · subst e
      simp only [if_true]
      exact (m_kept (p := ⟨gn, j, none⟩) (k1 gn (by omega))).trans (r4 j hj)
    · simp only [e, if_false]
      have hne : ad i ≠ g := by
        rcases Nat.lt_or_ge i k with hl | hl
        · exact (h.new i hl).2.2.1
        · have := h.old i hl hi
          have := h.low i hi
          omega
      have hlt : ad i < w.heap.size := World.block_lt_of_cell? w _ (h.inner i j hi hj)
      exact (m_kept (p := ⟨ad i, j, none⟩) (k2 (ad i) hlt hne)).trans (h.inner i j hi hj)
theorem RowNew.undrew {w w' : World} {g cap n : Nat} {f : Nat → Int} (h : RowNew w.drew g cap n f w') : RowNew w g cap n f w' := by
  obtain ⟨h1, h2, h3, h4, h5, b⟩ := h
  exact ⟨h1, h2, h3, h4, h5, ⟨b.os, b.tape, b.output, b.size, b.block⟩⟩
/-- A copy: another memory, apart from what was. -/
def Copied (n : Nat) (ts : Nat → Int) (ln : Nat → Nat) (f : Nat → Nat → Int) (w : World) (e : Ending) (w' : World) : Prop :=
  ∃ p g cap ad cp, e = .returned (.pointer (some ⟨p, 0, none⟩)) ∧ MV w' p g n cap ts ad ln cp f ∧ w.heap.size ≤ p ∧ w.heap.size ≤ g ∧ (∀ i, i < n → w.heap.size ≤ ad i) ∧ p < w'.heap.size ∧ g < w'.heap.size ∧ (∀ i, i < n → ad i < w'.heap.size) ∧ Below w.heap.size w w'
theorem copy_keep {w w1 : World} {B p g cap n k : Nat} {ts : Nat → Int} {ad0 ad ln cp : Nat → Nat} {f : Nat → Nat → Int} (h : CI w B p g cap n k ts ad0 ad ln cp f) (hk : k < n) (hb : Below w.heap.size w w1) :
    w1.cell? ⟨p, 0, none⟩ = some (.slice (some ⟨g, 0, none⟩) n cap) ∧ w1.cell? ⟨g, k * 2 + 1, none⟩ = some (.slice (some ⟨ad k, 0, none⟩) (ln k) (cp k)) ∧ w1.frozen? ⟨g, k * 2 + 1, none⟩ = false :=
  ⟨(hb.cell (p := ⟨p, 0, none⟩) h.hp.2).trans h.cell, (hb.cell (p := ⟨g, k * 2 + 1, none⟩) h.hg.2.1).trans (h.rows k hk).2, (hb.frozen (p := ⟨g, k * 2 + 1, none⟩) h.hg.2.1).trans (h.frz _)⟩
end Go.Proofs.Ytlhenpocaagbjaa.C

namespace Go.Proofs.Ytlhenpocaagbjaa.C
open Go.RowKit
set_option linter.unusedSimpArgs false
set_option linter.unusedVariables false
theorem MV.below {w w' : World} {p g n cap : Nat} {ts : Nat → Int} {ad ln cp : Nat → Nat} {f : Nat → Nat → Int} (hv : MV w p g n cap ts ad ln cp f) (hb : Below w.heap.size w w') : MV w' p g n cap ts ad ln cp f :=
  ⟨cell_later hb hv.cell, hv.hcap, fun i hi => ⟨cell_later hb (hv.rows i hi).1, cell_later hb (hv.rows i hi).2⟩, fun i j hi hj => cell_later hb (hv.inner i j hi hj)⟩
def BlockPost (t : Int) (l : Nat) (f : Nat → Int) (w : World) (e : Ending) (w' : World) : Prop :=
  ∃ g c, e = .returned (.tuple #[.agg #[.int .i64 t, .slice (some ⟨g, 0, none⟩) l c], .bool true]) ∧ RowNew w g c l f w'
theorem block_keep {W0 w1 : World} {b : Nat} (hb : Below W0.heap.size W0 w1) (h : b < W0.heap.size) : (∀ o, w1.cell? ⟨b, o, none⟩ = W0.cell? ⟨b, o, none⟩) ∧ ∀ o, w1.frozen? ⟨b, o, none⟩ = W0.frozen? ⟨b, o, none⟩ :=
  ⟨fun o => hb.cell (p := ⟨b, o, none⟩) h, fun o => hb.frozen (p := ⟨b, o, none⟩) h⟩
theorem RowNew.stored {w W0 w1 : World} {gn cn l b0 : Nat} {f : Nat → Int} (hrn : RowNew W0 gn cn l f w1) (hb : Below w.heap.size w W0) (hb0 : w.heap.size = b0) (hsz : b0 < W0.heap.size) (u v : Value) :
    RowNew w gn cn l f ((w1.setCell ⟨b0, 0, none⟩ u).setCell ⟨b0, 1, none⟩ v) := by
  obtain ⟨h1, h2, h3, h4, h5, h6⟩ := hrn
  have hne : gn ≠ b0 := by omega
  have k1 := (Below.heap_setCell (w1.setCell ⟨b0, 0, none⟩ u) ⟨b0, 1, none⟩ v gn hne).trans (Below.heap_setCell w1 ⟨b0, 0, none⟩ u gn hne)
  refine ⟨by omega, by simpa using h2, h3, fun j hj => (m_kept (p := ⟨gn, j, none⟩) k1).trans (h4 j hj), fun j hj => (m_frz (p := ⟨gn, j, none⟩) k1).trans (h5 j hj), ?_⟩
  exact ((hb.trans (h6.mono hb.size)).setCell (p := ⟨b0, 0, none⟩) (by show w.heap.size ≤ b0; omega) _).setCell (p := ⟨b0, 1, none⟩) (by show w.heap.size ≤ b0; omega) _
end Go.Proofs.Ytlhenpocaagbjaa.C

namespace Go.Proofs.Ytlhenpocaagbjaa.C
open Go.RowKit
set_option linter.unusedSimpArgs false
set_option linter.unusedVariables false
set_option maxHeartbeats 1600000 in
theorem set_in2 (base p n : Nat) (L : Value) (ts : Nat → Int) (ad ln cp : Nat → Nat) (f : Nat → Nat → Int) (i j : Nat) (v : Int) (w : World) (hm : MR w base p L n ts ad ln cp f) (hi : i < n) (hj : j < ln i) (hb0 : base ≤ w.heap.size) :
    Calls Try.prog 22 #[.pointer (some ⟨p, 0, none⟩), .int .i64 i, .int .i64 j, .int .i64 v] w fun e w' => e = .returned (.bool true) ∧ Below base w w' ∧ MR w' base p L n ts ad ln cp (setF f i j (wrapT (ts i) v)) ∧ ∀ b, b < w.heap.size → b ≠ ad i → w'.heap[b]? = w.heap[b]? := by
  have HA := Lib.hid (has_in base p n L ts ad ln cp f i j w hm hi hj)
  have HM := Lib.hid hm
  have HAi := Lib.hid (hm.hA i hi)
  obtain ⟨g, cap, rfl, hcap, _, _, _, _, hc⟩ := hm.row (by omega)
  have c0 := hm.cell
  obtain ⟨c1, c2⟩ := hc i hi
  clear hc hm hcap
  have hk0 : (0 : Int) ≤ (i : Int) := by omega
  have hk1 : (i : Int) < (n : Int) := by omega
  have hk2 : (0 : Int) ≤ (j : Int) := by omega
  have hk3 : (j : Int) < (ln i : Int) := by omega
  go_enter Try.func22, Try.ntmps22
  go_upto_region 3 with ((go_at_call 35; refine (HA.out).mono ?_; rintro e w' ⟨rfl, rfl⟩))
  obtain ⟨wo, rfl⟩ : ∃ wo : World, wo = w := ⟨_, rfl⟩
  have d0 := fun (x' : WIn (Below wo.heap.size wo)) => cell_later x'.h c0
  have d1 := fun (x' : WIn (Below wo.heap.size wo)) => cell_later x'.h c1
  have d2 := fun (x' : WIn (Below wo.heap.size wo)) => cell_later x'.h c2
  clear c0 c1 c2
  refine region_tail 20 (Below wo.heap.size wo) (by kernel_rfl) (by kernel_rfl) (Below.refl _ _).drew (fun inst => ?_)
  simp only [List.take_succ_cons, List.take_zero, List.drop_succ_cons, List.drop_zero]
  iterate 20 (go_big_quiet_step ((go_at_call 31; exact call_same _ (wrap_c (ts i) v _))))
  refine wpQuiet_nil ?_
  intro wd hbd
  have HD := Lib.hid (HM.out.below hbd)
  have k4 : wd.cell? ⟨ad i, j, none⟩ = some (.int .i64 (f i j)) := HD.out.inner i j hi hj
  have f4 : wd.frozen? ⟨ad i, j, none⟩ = false := HD.out.ifrz i j hi hj
  have HR : Hid (Below base wo (wd.setCell ⟨ad i, j, none⟩ (.int .i64 (wrapT (ts i) v))) ∧ MR (wd.setCell ⟨ad i, j, none⟩ (.int .i64 (wrapT (ts i) v))) base p (.slice (some ⟨g, 0, none⟩) n cap) n ts ad ln cp (setF f i j (wrapT (ts i) v)) ∧ ∀ b, b < wo.heap.size → b ≠ ad i → (wd.setCell ⟨ad i, j, none⟩ (.int .i64 (wrapT (ts i) v))).heap[b]? = wo.heap[b]?) := Lib.hid ⟨(hbd.mono hb0).setCell (p := ⟨ad i, j, none⟩) HAi.out.1 _, HD.out.set hi hj _, fun b hb hne => (Below.heap_setCell wd ⟨ad i, j, none⟩ _ b hne).trans (hbd.block b hb)⟩
  clear d0 d1 d2
  go_wp2_with fail
  go_ret
  exact ⟨rfl, HR.out⟩
theorem sizeM_in (z : Int) : ((sizeM (1 + z % 16) : Nat) : Int) = 1 + z % 16 := by rw [sizeM_eq]; omega
theorem wrapT5 (v : Int) (hv : -32768 ≤ v ∧ v ≤ 32767) : wrapT 5 v = v := by unfold wrapT; simp; omega
theorem rem_nat (a : Int) (n : Nat) (h : 1 ≤ n) : ∃ q : Nat, a % (n : Int) = q ∧ q < n := by
  have h0 := Int.emod_nonneg a (show (n : Int) ≠ 0 by omega)
  have h1 := Int.emod_lt_of_pos a (show (0 : Int) < n by omega)
  exact ⟨(a % (n : Int)).toNat, by omega, by omega⟩
theorem MV.lt {w : World} {p g n cap : Nat} {ts : Nat → Int} {ad ln cp : Nat → Nat} {f : Nat → Nat → Int} (h : MV w p g n cap ts ad ln cp f) (hn : 1 ≤ n) (hl : ∀ i, i < n → 1 ≤ ln i) : p < w.heap.size ∧ g < w.heap.size ∧ ∀ i, i < n → ad i < w.heap.size :=
  ⟨World.block_lt_of_cell? w _ h.cell, World.block_lt_of_cell? w _ (h.rows 0 (by omega)).1, fun i hi => World.block_lt_of_cell? w _ (h.inner i 0 hi (by have := hl i hi; omega))⟩
end Go.Proofs.Ytlhenpocaagbjaa.C

namespace Go.Proofs.Ytlhenpocaagbjaa.C
open Go.RowKit
set_option linter.unusedSimpArgs false
set_option linter.unusedVariables false
theorem own_mono {w : World} {base base' : Nat} {e : TypeId} {size : Nat} {v : Value} {n : Nat} {xs : List Value} (h : w.ownsRow base e size v n xs) (hb : base' ≤ base) : w.ownsRow base' e size v n xs := by
  obtain ⟨h1, h2⟩ := h
  refine ⟨h1, ?_⟩
  rcases h2 with h2 | ⟨g, cap, cur, h3, hg, r⟩
  · exact .inl h2
  · exact .inr ⟨g, cap, cur, h3, Nat.le_trans hb hg, r⟩
/-- A row of n blocks: of the call's own, whole; or cut, without room. -/
def St (w : World) (base : Nat) (L : Value) (n : Nat) (xs : List Value) : Prop :=
  w.ownsRow base 89 2 L n xs ∨ ∃ g, L = .slice (some ⟨g, 0, none⟩) n n ∧ base ≤ g ∧ g < w.heap.size ∧ xs.length = n * 2 ∧ (∀ j u, xs[j]? = some u → w.cell? ⟨g, j, none⟩ = some u)
theorem St.len {w : World} {base : Nat} {L : Value} {n : Nat} {xs : List Value} (h : St w base L n xs) : xs.length = n * 2 := by
  rcases h with h | ⟨g, _, _, _, h, _⟩
  · exact h.1
  · exact h
theorem St.blk {w : World} {base : Nat} {L : Value} {n : Nat} {xs : List Value} (h : St w base L n xs) (k : Nat) (hk : L.ownBlock = some k) : base ≤ k ∧ k < w.heap.size := by
  rcases h with h | ⟨g, rfl, h1, h2, _⟩
  · exact own_blk h k hk
  · have : g = k := by simpa [Value.ownBlock] using hk
    subst this
    exact ⟨h1, h2⟩
theorem St.form {w : World} {base : Nat} {L : Value} {n : Nat} {xs : List Value} (h : St w base L n xs) : ∃ ao cap, L = .slice ao n cap ∧ n ≤ cap ∧ (1 ≤ n → ∃ g, ao = some ⟨g, 0, none⟩) := by
  rcases h with h | ⟨g, rfl, _⟩
  · rcases h.2 with ⟨rfl, h0⟩ | ⟨g, cap, cur, rfl, _, _, h2, _⟩
    · exact ⟨none, 0, by rw [h0], by omega, fun hn => absurd hn (by omega)⟩
    · exact ⟨_, cap, rfl, h2, fun _ => ⟨g, rfl⟩⟩
  · exact ⟨_, n, rfl, Nat.le_refl _, fun _ => ⟨g, rfl⟩⟩
theorem St.cells {w : World} {base : Nat} {g n cap : Nat} {xs : List Value} (h : St w base (.slice (some ⟨g, 0, none⟩) n cap) n xs) (j : Nat) (u : Value) (hj : xs[j]? = some u) : w.cell? ⟨g, j, none⟩ = some u := by
  rcases h with h | ⟨g', e, _, _, _, h⟩
  · have := h.cells (g := g) rfl j u hj
    rwa [m_plain] at this
  · simp at e
    rw [e.1]
    exact h j u hj
theorem St.keep {w w' : World} {base : Nat} {L : Value} {n : Nat} {xs : List Value} (h : St w base L n xs) (hs : w.heap.size ≤ w'.heap.size) (hk : ∀ b, L.ownBlock = some b → w'.heap[b]? = w.heap[b]?) : St w' base L n xs := by
  rcases h with ⟨h1, h2⟩ | ⟨g, rfl, h1, h2, h3, h4⟩
  · refine .inl ⟨h1, ?_⟩
    rcases h2 with h2 | ⟨g, cap, cur, rfl, hg, hh, r⟩
    · exact .inl h2
    · exact .inr ⟨g, cap, cur, rfl, hg, (hk g rfl).trans hh, r⟩
  · exact .inr ⟨g, rfl, h1, by omega, h3, fun j u hj => (m_kept (p := ⟨g, j, none⟩) (hk g rfl)).trans (h4 j u hj)⟩
section
variable {P : Program}
theorem run_append_st (w : World) (t ty : TypeId) (base : Nat) (i : TypeInfo) (z : Value) (bytes : Nat) (ht : P.underlying t = some (.slice 89)) (hi : P.info? 89 = some i) (hz : i.zero = some z)
    (hsize : i.size = 2) (hby : i.bytes = bytes) (hzs : z.cells.size = 2)
    (v : Value) (n : Nat) (xs : List Value) (hown : St w base v n xs)
    (ad : Addr) (c : Nat) (news : List Value) (hl : news.length = 1 * 2) (hnews : ∀ j u, news[j]? = some u → w.cell? (ad.add j) = some u) (h1 : ∀ u ∈ news, u.oneCell' = true)
    (h63 : n + 1 ≤ maxLen) (hbytes : (n + 1) * bytes ≤ 140737488355328) (hbase : base ≤ w.heap.size) :
    ∃ g cap w', (Builtin.append_ #[t, t] ty #[v, .slice (some ad) 1 c]).run P w = .ok (.slice (some ⟨g, 0, none⟩) (n + 1) cap) w' ∧
      w'.ownsRow base 89 2 (.slice (some ⟨g, 0, none⟩) (n + 1) cap) (n + 1) (xs ++ news) ∧ w.grownBy w' v.ownBlock ∧ (v.ownBlock = some g ∨ w.heap.size ≤ g) ∧ g < w'.heap.size := by
  rcases hown with hown | ⟨g, rfl, hg1, hg2, hg3, hg4⟩
  · obtain ⟨g, cap, w', hr, r1, r2, r3, r4⟩ := run_append_lies (P := P) w t ty base 89 i z 2 bytes ht hi hz hsize hby hzs (by omega) v n xs hown ad 1 c news hl hnews h1 (by omega) h63 hbytes hbase w.heap.size rfl
    exact ⟨g, cap, w', hr, r1, r2, r3.imp id (fun e => by omega), r4⟩
  · obtain ⟨v', w', hr, r1, r2⟩ := run_append_arg_grows (P := P) w t ty 89 i z 2 bytes ht hi hz hsize hby hzs (by omega) ⟨g, 0, none⟩ n n xs hg3 (fun j u hj => by rw [m_plain]; exact hg4 j u hj) ad 1 c news hl hnews (by omega) h63 hbytes
    obtain ⟨g', cap', rfl, k1, k2⟩ := r1.form (by omega)
    exact ⟨g', cap', w', hr, own_mono r1 hbase, ⟨r2.os, r2.tape, r2.output, r2.size, fun k hk _ => r2.block k hk (by simp)⟩, .inr k1, k2⟩
theorem step_append_st (w : World) {ops : Array Oper} {o : Oper} {a : Act} {K : Act → World → Prop} {Q : Exit → Act → World → Prop} {E : Prop} (hgd : o.guard = none) (s x : Operand) (t : TypeId)
    (ho : o.op = .call { callee := .builtin .append, args := #[s, x], argTypes := #[t, t] })
    (base : Nat) (i : TypeInfo) (z : Value) (bytes : Nat) (ht : P.underlying t = some (.slice 89)) (hi : P.info? 89 = some i) (hz : i.zero = some z)
    (hsize : i.size = 2) (hby : i.bytes = bytes) (hzs : z.cells.size = 2)
    (v : Value) (n : Nat) (xs : List Value) (hs : a.eval s = v) (hown : St w base v n xs)
    (ad : Addr) (c : Nat) (news : List Value) (hx : a.eval x = .slice (some ad) 1 c) (hl : news.length = 1 * 2) (hnews : ∀ j u, news[j]? = some u → w.cell? (ad.add j) = some u) (h1 : ∀ u ∈ news, u.oneCell' = true)
    (h63 : n + 1 ≤ maxLen) (hbytes : (n + 1) * bytes ≤ 140737488355328) (hbase : base ≤ w.heap.size)
    (h : ∀ g cap w', w'.ownsRow base 89 2 (.slice (some ⟨g, 0, none⟩) (n + 1) cap) (n + 1) (xs ++ news) → w.grownBy w' v.ownBlock → (v.ownBlock = some g ∨ w.heap.size ≤ g) → g < w'.heap.size → K (a.put o.dst (.slice (some ⟨g, 0, none⟩) (n + 1) cap)) w') :
    if Region.wanted o (yielded ops a.tmps) = true then Oper.wp P o a w K Q else E := by
  have hw : Region.wanted o (yielded ops a.tmps) = true := by simp [Region.wanted, hgd]
  rw [if_pos hw]
  obtain ⟨g, cap, w', hr, h2, h3, h4, h5⟩ := run_append_st (P := P) w t o.type base i z bytes ht hi hz hsize hby hzs v n xs hown ad c news hl hnews h1 h63 hbytes hbase
  unfold Oper.wp execOp
  simp only [ho, resolve, invoke, builtin, Sem.run_bind, Sem.run_pure, Result.andThen_ok, List.map_toArray, List.map_cons, List.map_nil, hs, hx, hr]
  exact h g cap w' h2 h3 h4 h5
end
/-- A memory at block p, in any state. -/
structure MS (w : World) (base p : Nat) (L : Value) (n : Nat) (ts : Nat → Int) (ad ln cp : Nat → Nat) (f : Nat → Nat → Int) : Prop where
  hp : base ≤ p ∧ p < w.heap.size
  cell : w.cell? ⟨p, 0, none⟩ = some L
  frz : w.frozen? ⟨p, 0, none⟩ = false
  own : St w base L n (xsM ts ad ln cp n)
  hL : L.ownBlock ≠ some p
  hA : ∀ i, i < n → base ≤ ad i ∧ ad i < w.heap.size ∧ ad i ≠ p ∧ L.ownBlock ≠ some (ad i) ∧ 1 ≤ ln i ∧ ln i ≤ 16 ∧ ln i ≤ cp i
  inj : ∀ i j, i < n → j < n → ad i = ad j → i = j
  inner : ∀ i j, i < n → j < ln i → w.cell? ⟨ad i, j, none⟩ = some (.int .i64 (f i j))
  ifrz : ∀ i j, i < n → j < ln i → w.frozen? ⟨ad i, j, none⟩ = false
theorem MR.ms {w : World} {base p n : Nat} {L : Value} {ts : Nat → Int} {ad ln cp : Nat → Nat} {f : Nat → Nat → Int} (h : MR w base p L n ts ad ln cp f) : MS w base p L n ts ad ln cp f :=
  ⟨h.hp, h.cell, h.frz, .inl h.own, h.hL, h.hA, h.inj, h.inner, h.ifrz⟩
/-- .. and another block; what was neither the memory's slice nor its own cell is as it was. -/
def AddedS (w : World) (base p n : Nat) (L : Value) (ts : Nat → Int) (ad ln cp : Nat → Nat) (f : Nat → Nat → Int) (t s : Int) (e : Ending) (w' : World) : Prop :=
  e = .returned (.int .i64 n) ∧ ∃ g cap a, w.heap.size ≤ a ∧ (Below base w w' ∧ (∀ b, b < w.heap.size → b ≠ p → L.ownBlock ≠ some b → w'.heap[b]? = w.heap[b]?) ∧ (L.ownBlock = some g ∨ w.heap.size ≤ g)) ∧ MR w' base p (.slice (some ⟨g, 0, none⟩) (n + 1) cap) (n + 1) (addT n ts t) (addN n ad a) (addN n ln (sizeM s)) (addN n cp (sizeM s)) (addF n f fun _ => 0)
theorem MS.added {w w1 : World} {base p n : Nat} {L : Value} {ts : Nat → Int} {ad ln cp : Nat → Nat} {f : Nat → Nat → Int} {t : Int} {k g cap : Nat} (hm : MS w base p L n ts ad ln cp f) (hb0 : base ≤ w.heap.size) (hk1 : 1 ≤ k) (hk2 : k ≤ 16)
    (hown : w1.ownsRow base 89 2 (.slice (some ⟨g, 0, none⟩) (n + 1) cap) (n + 1) (xsM ts ad ln cp n ++ [.int .i64 t, .slice (some ⟨w.heap.size, 0, none⟩) k k])) (hgrow : (addW w t k).grownBy w1 L.ownBlock) (hat : L.ownBlock = some g ∨ w.heap.size + 1 + 1 ≤ g) :
    (Below base w (w1.setCell ⟨p, 0, none⟩ (.slice (some ⟨g, 0, none⟩) (n + 1) cap)) ∧ (∀ b, b < w.heap.size → b ≠ p → L.ownBlock ≠ some b → (w1.setCell ⟨p, 0, none⟩ (.slice (some ⟨g, 0, none⟩) (n + 1) cap)).heap[b]? = w.heap[b]?) ∧ (L.ownBlock = some g ∨ w.heap.size ≤ g)) ∧
    MR (w1.setCell ⟨p, 0, none⟩ (.slice (some ⟨g, 0, none⟩) (n + 1) cap)) base p (.slice (some ⟨g, 0, none⟩) (n + 1) cap) (n + 1) (addT n ts t) (addN n ad w.heap.size) (addN n ln k) (addN n cp k) (addF n f fun _ => 0) := by
  have hbW : Below w.heap.size w (addW w t k) := by unfold addW; exact (by repeat' (first | exact Below.refl _ _ | (refine Below.alloc ?_ ?_ _) | (refine Below.setCell ?_ ?_ _) | (refine Below.drew ?_) | (refine below_next ?_ ?_ (by assumption)) | omega | (simp; done) | (simp; omega)))
  have hzW : (addW w t k).heap.size = w.heap.size + 1 + 1 := by unfold addW; simp
  have hw1 := hgrow.size
  have hpw := hm.hp.2
  have hgp : g ≠ p := by
    rcases hat with h | h
    · intro e; exact hm.hL (by rw [h, e])
    · omega
  have hgb : g ≠ w.heap.size := by
    rcases hat with h | h
    · have := (hm.own.blk g h).2; omega
    · omega
  have keep : ∀ b, b < w.heap.size + 1 + 1 → L.ownBlock ≠ some b → w1.heap[b]? = (addW w t k).heap[b]? := fun b hb hne => hgrow.block b (by omega) (fun e => hne e.symm)
  have keep0 : ∀ b, b < w.heap.size → L.ownBlock ≠ some b → w1.heap[b]? = w.heap[b]? := fun b hb hne => (keep b (by omega) hne).trans (hbW.block b hb)
  have hLw : L.ownBlock ≠ some w.heap.size := fun e => by have := (hm.own.blk _ e).2; omega
  have hset : ∀ b, b ≠ p → (w1.setCell ⟨p, 0, none⟩ (.slice (some ⟨g, 0, none⟩) (n + 1) cap)).heap[b]? = w1.heap[b]? := fun b hb => Below.heap_setCell w1 ⟨p, 0, none⟩ _ b hb
  have hsz : (w1.setCell ⟨p, 0, none⟩ (.slice (some ⟨g, 0, none⟩) (n + 1) cap)).heap.size = w1.heap.size := by simp
  have hc1 : w1.cell? ⟨p, 0, none⟩ = some L := (m_kept (p := ⟨p, 0, none⟩) (keep0 p hpw hm.hL)).trans hm.cell
  have hf1 : w1.frozen? ⟨p, 0, none⟩ = false := (m_frz (p := ⟨p, 0, none⟩) (keep0 p hpw hm.hL)).trans hm.frz
  refine ⟨⟨((hbW.mono hb0).grown hgrow (by omega) (fun q hq => (hm.own.blk q hq).1)).setCell (p := ⟨p, 0, none⟩) hm.hp.1 _, fun b hb h1 h2 => (hset b h1).trans (keep0 b hb h2), hat.imp id (fun e => by omega)⟩, ⟨hm.hp.1, by omega⟩, World.cell?_setCell_same _ _ _ hc1, by simpa [go_sem] using hf1, ?_, ?_, fun i hi => ?_, fun i j hi hj e => ?_, fun i j hi hj => ?_, fun i j hi hj => ?_⟩
  · have e : xsM (addT n ts t) (addN n ad w.heap.size) (addN n ln k) (addN n cp k) (n + 1) = xsM ts ad ln cp n ++ [.int .i64 t, .slice (some ⟨w.heap.size, 0, none⟩) k k] := by
      rw [xsM, xsM_congr (ts' := ts) (ad' := ad) (ln' := ln) (cp' := cp) n (fun i hi => by simp [addT, addN, Nat.ne_of_lt hi])]
      simp [addT, addN]
    rw [e]
    obtain ⟨h1, h2⟩ := hown
    refine ⟨h1, ?_⟩
    rcases h2 with h2 | ⟨g', cap', cur, h3, hg, hh, r⟩
    · simp at h2
    · have eg : g = g' := by simp at h3; exact h3.1
      subst eg
      exact .inr ⟨g, cap', cur, h3, hg, (hset g hgp).trans hh, r⟩
  · intro e; simp [Value.ownBlock] at e; exact hgp e
  · by_cases e : i = n
    · simp only [addN, e, if_true]
      exact ⟨hb0, by omega, by omega, fun q => hgb (by simpa [Value.ownBlock] using q), hk1, hk2, Nat.le_refl _⟩
    · simp only [addN, e, if_false]
      obtain ⟨h1, h2, h3, h4, h5⟩ := hm.hA i (by omega)
      refine ⟨h1, by omega, h3, fun q => ?_, h5⟩
      have q2 : g = ad i := by simpa [Value.ownBlock] using q
      rcases hat with h | h
      · exact h4 (by rw [h, q2])
      · omega
  · by_cases e1 : i = n
    · by_cases e2 : j = n
      · omega
      · simp only [addN, e1, e2, if_true, if_false] at e
        have := (hm.hA j (by omega)).2.1; omega
    · by_cases e2 : j = n
      · simp only [addN, e1, e2, if_true, if_false] at e
        have := (hm.hA i (by omega)).2.1; omega
      · simp only [addN, e1, e2, if_false] at e
        exact hm.inj i j (by omega) (by omega) e
  · by_cases e : i = n
    · subst e
      simp only [addN, addF, if_true] at hj ⊢
      rw [m_kept (w := w1) (p := ⟨w.heap.size, j, none⟩) (hset w.heap.size (by omega)), m_kept (w := addW w t k) (p := ⟨w.heap.size, j, none⟩) (keep w.heap.size (by omega) hLw)]
      exact (addW_new w t k).1 j hj
    · simp only [addN, addF, e, if_false] at hj ⊢
      have hA := hm.hA i (by omega)
      rw [m_kept (w := w1) (p := ⟨ad i, j, none⟩) (hset _ hA.2.2.1), m_kept (w := w) (p := ⟨ad i, j, none⟩) (keep0 _ hA.2.1 hA.2.2.2.1)]
      exact hm.inner i j (by omega) hj
  · by_cases e : i = n
    · subst e
      simp only [addN, if_true] at hj ⊢
      rw [m_frz (w := w1) (p := ⟨w.heap.size, j, none⟩) (hset w.heap.size (by omega)), m_frz (w := addW w t k) (p := ⟨w.heap.size, j, none⟩) (keep w.heap.size (by omega) hLw)]
      exact (addW_new w t k).2 j
    · simp only [addN, e, if_false] at hj ⊢
      have hA := hm.hA i (by omega)
      rw [m_frz (w := w1) (p := ⟨ad i, j, none⟩) (hset _ hA.2.2.1), m_frz (w := w) (p := ⟨ad i, j, none⟩) (keep0 _ hA.2.1 hA.2.2.2.1)]
      exact hm.ifrz i j (by omega) hj
set_option maxHeartbeats 1600000 in
theorem add_s (base p n : Nat) (L : Value) (ts : Nat → Int) (ad ln cp : Nat → Nat) (f : Nat → Nat → Int) (t s : Int) (w : World) (hm : MS w base p L n ts ad ln cp f) (hn : n ≤ 100000) (hb0 : base ≤ w.heap.size) :
    Calls Try.prog 20 #[.pointer (some ⟨p, 0, none⟩), .int .i64 t, .int .i64 s] w (AddedS w base p n L ts ad ln cp f t s) := by
  obtain ⟨i0, hi, hz⟩ := Option.map_eq_some_iff.1 infoB
  simp only [Prod.mk.injEq] at hz
  have HI := Lib.hid (And.intro hi hz)
  clear hi hz
  have HM := Lib.hid hm
  have HL := Lib.hid hm.hL
  have c0 := hm.cell
  have f0 := hm.frz
  have hp2 := hm.hp.2
  clear hm
  have hmk := fun (kl kc : IntKind) (w : World) => run_make_row' (P := Try.prog) 22 3 (.int .i64 0) 8 Try.underlying22 infoM rfl kl kc (sizeM s) (by have := sizeM_bd s; omega) (by have := sizeM_bd s; omega) w
  go_enter Try.func20, Try.ntmps20
  go_upto_region 3 with fail
  have hs1 : (if 1 < (if 16 < s then 16 else s) then (if 16 < s then 16 else s) else 1) = ((sizeM s : Nat) : Int) := by
    rw [sizeM_eq]; split <;> split <;> omega
  have hbW : Below w.heap.size w (addW w t (sizeM s)) := by unfold addW; exact (by repeat' (first | exact Below.refl _ _ | (refine Below.alloc ?_ ?_ _) | (refine Below.setCell ?_ ?_ _) | (refine Below.drew ?_) | (refine below_next ?_ ?_ (by assumption)) | omega | (simp; done) | (simp; omega)))
  have hnW := addW_news w t (sizeM s)
  have hzW : (addW w t (sizeM s)).heap.size = w.heap.size + 1 + 1 := by unfold addW; simp
  have HbW := Lib.hid hbW
  have HnW := Lib.hid hnW
  have HzW := Lib.hid hzW
  clear hbW hnW hzW
  have ne1 : (w.heap.size == p) = false := by simp; omega
  have ne2 : (w.heap.size + 1 == p) = false := by simp; omega
  go_region_law (first | (refine step_append_st (addW w t (sizeM s)) (by rfl) (.tmp 13) (.tmp 20) 60 (by rfl) base i0 (.agg #[.int .i64 0, .slice none 0 0]) 32 Try.underlying60 HI.out.1 HI.out.2.1 HI.out.2.2.1 HI.out.2.2.2 rfl L n _ (by rfl) (HM.out.own.keep (by have := HzW.out; omega) (fun b hb => HbW.out.block b (HM.out.own.blk b hb).2)) ⟨w.heap.size + 1, 0, none⟩ 1 [.int .i64 t, .slice (some ⟨w.heap.size, 0, none⟩) (sizeM s) (sizeM s)] (by rfl) rfl HnW.out (by simp [Value.oneCell']) (by unfold maxLen; omega) (by omega) (by have := HzW.out; omega) ?_; intro g cap w1 hown hgrow hat0 hlt; have hat : L.ownBlock = some g ∨ w.heap.size + 1 + 1 ≤ g := (by rw [← HzW.out]; exact hat0); clear hat0; have hc1 : w1.cell? ⟨p, 0, none⟩ = some L := (hgrow.cell_far ⟨p, 0, none⟩ (by have := HzW.out; show p < _; omega) (fun e => HL.out e.symm)).trans ((HbW.out.cell (p := ⟨p, 0, none⟩) hp2).trans c0); have hf1 : w1.frozen? ⟨p, 0, none⟩ = false := (hgrow.frozen_far ⟨p, 0, none⟩ (by have := HzW.out; show p < _; omega) (fun e => HL.out e.symm)).trans ((HbW.out.frozen (p := ⟨p, 0, none⟩) hp2).trans f0)))
  all_goals have hw : (w1.setCell ⟨p, 0, none⟩ (Value.slice (some ⟨g, 0, none⟩) (n + 1) cap)).cell? ⟨p, 0, none⟩ = some (.slice (some ⟨g, 0, none⟩) (n + 1) cap) := World.cell?_setCell_same _ _ _ hc1
  all_goals have hsl := sizeM_bd s
  all_goals have HA := Lib.hid (HM.out.added hb0 hsl.1 hsl.2 hown hgrow hat)
  all_goals clear hown hgrow hat hlt hsl
  all_goals refine at_normal (fun W => W.cell? ⟨p, 0, none⟩ = some (.slice (some ⟨g, 0, none⟩) (n + 1) cap) ∧ Hid ((Below base w W ∧ (∀ b, b < w.heap.size → b ≠ p → L.ownBlock ≠ some b → W.heap[b]? = w.heap[b]?) ∧ (L.ownBlock = some g ∨ w.heap.size ≤ g)) ∧ MR W base p (.slice (some ⟨g, 0, none⟩) (n + 1) cap) (n + 1) (addT n ts t) (addN n ad w.heap.size) (addN n ln (sizeM s)) (addN n cp (sizeM s)) (addF n f fun _ => 0))) ⟨hw, HA⟩ ?_
  all_goals clear hw HA hc1 hf1
  all_goals intro W ⟨hw, HA⟩
  all_goals go_wp2_with fail
  all_goals go_ret
  all_goals exact ⟨ret_i64 (by go_num), _, _, w.heap.size, Nat.le_refl _, HA.out.1, HA.out.2⟩
set_option maxHeartbeats 1600000 in
theorem radd_s (base p n : Nat) (L : Value) (ts : Nat → Int) (ad ln cp : Nat → Nat) (f : Nat → Nat → Int) (t s : Int) (w : World) (hm : MS w base p L n ts ad ln cp f) (hn : n ≤ 100000) (hb0 : base ≤ w.heap.size) :
    Calls Try.prog 21 #[.pointer (some ⟨p, 0, none⟩), .int .i64 t, .int .i64 s] w (AddedS w base p n L ts ad ln cp f t s) := by
  obtain ⟨i0, hi, hz⟩ := Option.map_eq_some_iff.1 infoB
  simp only [Prod.mk.injEq] at hz
  have HI := Lib.hid (And.intro hi hz)
  clear hi hz
  have HM := Lib.hid hm
  have HL := Lib.hid hm.hL
  have c0 := hm.cell
  have f0 := hm.frz
  have hp2 := hm.hp.2
  clear hm
  have hmk := fun (kl kc : IntKind) (w : World) => run_make_row' (P := Try.prog) 22 3 (.int .i64 0) 8 Try.underlying22 infoM rfl kl kc (sizeM s) (by have := sizeM_bd s; omega) (by have := sizeM_bd s; omega) w
  go_enter Try.func21, Try.ntmps21
  go_upto_region 1 with fail
  have hs1 : (if 1 < (if 16 < s then 16 else s) then (if 16 < s then 16 else s) else 1) = ((sizeM s : Nat) : Int) := by
    rw [sizeM_eq]; split <;> split <;> omega
  have hbW : Below w.heap.size w (addW w t (sizeM s)) := by unfold addW; exact (by repeat' (first | exact Below.refl _ _ | (refine Below.alloc ?_ ?_ _) | (refine Below.setCell ?_ ?_ _) | (refine Below.drew ?_) | (refine below_next ?_ ?_ (by assumption)) | omega | (simp; done) | (simp; omega)))
  have hnW := addW_news w t (sizeM s)
  have hzW : (addW w t (sizeM s)).heap.size = w.heap.size + 1 + 1 := by unfold addW; simp
  have HbW := Lib.hid hbW
  have HnW := Lib.hid hnW
  have HzW := Lib.hid hzW
  clear hbW hnW hzW
  have ne1 : (w.heap.size == p) = false := by simp; omega
  have ne2 : (w.heap.size + 1 == p) = false := by simp; omega
  go_region_law (first | (refine step_append_st (addW w t (sizeM s)) (by rfl) (.tmp 11) (.tmp 18) 60 (by rfl) base i0 (.agg #[.int .i64 0, .slice none 0 0]) 32 Try.underlying60 HI.out.1 HI.out.2.1 HI.out.2.2.1 HI.out.2.2.2 rfl L n _ (by rfl) (HM.out.own.keep (by have := HzW.out; omega) (fun b hb => HbW.out.block b (HM.out.own.blk b hb).2)) ⟨w.heap.size + 1, 0, none⟩ 1 [.int .i64 t, .slice (some ⟨w.heap.size, 0, none⟩) (sizeM s) (sizeM s)] (by rfl) rfl HnW.out (by simp [Value.oneCell']) (by unfold maxLen; omega) (by omega) (by have := HzW.out; omega) ?_; intro g cap w1 hown hgrow hat0 hlt; have hat : L.ownBlock = some g ∨ w.heap.size + 1 + 1 ≤ g := (by rw [← HzW.out]; exact hat0); clear hat0; have hc1 : w1.cell? ⟨p, 0, none⟩ = some L := (hgrow.cell_far ⟨p, 0, none⟩ (by have := HzW.out; show p < _; omega) (fun e => HL.out e.symm)).trans ((HbW.out.cell (p := ⟨p, 0, none⟩) hp2).trans c0); have hf1 : w1.frozen? ⟨p, 0, none⟩ = false := (hgrow.frozen_far ⟨p, 0, none⟩ (by have := HzW.out; show p < _; omega) (fun e => HL.out e.symm)).trans ((HbW.out.frozen (p := ⟨p, 0, none⟩) hp2).trans f0)))
  all_goals have hw : (w1.setCell ⟨p, 0, none⟩ (Value.slice (some ⟨g, 0, none⟩) (n + 1) cap)).cell? ⟨p, 0, none⟩ = some (.slice (some ⟨g, 0, none⟩) (n + 1) cap) := World.cell?_setCell_same _ _ _ hc1
  all_goals have hsl := sizeM_bd s
  all_goals have HA := Lib.hid (HM.out.added hb0 hsl.1 hsl.2 hown hgrow hat)
  all_goals clear hown hgrow hat hlt hsl
  all_goals refine at_normal (fun W => W.cell? ⟨p, 0, none⟩ = some (.slice (some ⟨g, 0, none⟩) (n + 1) cap) ∧ Hid ((Below base w W ∧ (∀ b, b < w.heap.size → b ≠ p → L.ownBlock ≠ some b → W.heap[b]? = w.heap[b]?) ∧ (L.ownBlock = some g ∨ w.heap.size ≤ g)) ∧ MR W base p (.slice (some ⟨g, 0, none⟩) (n + 1) cap) (n + 1) (addT n ts t) (addN n ad w.heap.size) (addN n ln (sizeM s)) (addN n cp (sizeM s)) (addF n f fun _ => 0))) ⟨hw, HA⟩ ?_
  all_goals clear hw HA hc1 hf1
  all_goals intro W ⟨hw, HA⟩
  all_goals go_wp2_with fail
  all_goals go_ret
  all_goals exact ⟨ret_i64 (by go_num), _, _, w.heap.size, Nat.le_refl _, HA.out.1, HA.out.2⟩
end Go.Proofs.Ytlhenpocaagbjaa.C

namespace Go.Proofs.Ytlhenpocaagbjaa.C
open Go.RowKit
set_option linter.unusedSimpArgs false
set_option linter.unusedVariables false
theorem MS.view {w : World} {base p n : Nat} {L : Value} {ts : Nat → Int} {ad ln cp : Nat → Nat} {f : Nat → Nat → Int} (hm : MS w base p L n ts ad ln cp f) (hn : 1 ≤ n) : ∃ g cap, L = .slice (some ⟨g, 0, none⟩) n cap ∧ MV w p g n cap ts ad ln cp f ∧ base ≤ g ∧ g < w.heap.size ∧ g ≠ p ∧ (∀ i, i < n → ad i ≠ g) := by
  obtain ⟨ao, cap, hL, hcap, hs⟩ := hm.own.form
  obtain ⟨g, rfl⟩ := hs hn
  subst hL
  have hb := hm.own.blk g rfl
  refine ⟨g, cap, rfl, ⟨hm.cell, hcap, fun i hi => ?_, hm.inner⟩, hb.1, hb.2, fun e => hm.hL (by rw [e]; rfl), fun i hi e => (hm.hA i hi).2.2.2.1 (by rw [e]; rfl)⟩
  obtain ⟨x1, x2⟩ := xsM_at ts ad ln cp n i hi
  exact ⟨hm.own.cells _ _ x1, hm.own.cells _ _ x2⟩
theorem MS.zero {w : World} {base p : Nat} {L : Value} {ts : Nat → Int} {ad ln cp : Nat → Nat} {f : Nat → Nat → Int} (hm : MS w base p L 0 ts ad ln cp f) : ∃ ao cap, w.cell? ⟨p, 0, none⟩ = some (.slice ao 0 cap) := by
  obtain ⟨ao, cap, hL, _⟩ := hm.own.form
  exact ⟨ao, cap, by rw [← hL]; exact hm.cell⟩
theorem hasM_zero (ln : Nat → Nat) (id at' : Int) : hasM 0 ln id at' = false := decide_eq_false (fun q => by have := q.1; have := q.2.1; omega)
theorem has_s (base p n : Nat) (L : Value) (ts : Nat → Int) (ad ln cp : Nat → Nat) (f : Nat → Nat → Int) (id at' : Int) (w : World) (hm : MS w base p L n ts ad ln cp f) :
    Calls Try.prog 35 #[.pointer (some ⟨p, 0, none⟩), .int .i64 id, .int .i64 at'] w fun e w' => e = .returned (.bool (hasM n ln id at')) ∧ w = w' := by
  by_cases hn : n = 0
  · subst hn
    obtain ⟨ao, cap, c0⟩ := hm.zero
    rw [hasM_zero]
    clear hm
    by_cases h1 : 0 ≤ id
    · obtain ⟨i, rfl⟩ := Int.eq_ofNat_of_zero_le h1
      have g1 : decide ((i : Int) < 0) = false := decide_eq_false (by omega)
      go_enter Try.func35, Try.ntmps35
      go_wp2_with fail
      go_ret
      exact ⟨rfl, rfl⟩
    · have g3 : decide (0 ≤ id) = false := decide_eq_false h1
      have g4 : id < 0 := by omega
      go_enter Try.func35, Try.ntmps35
      go_wp2_with fail
      go_ret
      exact ⟨rfl, rfl⟩
  · obtain ⟨g, cap, _, hv, _⟩ := hm.view (by omega)
    exact has_c p g n cap ts ad ln cp f id at' w hv
/-- What a Get tells. -/
def getM (n : Nat) (ln : Nat → Nat) (f : Nat → Nat → Int) (id at' : Int) : Value := if hasM n ln id at' = true then .tuple #[.int .i64 (f id.toNat at'.toNat), .bool true] else .tuple #[.int .i64 0, .bool false]
theorem hasM_nat {n : Nat} {ln : Nat → Nat} {id at' : Int} (h : hasM n ln id at' = true) : ∃ i j : Nat, id = i ∧ at' = j ∧ i < n ∧ j < ln i := by
  have q := of_decide_eq_true h
  obtain ⟨i, rfl⟩ := Int.eq_ofNat_of_zero_le q.1
  obtain ⟨j, rfl⟩ := Int.eq_ofNat_of_zero_le q.2.2.1
  exact ⟨i, j, rfl, rfl, by have := q.2.1; omega, by have := q.2.2.2; simpa using this⟩
theorem get_s (base p n : Nat) (L : Value) (ts : Nat → Int) (ad ln cp : Nat → Nat) (f : Nat → Nat → Int) (id at' : Int) (w : World) (hm : MS w base p L n ts ad ln cp f) :
    Calls Try.prog 59 #[.pointer (some ⟨p, 0, none⟩), .int .i64 id, .int .i64 at'] w fun e w' => e = .returned (getM n ln f id at') ∧ w = w' := by
  by_cases h : hasM n ln id at' = true
  · have e0 : getM n ln f id at' = .tuple #[.int .i64 (f id.toNat at'.toNat), .bool true] := if_pos h
    rw [e0]
    obtain ⟨i, j, rfl, rfl, hi, hj⟩ := hasM_nat h
    obtain ⟨g, cap, _, hv, _⟩ := hm.view (by omega)
    exact get_v p g n cap ts ad ln cp f i j w hv hi hj
  · have e0 : getM n ln f id at' = .tuple #[.int .i64 0, .bool false] := if_neg h
    rw [e0]
    have HA := has_s base p n L ts ad ln cp f id at' w hm
    rw [Bool.eq_false_iff.2 h] at HA
    have HA := Lib.hid HA
    clear h e0 hm
    go_enter Try.func59, Try.ntmps59
    go_wp2_with ((go_at_call 35; refine (HA.out).mono ?_; rintro e w' ⟨rfl, rfl⟩))
    exact bodyPost_ret (v := .tuple #[.int .i64 0, .bool false]) (by simp [results, Try.results59, go_sem, *]) rfl ⟨rfl, rfl⟩
set_option maxHeartbeats 1600000 in
theorem rget_s (base p n : Nat) (L : Value) (ts : Nat → Int) (ad ln cp : Nat → Nat) (f : Nat → Nat → Int) (id at' : Int) (w : World) (hm : MS w base p L n ts ad ln cp f) :
    Calls Try.prog 36 #[.pointer (some ⟨p, 0, none⟩), .int .i64 id, .int .i64 at'] w fun e w' => e = .returned (getM n ln f id at') ∧ w = w' := by
  by_cases h1 : 0 ≤ id
  · obtain ⟨i, rfl⟩ := Int.eq_ofNat_of_zero_le h1
    have k0 : decide ((i : Int) < 0) = false := decide_eq_false (by omega)
    by_cases h2 : i < n
    · obtain ⟨g, cap, _, hv, _⟩ := hm.view (by omega)
      have c0 := hv.cell
      obtain ⟨c1, c2⟩ := hv.rows i h2
      have g1 : decide (n ≤ i) = false := decide_eq_false (by omega)
      have hk0 : (0 : Int) ≤ (i : Int) := by omega
      have hk1 : (i : Int) < (n : Int) := by omega
      by_cases h3 : 0 ≤ at'
      · obtain ⟨j, rfl⟩ := Int.eq_ofNat_of_zero_le h3
        by_cases h4 : j < ln i
        · have e0 : getM n ln f (i : Int) (j : Int) = .tuple #[.int .i64 (f i j), .bool true] := if_pos (decide_eq_true ⟨h1, by omega, h3, by simpa using h4⟩)
          rw [e0]
          have c3 := hv.inner i j h2 h4
          have g2 : decide (ln i ≤ j) = false := decide_eq_false (by omega)
          have hk2 : (0 : Int) ≤ (j : Int) := by omega
          have hk3 : (j : Int) < (ln i : Int) := by omega
          clear e0 h1 h3 hv hm h2 h4
          go_enter Try.func36, Try.ntmps36
          go_wp2_with fail
          exact bodyPost_ret (v := .tuple #[.int .i64 (f i j), .bool true]) (by simp [results, Try.results36, go_sem, *]) rfl ⟨rfl, rfl⟩
        · have e0 : getM n ln f (i : Int) (j : Int) = .tuple #[.int .i64 0, .bool false] := if_neg (fun q => h4 (by have := (of_decide_eq_true q).2.2.2; simpa using this))
          rw [e0]
          have g2 : decide (ln i ≤ j) = true := decide_eq_true (by omega)
          clear e0 h1 h3 hv hm h2 h4
          go_enter Try.func36, Try.ntmps36
          go_wp2_with fail
          exact bodyPost_ret (v := .tuple #[.int .i64 0, .bool false]) (by simp [results, Try.results36, go_sem, *]) rfl ⟨rfl, rfl⟩
      · have e0 : getM n ln f (i : Int) at' = .tuple #[.int .i64 0, .bool false] := if_neg (fun q => h3 (of_decide_eq_true q).2.2.1)
        rw [e0]
        have g3 : decide (at' < 0) = true := decide_eq_true (by omega)
        have g4 : at' < 0 := by omega
        clear e0 h1 h3 hv hm h2
        go_enter Try.func36, Try.ntmps36
        go_wp2_with fail
        exact bodyPost_ret (v := .tuple #[.int .i64 0, .bool false]) (by simp [results, Try.results36, go_sem, *]) rfl ⟨rfl, rfl⟩
    · have e0 : getM n ln f (i : Int) at' = .tuple #[.int .i64 0, .bool false] := if_neg (fun q => h2 (by have := (of_decide_eq_true q).2.1; omega))
      rw [e0]
      obtain ⟨ao, cap, hL, _⟩ := hm.own.form
      have c0 : w.cell? ⟨p, 0, none⟩ = some (.slice ao n cap) := by rw [← hL]; exact hm.cell
      have g1 : decide (n ≤ i) = true := decide_eq_true (by omega)
      clear e0 h1 hm h2 hL
      go_enter Try.func36, Try.ntmps36
      go_wp2_with fail
      exact bodyPost_ret (v := .tuple #[.int .i64 0, .bool false]) (by simp [results, Try.results36, go_sem, *]) rfl ⟨rfl, rfl⟩
  · have e0 : getM n ln f id at' = .tuple #[.int .i64 0, .bool false] := if_neg (fun q => h1 (of_decide_eq_true q).1)
    rw [e0]
    have g3 : decide (id < 0) = true := decide_eq_true (by omega)
    have g4 : id < 0 := by omega
    clear e0 h1 hm
    go_enter Try.func36, Try.ntmps36
    go_wp2_with fail
    exact bodyPost_ret (v := .tuple #[.int .i64 0, .bool false]) (by simp [results, Try.results36, go_sem, *]) rfl ⟨rfl, rfl⟩
end Go.Proofs.Ytlhenpocaagbjaa.C

namespace Go.Proofs.Ytlhenpocaagbjaa.C
open Go.RowKit
set_option linter.unusedSimpArgs false
set_option linter.unusedVariables false
/-- Only what the memory holds may have changed between: the rest as it was. -/
theorem MS.keep {w w' : World} {base p n : Nat} {L : Value} {ts : Nat → Int} {ad ln cp : Nat → Nat} {f : Nat → Nat → Int} (hm : MS w base p L n ts ad ln cp f) (hs : w.heap.size ≤ w'.heap.size) (hp : w'.heap[p]? = w.heap[p]?) (hl : ∀ b, L.ownBlock = some b → w'.heap[b]? = w.heap[b]?) (ha : ∀ i, i < n → w'.heap[ad i]? = w.heap[ad i]?) : MS w' base p L n ts ad ln cp f :=
  ⟨⟨hm.hp.1, Nat.lt_of_lt_of_le hm.hp.2 hs⟩, (m_kept (p := ⟨p, 0, none⟩) hp).trans hm.cell, (m_frz (p := ⟨p, 0, none⟩) hp).trans hm.frz, hm.own.keep hs hl, hm.hL, fun i hi => ⟨(hm.hA i hi).1, Nat.lt_of_lt_of_le (hm.hA i hi).2.1 hs, (hm.hA i hi).2.2⟩, hm.inj, fun i j hi hj => (m_kept (p := ⟨ad i, j, none⟩) (ha i hi)).trans (hm.inner i j hi hj), fun i j hi hj => (m_frz (p := ⟨ad i, j, none⟩) (ha i hi)).trans (hm.ifrz i j hi hj)⟩
theorem MS.below {w w' : World} {base p n : Nat} {L : Value} {ts : Nat → Int} {ad ln cp : Nat → Nat} {f : Nat → Nat → Int} (hm : MS w base p L n ts ad ln cp f) (hb : Below w.heap.size w w') : MS w' base p L n ts ad ln cp f :=
  hm.keep hb.size (hb.block p hm.hp.2) (fun b e => hb.block b (hm.own.blk b e).2) (fun i hi => hb.block _ (hm.hA i hi).2.1)
theorem MS.set {w : World} {base p n : Nat} {L : Value} {ts : Nat → Int} {ad ln cp : Nat → Nat} {f : Nat → Nat → Int} (hm : MS w base p L n ts ad ln cp f) {i j : Nat} (hi : i < n) (hj : j < ln i) (v : Int) :
    MS (w.setCell ⟨ad i, j, none⟩ (.int .i64 v)) base p L n ts ad ln cp (setF f i j v) := by
  have hs : (w.setCell ⟨ad i, j, none⟩ (.int .i64 v)).heap.size = w.heap.size := by simp
  have hA := hm.hA i hi
  have k := fun b (hb : b ≠ ad i) => Below.heap_setCell w ⟨ad i, j, none⟩ (.int .i64 v) b hb
  refine ⟨⟨hm.hp.1, by rw [hs]; exact hm.hp.2⟩, (m_kept (p := ⟨p, 0, none⟩) (k p (fun e => hA.2.2.1 e.symm))).trans hm.cell, (m_frz (p := ⟨p, 0, none⟩) (k p (fun e => hA.2.2.1 e.symm))).trans hm.frz, hm.own.keep (by omega) (fun b e => k b (fun q => hA.2.2.2.1 (by rw [e, q]))), hm.hL, fun a ha => by rw [hs]; exact hm.hA a ha, hm.inj, fun a b ha hb => ?_, fun a b ha hb => ?_⟩
  · unfold setF
    by_cases e : a = i ∧ b = j
    · rw [if_pos e]
      obtain ⟨rfl, rfl⟩ := e
      exact World.cell?_setCell_same _ _ _ (hm.inner a b ha hb)
    · rw [if_neg e, World.cell?_setCell_other _ _ _ _ (fun q => e (by injection q with q1 q2; exact ⟨hm.inj a i ha hi q1.symm, q2.symm⟩))]
      exact hm.inner a b ha hb
  · simpa [go_sem] using hm.ifrz a b ha hb
def setM (n : Nat) (ln : Nat → Nat) (ts : Nat → Int) (f : Nat → Nat → Int) (id at' v : Int) : Nat → Nat → Int := if hasM n ln id at' = true then setF f id.toNat at'.toNat (wrapT (ts id.toNat) v) else f
def SetPost (w : World) (base p n : Nat) (L : Value) (ts : Nat → Int) (ad ln cp : Nat → Nat) (f : Nat → Nat → Int) (id at' v : Int) (e : Ending) (w' : World) : Prop :=
  e = .returned (.bool (hasM n ln id at')) ∧ Below base w w' ∧ MS w' base p L n ts ad ln cp (setM n ln ts f id at' v) ∧ ∀ b, b < w.heap.size → (∀ i, i < n → ad i ≠ b) → w'.heap[b]? = w.heap[b]?
set_option maxHeartbeats 1600000 in
theorem set_s (base p n : Nat) (L : Value) (ts : Nat → Int) (ad ln cp : Nat → Nat) (f : Nat → Nat → Int) (id at' v : Int) (w : World) (hm : MS w base p L n ts ad ln cp f) (hb0 : base ≤ w.heap.size) :
    Calls Try.prog 22 #[.pointer (some ⟨p, 0, none⟩), .int .i64 id, .int .i64 at', .int .i64 v] w (SetPost w base p n L ts ad ln cp f id at' v) := by
  have HA := has_s base p n L ts ad ln cp f id at' w hm
  by_cases h : hasM n ln id at' = true
  · have e0 : setM n ln ts f id at' v = setF f id.toNat at'.toNat (wrapT (ts id.toNat) v) := if_pos h
    unfold SetPost
    rw [e0]
    rw [h] at HA ⊢
    obtain ⟨i, j, rfl, rfl, hi, hj⟩ := hasM_nat h
    simp only [Int.toNat_natCast]
    clear e0 h
    have HA := Lib.hid HA
    have HM := Lib.hid hm
    have HAi := Lib.hid (hm.hA i hi)
    obtain ⟨g, cap, rfl, hv, _⟩ := hm.view (by omega)
    have c0 := hv.cell
    obtain ⟨c1, c2⟩ := hv.rows i hi
    clear hv hm
    have hk0 : (0 : Int) ≤ (i : Int) := by omega
    have hk1 : (i : Int) < (n : Int) := by omega
    have hk2 : (0 : Int) ≤ (j : Int) := by omega
    have hk3 : (j : Int) < (ln i : Int) := by omega
    go_enter Try.func22, Try.ntmps22
    go_upto_region 3 with ((go_at_call 35; refine (HA.out).mono ?_; rintro e w' ⟨rfl, rfl⟩))
    obtain ⟨wo, rfl⟩ : ∃ wo : World, wo = w := ⟨_, rfl⟩
    have d0 := fun (x' : WIn (Below wo.heap.size wo)) => cell_later x'.h c0
    have d1 := fun (x' : WIn (Below wo.heap.size wo)) => cell_later x'.h c1
    have d2 := fun (x' : WIn (Below wo.heap.size wo)) => cell_later x'.h c2
    clear c0 c1 c2
    refine region_tail 20 (Below wo.heap.size wo) (by kernel_rfl) (by kernel_rfl) (Below.refl _ _).drew (fun inst => ?_)
    simp only [List.take_succ_cons, List.take_zero, List.drop_succ_cons, List.drop_zero]
    iterate 20 (go_big_quiet_step ((go_at_call 31; exact call_same _ (wrap_c (ts i) v _))))
    refine wpQuiet_nil ?_
    intro wd hbd
    have HD := Lib.hid (HM.out.below hbd)
    have k4 : wd.cell? ⟨ad i, j, none⟩ = some (.int .i64 (f i j)) := HD.out.inner i j hi hj
    have f4 : wd.frozen? ⟨ad i, j, none⟩ = false := HD.out.ifrz i j hi hj
    have HR : Hid (Below base wo (wd.setCell ⟨ad i, j, none⟩ (.int .i64 (wrapT (ts i) v))) ∧ MS (wd.setCell ⟨ad i, j, none⟩ (.int .i64 (wrapT (ts i) v))) base p (.slice (some ⟨g, 0, none⟩) n cap) n ts ad ln cp (setF f i j (wrapT (ts i) v)) ∧ ∀ b, b < wo.heap.size → (∀ i, i < n → ad i ≠ b) → (wd.setCell ⟨ad i, j, none⟩ (.int .i64 (wrapT (ts i) v))).heap[b]? = wo.heap[b]?) := Lib.hid ⟨(hbd.mono hb0).setCell (p := ⟨ad i, j, none⟩) HAi.out.1 _, HD.out.set hi hj _, fun b hb hne => (Below.heap_setCell wd ⟨ad i, j, none⟩ _ b (fun e => hne i hi e.symm)).trans (hbd.block b hb)⟩
    clear d0 d1 d2
    go_wp2_with fail
    go_ret
    exact ⟨rfl, HR.out⟩
  · have e0 : setM n ln ts f id at' v = f := if_neg h
    unfold SetPost
    rw [e0]
    rw [Bool.eq_false_iff.2 h] at HA ⊢
    have HA := Lib.hid HA
    have HM := Lib.hid hm
    clear h e0 hm
    go_enter Try.func22, Try.ntmps22
    go_wp2_with ((go_at_call 35; refine (HA.out).mono ?_; rintro e w' ⟨rfl, rfl⟩))
    go_ret
    exact ⟨rfl, Below.refl _ _, HM.out, fun _ _ _ => rfl⟩
set_option maxHeartbeats 1600000 in
theorem rset_s (base p n : Nat) (L : Value) (ts : Nat → Int) (ad ln cp : Nat → Nat) (f : Nat → Nat → Int) (id at' v : Int) (w : World) (hm : MS w base p L n ts ad ln cp f) (hb0 : base ≤ w.heap.size) :
    Calls Try.prog 23 #[.pointer (some ⟨p, 0, none⟩), .int .i64 id, .int .i64 at', .int .i64 v] w (SetPost w base p n L ts ad ln cp f id at' v) := by
  have HA := rget_s base p n L ts ad ln cp f id at' w hm
  by_cases h : hasM n ln id at' = true
  · have e0 : setM n ln ts f id at' v = setF f id.toNat at'.toNat (wrapT (ts id.toNat) v) := if_pos h
    have e1 : getM n ln f id at' = .tuple #[.int .i64 (f id.toNat at'.toNat), .bool true] := if_pos h
    unfold SetPost
    rw [e0]
    rw [e1] at HA
    rw [h]
    obtain ⟨i, j, rfl, rfl, hi, hj⟩ := hasM_nat h
    simp only [Int.toNat_natCast] at HA ⊢
    clear e0 e1 h
    have HA := Lib.hid HA
    have HM := Lib.hid hm
    have HAi := Lib.hid (hm.hA i hi)
    obtain ⟨g, cap, rfl, hv, _⟩ := hm.view (by omega)
    have c0 := hv.cell
    obtain ⟨c1, c2⟩ := hv.rows i hi
    clear hv hm
    have hk0 : (0 : Int) ≤ (i : Int) := by omega
    have hk1 : (i : Int) < (n : Int) := by omega
    have hk2 : (0 : Int) ≤ (j : Int) := by omega
    have hk3 : (j : Int) < (ln i : Int) := by omega
    go_enter Try.func23, Try.ntmps23
    go_upto_region 3 with ((go_at_call 36; refine (HA.out).mono ?_; rintro e w' ⟨rfl, rfl⟩))
    obtain ⟨wo, rfl⟩ : ∃ wo : World, wo = w := ⟨_, rfl⟩
    have d0 := fun (x' : WIn (Below wo.heap.size wo)) => cell_later x'.h c0
    have d1 := fun (x' : WIn (Below wo.heap.size wo)) => cell_later x'.h c1
    have d2 := fun (x' : WIn (Below wo.heap.size wo)) => cell_later x'.h c2
    clear c0 c1 c2
    refine region_tail 20 (Below wo.heap.size wo) (by kernel_rfl) (by kernel_rfl) (Below.refl _ _).drew (fun inst => ?_)
    simp only [List.take_succ_cons, List.take_zero, List.drop_succ_cons, List.drop_zero]
    iterate 20 (go_big_quiet_step ((go_at_call 34; exact call_same _ (r_wrap_c (ts i) v _))))
    refine wpQuiet_nil ?_
    intro wd hbd
    have HD := Lib.hid (HM.out.below hbd)
    have k4 : wd.cell? ⟨ad i, j, none⟩ = some (.int .i64 (f i j)) := HD.out.inner i j hi hj
    have f4 : wd.frozen? ⟨ad i, j, none⟩ = false := HD.out.ifrz i j hi hj
    have HR : Hid (Below base wo (wd.setCell ⟨ad i, j, none⟩ (.int .i64 (wrapT (ts i) v))) ∧ MS (wd.setCell ⟨ad i, j, none⟩ (.int .i64 (wrapT (ts i) v))) base p (.slice (some ⟨g, 0, none⟩) n cap) n ts ad ln cp (setF f i j (wrapT (ts i) v)) ∧ ∀ b, b < wo.heap.size → (∀ i, i < n → ad i ≠ b) → (wd.setCell ⟨ad i, j, none⟩ (.int .i64 (wrapT (ts i) v))).heap[b]? = wo.heap[b]?) := Lib.hid ⟨(hbd.mono hb0).setCell (p := ⟨ad i, j, none⟩) HAi.out.1 _, HD.out.set hi hj _, fun b hb hne => (Below.heap_setCell wd ⟨ad i, j, none⟩ _ b (fun e => hne i hi e.symm)).trans (hbd.block b hb)⟩
    clear d0 d1 d2
    go_wp2_with fail
    go_ret
    exact ⟨rfl, HR.out⟩
  · have e0 : setM n ln ts f id at' v = f := if_neg h
    have e1 : getM n ln f id at' = .tuple #[.int .i64 0, .bool false] := if_neg h
    unfold SetPost
    rw [e0]
    rw [e1] at HA
    rw [Bool.eq_false_iff.2 h]
    have HA := Lib.hid HA
    have HM := Lib.hid hm
    clear h e0 e1 hm
    go_enter Try.func23, Try.ntmps23
    go_wp2_with ((go_at_call 36; refine (HA.out).mono ?_; rintro e w' ⟨rfl, rfl⟩))
    go_ret
    exact ⟨rfl, Below.refl _ _, HM.out, fun _ _ _ => rfl⟩
end Go.Proofs.Ytlhenpocaagbjaa.C

namespace Go.Proofs.Ytlhenpocaagbjaa.C
open Go.RowKit
set_option linter.unusedSimpArgs false
set_option linter.unusedVariables false
def cutM (c : Int) (n : Nat) : Nat := (max 0 (min c n)).toNat
theorem cutM_le (c : Int) (n : Nat) : cutM c n ≤ n := by unfold cutM; omega
theorem cutM_if (c : Int) (n : Nat) : (if 0 < (if (n : Int) < c then (n : Int) else c) then (if (n : Int) < c then (n : Int) else c) else 0) = ((cutM c n : Nat) : Int) := by
  unfold cutM; split <;> split <;> omega
theorem St.form2 {w : World} {base : Nat} {L : Value} {n : Nat} {xs : List Value} (h : St w base L n xs) : (L = .slice none 0 0 ∧ n = 0) ∨ ∃ g cap, L = .slice (some ⟨g, 0, none⟩) n cap ∧ n ≤ cap := by
  rcases h with h | ⟨g, rfl, h1, h2, h3, h4⟩
  · rcases h.2 with ⟨rfl, h0⟩ | ⟨g, cap, cur, rfl, _, _, h2, _⟩
    · exact .inl ⟨rfl, h0⟩
    · exact .inr ⟨g, cap, rfl, h2⟩
  · exact .inr ⟨g, n, rfl, Nat.le_refl _⟩
theorem xsM_take (ts : Nat → Int) (ad ln cp : Nat → Nat) (n k : Nat) (h : k ≤ n) (j : Nat) (u : Value) (hu : (xsM ts ad ln cp k)[j]? = some u) : (xsM ts ad ln cp n)[j]? = some u := by
  induction n with
  | zero =>
    obtain rfl : k = 0 := by omega
    exact hu
  | succ n ih =>
    by_cases e : k = n + 1
    · subst e; exact hu
    · have hj := (List.getElem?_eq_some_iff.1 hu).1
      rw [xsM_len] at hj
      rw [xsM, List.getElem?_append_left (by rw [xsM_len]; omega)]
      exact ih (by omega)
def CutPost (w : World) (base p n : Nat) (L : Value) (ts : Nat → Int) (ad ln cp : Nat → Nat) (f : Nat → Nat → Int) (c : Int) (e : Ending) (w' : World) : Prop :=
  e = .returned (.tuple #[]) ∧ Below base w w' ∧ (∃ L', (L'.ownBlock = L.ownBlock ∨ ∃ b, w.heap.size ≤ b ∧ L'.ownBlock = some b) ∧ MS w' base p L' (cutM c n) ts ad ln cp f) ∧ ∀ b, b < w.heap.size → b ≠ p → w'.heap[b]? = w.heap[b]?
theorem MS.cut {w : World} {base p n : Nat} {L : Value} {ts : Nat → Int} {ad ln cp : Nat → Nat} {f : Nat → Nat → Int} (hm : MS w base p L n ts ad ln cp f) (k : Nat) (hk : k ≤ n) {L' : Value} (hL' : L'.ownBlock = L.ownBlock) (hst : ∀ w', w.heap.size ≤ w'.heap.size → (∀ b, b ≠ p → w'.heap[b]? = w.heap[b]?) → St w' base L' k (xsM ts ad ln cp k)) :
    Below base w (w.setCell ⟨p, 0, none⟩ L') ∧ MS (w.setCell ⟨p, 0, none⟩ L') base p L' k ts ad ln cp f ∧ ∀ b, b < w.heap.size → b ≠ p → (w.setCell ⟨p, 0, none⟩ L').heap[b]? = w.heap[b]? := by
  have hs : (w.setCell ⟨p, 0, none⟩ L').heap.size = w.heap.size := by simp
  have kp := fun b (hb : b ≠ p) => Below.heap_setCell w ⟨p, 0, none⟩ L' b hb
  refine ⟨(Below.refl _ _).setCell (p := ⟨p, 0, none⟩) hm.hp.1 _, ⟨⟨hm.hp.1, by rw [hs]; exact hm.hp.2⟩, World.cell?_setCell_same _ _ _ hm.cell, by simpa [go_sem] using hm.frz, hst _ (by omega) kp, by rw [hL']; exact hm.hL, fun i hi => by rw [hs, hL']; exact hm.hA i (by omega), fun i j hi hj => hm.inj i j (by omega) (by omega), fun i j hi hj => ?_, fun i j hi hj => ?_⟩, fun b _ hb => kp b hb⟩
  · exact (m_kept (p := ⟨ad i, j, none⟩) (kp _ (hm.hA i (by omega)).2.2.1)).trans (hm.inner i j (by omega) hj)
  · exact (m_frz (p := ⟨ad i, j, none⟩) (kp _ (hm.hA i (by omega)).2.2.1)).trans (hm.ifrz i j (by omega) hj)
end Go.Proofs.Ytlhenpocaagbjaa.C

namespace Go.Proofs.Ytlhenpocaagbjaa.C
open Go.RowKit
set_option linter.unusedSimpArgs false
set_option linter.unusedVariables false
theorem MS.cutNew {w w1 : World} {base p n : Nat} {L : Value} {ts : Nat → Int} {ad ln cp : Nat → Nat} {f : Nat → Nat → Int} (hm : MS w base p L n ts ad ln cp f) (hb0 : base ≤ w.heap.size) (k : Nat) (hk : k ≤ n) {L' : Value} {b : Nat} (hb : Below w.heap.size w w1) (hL' : L'.ownBlock = some b) (hbb : w.heap.size ≤ b) (hst : St w1 base L' k (xsM ts ad ln cp k)) :
    Below base w (w1.setCell ⟨p, 0, none⟩ L') ∧ MS (w1.setCell ⟨p, 0, none⟩ L') base p L' k ts ad ln cp f ∧ ∀ b, b < w.heap.size → b ≠ p → (w1.setCell ⟨p, 0, none⟩ L').heap[b]? = w.heap[b]? := by
  have h1 := hm.below hb
  have hs : (w1.setCell ⟨p, 0, none⟩ L').heap.size = w1.heap.size := by simp
  have kp := fun b (hb : b ≠ p) => Below.heap_setCell w1 ⟨p, 0, none⟩ L' b hb
  have hpw := hm.hp.2
  refine ⟨(hb.mono hb0).setCell (p := ⟨p, 0, none⟩) hm.hp.1 _, ⟨⟨hm.hp.1, by rw [hs]; exact h1.hp.2⟩, World.cell?_setCell_same _ _ _ h1.cell, by simpa [go_sem] using h1.frz, hst.keep (by omega) (fun x e => kp x (fun q => by rw [hL'] at e; injection e with e; omega)), fun e => by rw [hL'] at e; injection e with e; omega, fun i hi => ?_, fun i j hi hj => hm.inj i j (by omega) (by omega), fun i j hi hj => ?_, fun i j hi hj => ?_⟩, fun x hx hne => (kp x hne).trans (hb.block x hx)⟩
  · have hA := h1.hA i (by omega)
    have hA0 := hm.hA i (by omega)
    exact ⟨hA.1, by rw [hs]; exact hA.2.1, hA.2.2.1, fun e => by rw [hL'] at e; injection e with e; omega, hA.2.2.2.2⟩
  · exact (m_kept (p := ⟨ad i, j, none⟩) (kp _ (hm.hA i (by omega)).2.2.1)).trans (h1.inner i j (by omega) hj)
  · exact (m_frz (p := ⟨ad i, j, none⟩) (kp _ (hm.hA i (by omega)).2.2.1)).trans (h1.ifrz i j (by omega) hj)
theorem own_some {w w1 : World} {e : TypeId} {v : Value} {n : Nat} {xs : List Value} {x : Nat} (h : w1.ownsRow w.heap.size e 2 v n xs) (hat : v.ownBlock = (Value.slice (some ⟨w.heap.size, 0, none⟩) 0 0).ownBlock ∨ v.ownBlock = some x) : ∃ g cap, v = .slice (some ⟨g, 0, none⟩) n cap ∧ w.heap.size ≤ g := by
  rcases h.2 with ⟨rfl, _⟩ | ⟨g, cap, cur, rfl, hg, _⟩
  · simp [Value.ownBlock] at hat
  · exact ⟨g, cap, rfl, hg⟩
end Go.Proofs.Ytlhenpocaagbjaa.C

namespace Go.Proofs.Ytlhenpocaagbjaa.C
open Go.RowKit
set_option linter.unusedSimpArgs false
set_option linter.unusedVariables false
theorem xsM_set (ts : Nat → Int) (ad ln cp : Nat → Nat) (n k gn cn : Nat) (hk : k < n) :
    (xsM ts ad ln cp n).set (k * 2 + 1) (.slice (some ⟨gn, 0, none⟩) (ln k) cn) = xsM ts (fun i => if i = k then gn else ad i) ln (fun i => if i = k then cn else cp i) n := by
  induction n with
  | zero => omega
  | succ n ih =>
    by_cases e : k = n
    · subst e
      rw [xsM, xsM, List.set_append_right _ _ (by rw [xsM_len]; omega), xsM_len]
      have e1 : k * 2 + 1 - k * 2 = 1 := by omega
      rw [e1]
      rw [xsM_congr (ts' := ts) (ad' := fun i => if i = k then gn else ad i) (ln' := ln) (cp' := fun i => if i = k then cn else cp i) k (fun i hi => by simp [Nat.ne_of_lt hi])]
      simp
    · rw [xsM, xsM, List.set_append_left _ _ (by rw [xsM_len]; omega), ih (by omega)]
      simp [show n ≠ k from fun q => e q.symm]
end Go.Proofs.Ytlhenpocaagbjaa.C

namespace Go.Proofs.Ytlhenpocaagbjaa.C
open Go.RowKit
set_option linter.unusedSimpArgs false
set_option linter.unusedVariables false
theorem MS.mono {w : World} {base base' p n : Nat} {L : Value} {ts : Nat → Int} {ad ln cp : Nat → Nat} {f : Nat → Nat → Int} (hm : MS w base p L n ts ad ln cp f) (hb : base' ≤ base) : MS w base' p L n ts ad ln cp f :=
  ⟨⟨Nat.le_trans hb hm.hp.1, hm.hp.2⟩, hm.cell, hm.frz, hm.own.imp (fun h => own_mono h hb) (fun ⟨g, h1, h2, h3⟩ => ⟨g, h1, Nat.le_trans hb h2, h3⟩), hm.hL, fun i hi => ⟨Nat.le_trans hb (hm.hA i hi).1, (hm.hA i hi).2⟩, hm.inj, hm.inner, hm.ifrz⟩
/-- .. with what the copy owns. -/
structure CS (w : World) (B p g cap n k : Nat) (ts : Nat → Int) (ad0 ad ln cp : Nat → Nat) (f : Nat → Nat → Int) : Prop where
  ci : CI w B p g cap n k ts ad0 ad ln cp f
  own : w.ownsRow B 89 2 (.slice (some ⟨g, 0, none⟩) n cap) n (xsM ts ad ln cp n)
  pfrz : w.frozen? ⟨p, 0, none⟩ = false
  lcp : ∀ i, i < k → ln i ≤ cp i
  afr : ∀ i j, i < k → j < ln i → w.frozen? ⟨ad i, j, none⟩ = false
  inj : ∀ i j, i < k → j < k → ad i = ad j → i = j
theorem CS.step {w w1 : World} {B p g cap n k : Nat} {ts : Nat → Int} {ad0 ad ln cp : Nat → Nat} {f : Nat → Nat → Int} {gn cn : Nat} (h : CS w B p g cap n k ts ad0 ad ln cp f) (hk : k < n) (hr : RowNew w gn cn (ln k) (f k) w1) :
    CS (w1.setCell ⟨g, k * 2 + 1, none⟩ (.slice (some ⟨gn, 0, none⟩) (ln k) cn)) B p g cap n (k + 1) ts ad0 (fun i => if i = k then gn else ad i) ln (fun i => if i = k then cn else cp i) f := by
  have hc := h.ci.step hk hr
  obtain ⟨r1, r2, r3, r4, r5, hb⟩ := hr
  have k1 : ∀ b, b ≠ g → (w1.setCell ⟨g, k * 2 + 1, none⟩ (.slice (some ⟨gn, 0, none⟩) (ln k) cn)).heap[b]? = w1.heap[b]? := fun b hb => Below.heap_setCell w1 ⟨g, k * 2 + 1, none⟩ _ b hb
  have hg := h.ci.hg
  have hp := h.ci.hp
  refine ⟨hc, ?_, ?_, fun i hi => ?_, fun i j hi hj => ?_, fun i j hi hj e => ?_⟩
  · rw [← xsM_set ts ad ln cp n k gn cn hk]
    exact ((own_below h.own hb).stored (k * 2 + 1) _).1
  · exact (m_frz (p := ⟨p, 0, none⟩) (k1 p (fun e => hg.2.2 e.symm))).trans ((hb.frozen (p := ⟨p, 0, none⟩) hp.2).trans h.pfrz)
  · by_cases e : i = k
    · subst e; simpa using r3
    · simp only [e, if_false]; exact h.lcp i (by omega)
  · by_cases e : i = k
    · subst e
      simp only [if_true]
      exact (m_frz (p := ⟨gn, j, none⟩) (k1 gn (by omega))).trans (r5 j hj)
    · simp only [e, if_false]
      have hn := h.ci.new i (by omega)
      exact (m_frz (p := ⟨ad i, j, none⟩) (k1 _ hn.2.2.1)).trans ((hb.frozen (p := ⟨ad i, j, none⟩) hn.2.1).trans (h.afr i j (by omega) hj))
  · by_cases e1 : i = k
    · by_cases e2 : j = k
      · omega
      · simp only [e1, e2, if_true, if_false] at e
        have := (h.ci.new j (by omega)).2.1; omega
    · by_cases e2 : j = k
      · simp only [e1, e2, if_true, if_false] at e
        have := (h.ci.new i (by omega)).2.1; omega
      · simp only [e1, e2, if_false] at e
        exact h.inj i j (by omega) (by omega) e
def CopyPost (n : Nat) (ts : Nat → Int) (ln : Nat → Nat) (f : Nat → Nat → Int) (w : World) (e : Ending) (w' : World) : Prop :=
  ∃ p L ad cp, e = .returned (.pointer (some ⟨p, 0, none⟩)) ∧ Below w.heap.size w w' ∧ MS w' w.heap.size p L n ts ad ln cp f
theorem CS.done {w : World} {B p g cap n : Nat} {ts : Nat → Int} {ad0 ad ln cp : Nat → Nat} {f : Nat → Nat → Int} (h : CS w B p g cap n n ts ad0 ad ln cp f) (hl : ∀ i, i < n → 1 ≤ ln i ∧ ln i ≤ 16) : MS w B p (.slice (some ⟨g, 0, none⟩) n cap) n ts ad ln cp f :=
  ⟨h.ci.hp, h.ci.cell, h.pfrz, .inl h.own, fun e => h.ci.hg.2.2 (by simpa [Value.ownBlock] using e), fun i hi => ⟨(h.ci.new i hi).1, (h.ci.new i hi).2.1, (h.ci.new i hi).2.2.2, fun e => (h.ci.new i hi).2.2.1 (show g = ad i by simpa [Value.ownBlock] using e).symm, (hl i hi).1, (hl i hi).2, h.lcp i hi⟩, h.inj, h.ci.inner, h.afr⟩
end Go.Proofs.Ytlhenpocaagbjaa.C

namespace Go.Proofs.Ytlhenpocaagbjaa.C
open Go.RowKit
set_option linter.unusedSimpArgs false
set_option linter.unusedVariables false
def NoBlock (w : World) (e : Ending) (w' : World) : Prop := e = .returned (.tuple #[.agg #[.int .i64 0, .slice none 0 0], .bool false]) ∧ Below w.heap.size w w'
end Go.Proofs.Ytlhenpocaagbjaa.C

namespace Go.Proofs.Ytlhenpocaagbjaa.C
open Go.RowKit
set_option linter.unusedSimpArgs false
set_option linter.unusedVariables false
end Go.Proofs.Ytlhenpocaagbjaa.C

namespace Go.Proofs.Ytlhenpocaagbjaa.C
open Go.RowKit
set_option linter.unusedSimpArgs false
set_option linter.unusedVariables false
def RowC (w : World) (A : Option Addr) (n : Nat) (f : Nat → Int) : Prop := n ≤ 9223372036854775807 ∧ (0 < n → ∃ a, A = some a ∧ ∀ j, j < n → w.cell? (a.add j) = some (.int .i64 (f j)))
theorem RowC.below {w w' : World} {A : Option Addr} {n : Nat} {f : Nat → Int} (h : RowC w A n f) (hb : Below w.heap.size w w') : RowC w' A n f :=
  ⟨h.1, fun h0 => by obtain ⟨a, e, hc⟩ := h.2 h0; exact ⟨a, e, fun j hj => cell_later hb (hc j hj)⟩⟩
def BoolPost (b : Bool) (w : World) (e : Ending) (w' : World) : Prop := e = .returned (.bool b) ∧ Below w.heap.size w w'
end Go.Proofs.Ytlhenpocaagbjaa.C

namespace Go.Proofs.Ytlhenpocaagbjaa.C
open Go.RowKit
set_option linter.unusedSimpArgs false
set_option linter.unusedVariables false
/-- The blocks of a memory. -/
def foot (p : Nat) (L : Value) (n : Nat) (ad : Nat → Nat) (x : Nat) : Prop := x = p ∨ L.ownBlock = some x ∨ ∃ i, i < n ∧ ad i = x
/-- Two memories that have no block in common. -/
structure Pair (w : World) (base p1 p2 : Nat) (L1 L2 : Value) (n1 n2 : Nat) (ts1 ts2 : Nat → Int) (ad1 ad2 ln1 ln2 cp1 cp2 : Nat → Nat) (f1 f2 : Nat → Nat → Int) : Prop where
  a : MS w base p1 L1 n1 ts1 ad1 ln1 cp1 f1
  b : MS w base p2 L2 n2 ts2 ad2 ln2 cp2 f2
  apart : ∀ x, foot p1 L1 n1 ad1 x → ¬ foot p2 L2 n2 ad2 x
theorem Pair.swap {w : World} {base p1 p2 : Nat} {L1 L2 : Value} {n1 n2 : Nat} {ts1 ts2 : Nat → Int} {ad1 ad2 ln1 ln2 cp1 cp2 : Nat → Nat} {f1 f2 : Nat → Nat → Int} (h : Pair w base p1 p2 L1 L2 n1 n2 ts1 ts2 ad1 ad2 ln1 ln2 cp1 cp2 f1 f2) : Pair w base p2 p1 L2 L1 n2 n1 ts2 ts1 ad2 ad1 ln2 ln1 cp2 cp1 f2 f1 :=
  ⟨h.b, h.a, fun x h1 h2 => h.apart x h2 h1⟩
theorem MS.foot_lt {w : World} {base p n : Nat} {L : Value} {ts : Nat → Int} {ad ln cp : Nat → Nat} {f : Nat → Nat → Int} (h : MS w base p L n ts ad ln cp f) (x : Nat) (hx : foot p L n ad x) : x < w.heap.size := by
  rcases hx with rfl | hx | ⟨i, hi, rfl⟩
  · exact h.hp.2
  · exact (h.own.blk x hx).2
  · exact (h.hA i hi).2.1
/-- What was done to the first memory leaves the second one alone. -/
theorem Pair.step {w w' : World} {base p1 p2 : Nat} {L1 L2 : Value} {n1 n2 : Nat} {ts1 ts2 : Nat → Int} {ad1 ad2 ln1 ln2 cp1 cp2 : Nat → Nat} {f1 f2 : Nat → Nat → Int} (h : Pair w base p1 p2 L1 L2 n1 n2 ts1 ts2 ad1 ad2 ln1 ln2 cp1 cp2 f1 f2)
    {q n : Nat} {L : Value} {ts : Nat → Int} {ad ln cp : Nat → Nat} {f : Nat → Nat → Int} (hs : w.heap.size ≤ w'.heap.size) (ha : MS w' base q L n ts ad ln cp f)
    (hk : ∀ b, b < w.heap.size → ¬ foot p1 L1 n1 ad1 b → w'.heap[b]? = w.heap[b]?) (hf : ∀ x, foot q L n ad x → foot p1 L1 n1 ad1 x ∨ w.heap.size ≤ x) :
    Pair w' base q p2 L L2 n n2 ts ts2 ad ad2 ln ln2 cp cp2 f f2 := by
  have kk : ∀ x, foot p2 L2 n2 ad2 x → w'.heap[x]? = w.heap[x]? := fun x hx => hk x (h.b.foot_lt x hx) (fun h1 => h.apart x h1 hx)
  refine ⟨ha, h.b.keep hs (kk p2 (.inl rfl)) (fun b e => kk b (.inr (.inl e))) (fun i hi => kk _ (.inr (.inr ⟨i, hi, rfl⟩))), fun x h1 h2 => ?_⟩
  rcases hf x h1 with h3 | h3
  · exact h.apart x h3 h2
  · have := h.b.foot_lt x h2; omega
/-- Add, done to the first memory. -/
theorem Pair.added {w w' : World} {base p1 p2 : Nat} {L1 L2 : Value} {n1 n2 : Nat} {ts1 ts2 : Nat → Int} {ad1 ad2 ln1 ln2 cp1 cp2 : Nat → Nat} {f1 f2 : Nat → Nat → Int} (h : Pair w base p1 p2 L1 L2 n1 n2 ts1 ts2 ad1 ad2 ln1 ln2 cp1 cp2 f1 f2)
    {t s : Int} {e : Ending} (ha : AddedS w base p1 n1 L1 ts1 ad1 ln1 cp1 f1 t s e w') :
    e = .returned (.int .i64 n1) ∧ Below base w w' ∧ ∃ L a, Pair w' base p1 p2 L L2 (n1 + 1) n2 (addT n1 ts1 t) ts2 (addN n1 ad1 a) ad2 (addN n1 ln1 (sizeM s)) ln2 (addN n1 cp1 (sizeM s)) cp2 (addF n1 f1 fun _ => 0) f2 := by
  obtain ⟨he, g, cap, a, haw, ⟨hb, hk, hg⟩, hm⟩ := ha
  refine ⟨he, hb, _, a, h.step hb.size hm.ms (fun b hbl hnf => hk b hbl (fun e => hnf (.inl e)) (fun e => hnf (.inr (.inl e)))) (fun x hx => ?_)⟩
  rcases hx with hx | hx | ⟨i, hi, hx⟩
  · exact .inl (.inl hx)
  · have hx2 : g = x := by simpa [Value.ownBlock] using hx
    rcases hg with hg | hg
    · exact .inl (.inr (.inl (by rw [hg, hx2])))
    · exact .inr (by omega)
  · unfold addN at hx
    by_cases e : i = n1
    · rw [if_pos e] at hx; exact .inr (by omega)
    · rw [if_neg e] at hx; exact .inl (.inr (.inr ⟨i, by omega, hx⟩))
/-- Set, done to the first memory. -/
theorem Pair.setP {w w' : World} {base p1 p2 : Nat} {L1 L2 : Value} {n1 n2 : Nat} {ts1 ts2 : Nat → Int} {ad1 ad2 ln1 ln2 cp1 cp2 : Nat → Nat} {f1 f2 : Nat → Nat → Int} (h : Pair w base p1 p2 L1 L2 n1 n2 ts1 ts2 ad1 ad2 ln1 ln2 cp1 cp2 f1 f2)
    {id at' v : Int} {e : Ending} (ha : SetPost w base p1 n1 L1 ts1 ad1 ln1 cp1 f1 id at' v e w') :
    e = .returned (.bool (hasM n1 ln1 id at')) ∧ Below base w w' ∧ Pair w' base p1 p2 L1 L2 n1 n2 ts1 ts2 ad1 ad2 ln1 ln2 cp1 cp2 (setM n1 ln1 ts1 f1 id at' v) f2 := by
  obtain ⟨he, hb, hm, hk⟩ := ha
  exact ⟨he, hb, h.step hb.size hm (fun b hbl hnf => hk b hbl (fun i hi q => hnf (.inr (.inr ⟨i, hi, q⟩)))) (fun x hx => .inl hx)⟩
/-- Cut, done to the first memory. -/
theorem Pair.cutP {w w' : World} {base p1 p2 : Nat} {L1 L2 : Value} {n1 n2 : Nat} {ts1 ts2 : Nat → Int} {ad1 ad2 ln1 ln2 cp1 cp2 : Nat → Nat} {f1 f2 : Nat → Nat → Int} (h : Pair w base p1 p2 L1 L2 n1 n2 ts1 ts2 ad1 ad2 ln1 ln2 cp1 cp2 f1 f2)
    {c : Int} {e : Ending} (ha : CutPost w base p1 n1 L1 ts1 ad1 ln1 cp1 f1 c e w') :
    e = .returned (.tuple #[]) ∧ Below base w w' ∧ ∃ L, Pair w' base p1 p2 L L2 (cutM c n1) n2 ts1 ts2 ad1 ad2 ln1 ln2 cp1 cp2 f1 f2 := by
  obtain ⟨he, hb, ⟨L', hL, hm⟩, hk⟩ := ha
  have hle := cutM_le c n1
  refine ⟨he, hb, L', h.step hb.size hm (fun b hbl hnf => hk b hbl (fun e => hnf (.inl e))) (fun x hx => ?_)⟩
  rcases hx with hx | hx | ⟨i, hi, hx⟩
  · exact .inl (.inl hx)
  · rcases hL with hL | ⟨b, hb1, hb2⟩
    · exact .inl (.inr (.inl (by rw [← hL]; exact hx)))
    · rw [hb2] at hx; injection hx with hx; exact .inr (by omega)
  · exact .inl (.inr (.inr ⟨i, by omega, hx⟩))
/-- A copy takes the first memory's place. -/
theorem Pair.copyP {w w' : World} {base p1 p2 : Nat} {L1 L2 : Value} {n1 n2 : Nat} {ts1 ts2 : Nat → Int} {ad1 ad2 ln1 ln2 cp1 cp2 : Nat → Nat} {f1 f2 : Nat → Nat → Int} (h : Pair w base p1 p2 L1 L2 n1 n2 ts1 ts2 ad1 ad2 ln1 ln2 cp1 cp2 f1 f2) (hb0 : base ≤ w.heap.size)
    {e : Ending} (ha : CopyPost n1 ts1 ln1 f1 w e w') :
    ∃ p L ad cp, e = .returned (.pointer (some ⟨p, 0, none⟩)) ∧ Below w.heap.size w w' ∧ Pair w' base p p2 L L2 n1 n2 ts1 ts2 ad ad2 ln1 ln2 cp cp2 f1 f2 := by
  obtain ⟨p, L, ad, cp, he, hb, hm⟩ := ha
  refine ⟨p, L, ad, cp, he, hb, h.step hb.size (hm.mono hb0) (fun b hbl _ => hb.block b hbl) (fun x hx => .inr ?_)⟩
  rcases hx with rfl | hx | ⟨i, hi, rfl⟩
  · exact hm.hp.1
  · exact (hm.own.blk x hx).1
  · exact (hm.hA i hi).1
end Go.Proofs.Ytlhenpocaagbjaa.C

namespace Go.Proofs.Ytlhenpocaagbjaa.C
open Go.RowKit
set_option linter.unusedSimpArgs false
set_option linter.unusedVariables false
def Tw (w : World) (B p1 p2 n1 n2 : Nat) (ts1 ts2 : Nat → Int) (ln1 ln2 : Nat → Nat) (f1 f2 : Nat → Nat → Int) (x : Nat) : Prop :=
  B ≤ w.heap.size ∧ ∃ L1 L2 ad1 ad2 cp1 cp2, Pair w B p1 p2 L1 L2 n1 n2 ts1 ts2 ad1 ad2 ln1 ln2 cp1 cp2 f1 f2 ∧ x < w.heap.size ∧ ¬ foot p1 L1 n1 ad1 x ∧ ¬ foot p2 L2 n2 ad2 x
def TwP (w : World) (B p1 p2 n : Nat) : Prop :=
  B ≤ w.heap.size ∧ ∃ ts ln f L1 L2 ad1 ad2 cp1 cp2, Pair w B p1 p2 L1 L2 n n ts ts ad1 ad2 ln ln cp1 cp2 f f
theorem Tw.swap {w : World} {B p1 p2 n1 n2 x : Nat} {ts1 ts2 : Nat → Int} {ln1 ln2 : Nat → Nat} {f1 f2 : Nat → Nat → Int} (h : Tw w B p1 p2 n1 n2 ts1 ts2 ln1 ln2 f1 f2 x) : Tw w B p2 p1 n2 n1 ts2 ts1 ln2 ln1 f2 f1 x := by
  obtain ⟨hB, L1, L2, ad1, ad2, cp1, cp2, h, hx, h1, h2⟩ := h
  exact ⟨hB, L2, L1, ad2, ad1, cp2, cp1, h.swap, hx, h2, h1⟩
theorem Tw.twin {w : World} {B p1 p2 n x : Nat} {ts : Nat → Int} {ln : Nat → Nat} {f : Nat → Nat → Int} (h : Tw w B p1 p2 n n ts ts ln ln f f x) : TwP w B p1 p2 n := by
  obtain ⟨hB, L1, L2, ad1, ad2, cp1, cp2, h, _⟩ := h
  exact ⟨hB, ts, ln, f, L1, L2, ad1, ad2, cp1, cp2, h⟩
theorem Pair.below {w w' : World} {base p1 p2 : Nat} {L1 L2 : Value} {n1 n2 : Nat} {ts1 ts2 : Nat → Int} {ad1 ad2 ln1 ln2 cp1 cp2 : Nat → Nat} {f1 f2 : Nat → Nat → Int} (h : Pair w base p1 p2 L1 L2 n1 n2 ts1 ts2 ad1 ad2 ln1 ln2 cp1 cp2 f1 f2) (hb : Below w.heap.size w w') : Pair w' base p1 p2 L1 L2 n1 n2 ts1 ts2 ad1 ad2 ln1 ln2 cp1 cp2 f1 f2 :=
  ⟨h.a.below hb, h.b.below hb, h.apart⟩
theorem TwP.below {w w' : World} {B p1 p2 n : Nat} (h : TwP w B p1 p2 n) (hb : Below w.heap.size w w') : TwP w' B p1 p2 n := by
  obtain ⟨hB, ts, ln, f, L1, L2, ad1, ad2, cp1, cp2, h⟩ := h
  exact ⟨Nat.le_trans hB hb.size, ts, ln, f, L1, L2, ad1, ad2, cp1, cp2, h.below hb⟩
theorem TwP.fresh {w w' : World} {B p1 p2 n : Nat} (h : TwP w B p1 p2 n) (hb : Below w.heap.size w w') (hs : w.heap.size < w'.heap.size) : ∃ ts ln f, Tw w' B p1 p2 n n ts ts ln ln f f w.heap.size := by
  obtain ⟨hB, ts, ln, f, L1, L2, ad1, ad2, cp1, cp2, h⟩ := h
  exact ⟨ts, ln, f, Nat.le_trans hB hb.size, L1, L2, ad1, ad2, cp1, cp2, h.below hb, hs, fun q => Nat.lt_irrefl _ (h.a.foot_lt _ q), fun q => Nat.lt_irrefl _ (h.b.foot_lt _ q)⟩
theorem Tw.below {w w' : World} {B p1 p2 n1 n2 x : Nat} {ts1 ts2 : Nat → Int} {ln1 ln2 : Nat → Nat} {f1 f2 : Nat → Nat → Int} (h : Tw w B p1 p2 n1 n2 ts1 ts2 ln1 ln2 f1 f2 x) (hb : Below w.heap.size w w') : Tw w' B p1 p2 n1 n2 ts1 ts2 ln1 ln2 f1 f2 x := by
  obtain ⟨hB, L1, L2, ad1, ad2, cp1, cp2, h, hx, h1, h2⟩ := h
  exact ⟨Nat.le_trans hB hb.size, L1, L2, ad1, ad2, cp1, cp2, h.below hb, Nat.lt_of_lt_of_le hx hb.size, h1, h2⟩
theorem Tw.drew {w : World} {B p1 p2 n1 n2 x : Nat} {ts1 ts2 : Nat → Int} {ln1 ln2 : Nat → Nat} {f1 f2 : Nat → Nat → Int} (h : Tw w B p1 p2 n1 n2 ts1 ts2 ln1 ln2 f1 f2 x) : Tw w.drew B p1 p2 n1 n2 ts1 ts2 ln1 ln2 f1 f2 x := h.below (Below.refl _ _).drew
theorem RowNew.rowc {w w' : World} {g cap n : Nat} {f : Nat → Int} (h : RowNew w g cap n f w') (hn : n ≤ 16) : RowC w' (some ⟨g, 0, none⟩) n f :=
  ⟨by omega, fun _ => ⟨_, rfl, fun j hj => by rw [m_plain]; exact h.2.2.2.1 j hj⟩⟩
theorem RowNew.bel {w w' : World} {g cap n : Nat} {f : Nat → Int} (h : RowNew w g cap n f w') : Below w.heap.size w w' := h.2.2.2.2.2
theorem rowc0 (w : World) : RowC w none 0 (fun _ => 0) := ⟨by omega, fun h => absurd h (by omega)⟩
def TwPost (w : World) (B p1 p2 n1 n2 : Nat) (ts1 ts2 : Nat → Int) (ln1 ln2 : Nat → Nat) (f1 f2 : Nat → Nat → Int) (x : Nat) (v : Value) (e : Ending) (w' : World) : Prop :=
  e = .returned v ∧ Below B w w' ∧ w'.heap[x]? = w.heap[x]? ∧ Tw w' B p1 p2 n1 n2 ts1 ts2 ln1 ln2 f1 f2 x
theorem TwPost.swap {w : World} {B p1 p2 n1 n2 x : Nat} {ts1 ts2 : Nat → Int} {ln1 ln2 : Nat → Nat} {f1 f2 : Nat → Nat → Int} {v : Value} {e : Ending} {w' : World} (h : TwPost w B p1 p2 n1 n2 ts1 ts2 ln1 ln2 f1 f2 x v e w') : TwPost w B p2 p1 n2 n1 ts2 ts1 ln2 ln1 f2 f1 x v e w' :=
  ⟨h.1, h.2.1, h.2.2.1, h.2.2.2.swap⟩
theorem tw_step {w w' : World} {B p1 p2 x : Nat} {L1 L2 : Value} {n1 n2 : Nat} {ts1 ts2 : Nat → Int} {ad1 ad2 ln1 ln2 cp1 cp2 : Nat → Nat} {f1 f2 : Nat → Nat → Int} (h : Pair w B p1 p2 L1 L2 n1 n2 ts1 ts2 ad1 ad2 ln1 ln2 cp1 cp2 f1 f2) (hB : B ≤ w.heap.size) (hx : x < w.heap.size) (h1 : ¬ foot p1 L1 n1 ad1 x) (h2 : ¬ foot p2 L2 n2 ad2 x)
    {q n : Nat} {L : Value} {ts : Nat → Int} {ad ln cp : Nat → Nat} {f : Nat → Nat → Int} {v : Value} (hb : Below B w w') (ha : MS w' B q L n ts ad ln cp f)
    (hk : ∀ b, b < w.heap.size → ¬ foot p1 L1 n1 ad1 b → w'.heap[b]? = w.heap[b]?) (hf : ∀ x, foot q L n ad x → foot p1 L1 n1 ad1 x ∨ w.heap.size ≤ x) :
    TwPost w B q p2 n n2 ts ts2 ln ln2 f f2 x v (.returned v) w' := by
  have hs : w.heap.size ≤ w'.heap.size := hb.size
  refine ⟨rfl, hb, hk x hx h1, Nat.le_trans hB hs, L, L2, ad, ad2, cp, cp2, h.step hs ha hk hf, Nat.lt_of_lt_of_le hx hs, fun q => ?_, h2⟩
  rcases hf x q with h3 | h3
  · exact h1 h3
  · omega
theorem add1_t {w : World} {B p1 p2 n1 n2 x : Nat} {ts1 ts2 : Nat → Int} {ln1 ln2 : Nat → Nat} {f1 f2 : Nat → Nat → Int} (h : Tw w B p1 p2 n1 n2 ts1 ts2 ln1 ln2 f1 f2 x) (hn : n1 ≤ 100000) (t s : Int) :
    Calls Try.prog 20 #[.pointer (some ⟨p1, 0, none⟩), .int .i64 t, .int .i64 s] w (TwPost w B p1 p2 (n1 + 1) n2 (addT n1 ts1 t) ts2 (addN n1 ln1 (sizeM s)) ln2 (addF n1 f1 fun _ => 0) f2 x (.int .i64 n1)) := by
  obtain ⟨hB, L1, L2, ad1, ad2, cp1, cp2, hp, hx, h1, h2⟩ := h
  refine (add_s B p1 n1 L1 ts1 ad1 ln1 cp1 f1 t s w hp.a hn hB).mono ?_
  rintro e w' ⟨rfl, g, cap, a, haw, ⟨hb, hk, hg⟩, hm⟩
  refine tw_step hp hB hx h1 h2 hb hm.ms (fun b hbl hnf => hk b hbl (fun e => hnf (.inl e)) (fun e => hnf (.inr (.inl e)))) (fun x hx => ?_)
  rcases hx with hx | hx | ⟨i, hi, hx⟩
  · exact .inl (.inl hx)
  · have hx2 : g = x := by simpa [Value.ownBlock] using hx
    rcases hg with hg | hg
    · exact .inl (.inr (.inl (by rw [hg, hx2])))
    · exact .inr (by omega)
  · unfold addN at hx
    by_cases e : i = n1
    · rw [if_pos e] at hx; exact .inr (by omega)
    · rw [if_neg e] at hx; exact .inl (.inr (.inr ⟨i, by omega, hx⟩))
theorem add2_t {w : World} {B p1 p2 n1 n2 x : Nat} {ts1 ts2 : Nat → Int} {ln1 ln2 : Nat → Nat} {f1 f2 : Nat → Nat → Int} (h : Tw w B p1 p2 n1 n2 ts1 ts2 ln1 ln2 f1 f2 x) (hn : n2 ≤ 100000) (t s : Int) :
    Calls Try.prog 21 #[.pointer (some ⟨p2, 0, none⟩), .int .i64 t, .int .i64 s] w (TwPost w B p1 p2 n1 (n2 + 1) ts1 (addT n2 ts2 t) ln1 (addN n2 ln2 (sizeM s)) f1 (addF n2 f2 fun _ => 0) x (.int .i64 n2)) := by
  obtain ⟨hB, L1, L2, ad1, ad2, cp1, cp2, hp, hx, h1, h2⟩ := h.swap
  refine (radd_s B p2 n2 L1 ts2 ad1 ln2 cp1 f2 t s w hp.a hn hB).mono ?_
  rintro e w' ⟨rfl, g, cap, a, haw, ⟨hb, hk, hg⟩, hm⟩
  refine (tw_step hp hB hx h1 h2 hb hm.ms (fun b hbl hnf => hk b hbl (fun e => hnf (.inl e)) (fun e => hnf (.inr (.inl e)))) (fun x hx => ?_)).swap
  rcases hx with hx | hx | ⟨i, hi, hx⟩
  · exact .inl (.inl hx)
  · have hx2 : g = x := by simpa [Value.ownBlock] using hx
    rcases hg with hg | hg
    · exact .inl (.inr (.inl (by rw [hg, hx2])))
    · exact .inr (by omega)
  · unfold addN at hx
    by_cases e : i = n2
    · rw [if_pos e] at hx; exact .inr (by omega)
    · rw [if_neg e] at hx; exact .inl (.inr (.inr ⟨i, by omega, hx⟩))
theorem set1_t {w : World} {B p1 p2 n1 n2 x : Nat} {ts1 ts2 : Nat → Int} {ln1 ln2 : Nat → Nat} {f1 f2 : Nat → Nat → Int} (h : Tw w B p1 p2 n1 n2 ts1 ts2 ln1 ln2 f1 f2 x) (id at' v : Int) :
    Calls Try.prog 22 #[.pointer (some ⟨p1, 0, none⟩), .int .i64 id, .int .i64 at', .int .i64 v] w (TwPost w B p1 p2 n1 n2 ts1 ts2 ln1 ln2 (setM n1 ln1 ts1 f1 id at' v) f2 x (.bool (hasM n1 ln1 id at'))) := by
  obtain ⟨hB, L1, L2, ad1, ad2, cp1, cp2, hp, hx, h1, h2⟩ := h
  refine (set_s B p1 n1 L1 ts1 ad1 ln1 cp1 f1 id at' v w hp.a hB).mono ?_
  rintro e w' ⟨rfl, hb, hm, hk⟩
  exact tw_step hp hB hx h1 h2 hb hm (fun b hbl hnf => hk b hbl (fun i hi q => hnf (.inr (.inr ⟨i, hi, q⟩)))) (fun x hx => .inl hx)
theorem set2_t {w : World} {B p1 p2 n1 n2 x : Nat} {ts1 ts2 : Nat → Int} {ln1 ln2 : Nat → Nat} {f1 f2 : Nat → Nat → Int} (h : Tw w B p1 p2 n1 n2 ts1 ts2 ln1 ln2 f1 f2 x) (id at' v : Int) :
    Calls Try.prog 23 #[.pointer (some ⟨p2, 0, none⟩), .int .i64 id, .int .i64 at', .int .i64 v] w (TwPost w B p1 p2 n1 n2 ts1 ts2 ln1 ln2 f1 (setM n2 ln2 ts2 f2 id at' v) x (.bool (hasM n2 ln2 id at'))) := by
  obtain ⟨hB, L1, L2, ad1, ad2, cp1, cp2, hp, hx, h1, h2⟩ := h.swap
  refine (rset_s B p2 n2 L1 ts2 ad1 ln2 cp1 f2 id at' v w hp.a hB).mono ?_
  rintro e w' ⟨rfl, hb, hm, hk⟩
  exact (tw_step hp hB hx h1 h2 hb hm (fun b hbl hnf => hk b hbl (fun i hi q => hnf (.inr (.inr ⟨i, hi, q⟩)))) (fun x hx => .inl hx)).swap
def CopyTw (w : World) (B p2 n1 n2 : Nat) (ts1 ts2 : Nat → Int) (ln1 ln2 : Nat → Nat) (f1 f2 : Nat → Nat → Int) (x : Nat) (e : Ending) (w' : World) : Prop :=
  ∃ p, TwPost w B p p2 n1 n2 ts1 ts2 ln1 ln2 f1 f2 x (.pointer (some ⟨p, 0, none⟩)) e w'
def GetsTw (w : World) (p1 p2 : Nat) (id at' v : Int) (b : Bool) : Prop :=
  (Calls Try.prog 59 #[.pointer (some ⟨p1, 0, none⟩), .int .i64 id, .int .i64 at'] w fun e w' => e = .returned (.tuple #[.int .i64 v, .bool b]) ∧ w = w') ∧
  (Calls Try.prog 36 #[.pointer (some ⟨p2, 0, none⟩), .int .i64 id, .int .i64 at'] w fun e w' => e = .returned (.tuple #[.int .i64 v, .bool b]) ∧ w = w')
theorem get_t {w : World} {B p1 p2 n x : Nat} {ts : Nat → Int} {ln : Nat → Nat} {f : Nat → Nat → Int} (h : Tw w B p1 p2 n n ts ts ln ln f f x) (id at' : Int) : ∃ v b, GetsTw w p1 p2 id at' v b := by
  obtain ⟨hB, L1, L2, ad1, ad2, cp1, cp2, hp, _⟩ := h
  have c1 := get_s B p1 n L1 ts ad1 ln cp1 f id at' w hp.a
  have c2 := rget_s B p2 n L2 ts ad2 ln cp2 f id at' w hp.b
  by_cases hh : hasM n ln id at' = true
  · have e0 : getM n ln f id at' = .tuple #[.int .i64 (f id.toNat at'.toNat), .bool true] := if_pos hh
    rw [e0] at c1 c2
    exact ⟨_, _, c1, c2⟩
  · have e0 : getM n ln f id at' = .tuple #[.int .i64 0, .bool false] := if_neg hh
    rw [e0] at c1 c2
    exact ⟨_, _, c1, c2⟩
theorem TwP.cell2 {w : World} {B p1 p2 n : Nat} (h : TwP w B p1 p2 n) : ∃ ao cap, w.cell? ⟨p2, 0, none⟩ = some (.slice ao n cap) := by
  obtain ⟨hB, ts, ln, f, L1, L2, ad1, ad2, cp1, cp2, h⟩ := h
  obtain ⟨ao, cap, hL, _⟩ := h.b.own.form
  exact ⟨ao, cap, by rw [← hL]; exact h.b.cell⟩
end Go.Proofs.Ytlhenpocaagbjaa.C

namespace Go.Proofs.Ytlhenpocaagbjaa.C
open Go.RowKit
set_option linter.unusedSimpArgs false
set_option linter.unusedVariables false
def hasI (f : Nat → Int) (n : Nat) (v : Int) : Bool := decide (∃ j, j < n ∧ f j = v)
theorem hasI_spec (f : Nat → Int) (n : Nat) (v : Int) : hasI f n v = true ↔ ∃ j, j < n ∧ f j = v := by unfold hasI; simp
def eqI (f g : Nat → Int) (n m : Nat) : Bool := decide (n = m ∧ ∀ j, j < n → f j = g j)
def IdxPost (f : Nat → Int) (n : Nat) (v : Int) (w : World) (e : Ending) (w' : World) : Prop := ∃ i : Int, e = .returned (.int .i64 i) ∧ decide (0 ≤ i) = hasI f n v ∧ w = w'
/-- What Block says of an id, in every world further on. -/
def BlkPost (t : Int) (l : Nat) (f : Nat → Int) (b : Bool) (W : World) (e : Ending) (w' : World) : Prop := ∃ A c, e = .returned (.tuple #[.agg #[.int .i64 t, .slice A l c], .bool b]) ∧ RowC w' A l f ∧ Below W.heap.size W w'
/-- The first one that differs, and may not. -/
def chgM (ids : Nat → Int) (q : Nat) (may : Nat → Int) (r : Nat) (D : Int → Bool) : Int := match (List.range q).find? (fun i => !hasI may r (ids i) && D (ids i)) with | some i => ids i | none => -1
theorem chgM_none {ids : Nat → Int} {q : Nat} {may : Nat → Int} {r : Nat} {D : Int → Bool} (h : ∀ j, j < q → (!hasI may r (ids j) && D (ids j)) = false) : chgM ids q may r D = -1 := by
  unfold chgM
  have : (List.range q).find? (fun i => !hasI may r (ids i) && D (ids i)) = none := by
    rw [List.find?_eq_none]
    intro j hj
    rw [h j (List.mem_range.1 hj)]
    simp
  rw [this]
theorem find_range (P : Nat → Bool) {q k : Nat} (hk : k < q) (hP : P k = true) (h : ∀ j, j < k → P j = false) : (List.range q).find? P = some k := by
  rw [List.find?_range_eq_some]
  refine ⟨hP, List.mem_range.2 hk, fun j hj => ?_⟩
  rw [h j hj]; rfl
theorem chgM_at {ids : Nat → Int} {q k : Nat} {may : Nat → Int} {r : Nat} {D : Int → Bool} (hk : k < q) (h1 : hasI may r (ids k) = false) (h2 : D (ids k) = true) (h : ∀ j, j < k → (!hasI may r (ids j) && D (ids j)) = false) : chgM ids q may r D = ids k := by
  unfold chgM
  rw [find_range _ hk (by rw [h1, h2]; rfl) h]
end Go.Proofs.Ytlhenpocaagbjaa.C

namespace Go.Proofs.Ytlhenpocaagbjaa.C
open Go.RowKit
set_option linter.unusedSimpArgs false
set_option linter.unusedVariables false
/-- A box of a block: its type, its values. -/
def BkV (b : Nat) (wr : World) (t : Int) (A : Option Addr) (l c : Nat) : Prop := b < wr.heap.size ∧ (∀ o, wr.cell? ⟨b, o, none⟩ = [Value.int .i64 t, Value.slice A l c][o]?)
theorem BkV.below {b : Nat} {wr w' : World} {t : Int} {A : Option Addr} {l c : Nat} (h : BkV b wr t A l c) (hb : Below wr.heap.size wr w') : BkV b w' t A l c :=
  ⟨Nat.lt_of_lt_of_le h.1 hb.size, fun o => (hb.cell (p := ⟨b, o, none⟩) h.1).trans (h.2 o)⟩
theorem BkV.new (w : World) (T : TypeId) (t : Int) (A : Option Addr) (l c : Nat) : BkV w.heap.size (w.alloc (.cells #[.int .i64 t, .slice A l c] T)) t A l c := ⟨by simp, by intro o; simp [go_sem]⟩
/-- Two blocks differ. -/
def diffM (b1 b2 : Bool) (t1 t2 : Int) (f1 f2 : Nat → Int) (l1 l2 : Nat) : Bool := (b1 != b2) || !decide (t1 = t2) || !eqI f1 f2 l1 l2
end Go.Proofs.Ytlhenpocaagbjaa.C

namespace Go.Proofs.Ytlhenpocaagbjaa.C
open Go.RowKit
set_option linter.unusedSimpArgs false
set_option linter.unusedVariables false
/-- Two memories that have no block in common, and what may be one's: block x is p's, its slice's, a block's. -/
def footM (p : Nat) (L : Value) (n : Nat) (ad : Nat → Nat) (x : Nat) : Prop := x = p ∨ L.ownBlock = some x ∨ ∃ i, i < n ∧ ad i = x
theorem MS.footM_lt {w : World} {base p n : Nat} {L : Value} {ts : Nat → Int} {ad ln cp : Nat → Nat} {f : Nat → Nat → Int} (h : MS w base p L n ts ad ln cp f) (x : Nat) (hx : footM p L n ad x) : base ≤ x ∧ x < w.heap.size := by
  rcases hx with rfl | hx | ⟨i, hi, rfl⟩
  · exact h.hp
  · exact h.own.blk x hx
  · exact ⟨(h.hA i hi).1, (h.hA i hi).2.1⟩
/-- Only blocks beside the memory have turned. -/
theorem MS.apart {w w' : World} {base p n : Nat} {L : Value} {ts : Nat → Int} {ad ln cp : Nat → Nat} {f : Nat → Nat → Int} (hm : MS w base p L n ts ad ln cp f) (hs : w.heap.size ≤ w'.heap.size) (h : ∀ b, footM p L n ad b → w'.heap[b]? = w.heap[b]?) : MS w' base p L n ts ad ln cp f :=
  hm.keep hs (h p (.inl rfl)) (fun b e => h b (.inr (.inl e))) (fun i hi => h _ (.inr (.inr ⟨i, hi, rfl⟩)))
theorem MS.congr {w : World} {base p n : Nat} {L : Value} {ts ts' : Nat → Int} {ad ln ln' cp : Nat → Nat} {f f' : Nat → Nat → Int} (hm : MS w base p L n ts ad ln cp f) (h1 : ∀ i, i < n → ts i = ts' i) (h2 : ∀ i, i < n → ln i = ln' i) (h3 : ∀ i j, i < n → f i j = f' i j) : MS w base p L n ts' ad ln' cp f' :=
  ⟨hm.hp, hm.cell, hm.frz, by rw [← xsM_congr n (fun i hi => ⟨h1 i hi, rfl, h2 i hi, rfl⟩)]; exact hm.own, hm.hL, fun i hi => by rw [← h2 i hi]; exact hm.hA i hi, hm.inj, fun i j hi hj => by rw [← h3 i j hi]; exact hm.inner i j hi (by rw [h2 i hi]; exact hj), fun i j hi hj => hm.ifrz i j hi (by rw [h2 i hi]; exact hj)⟩
def bB (n : Nat) (id : Int) : Bool := decide (0 ≤ id ∧ id < n)
def tB (n : Nat) (ts : Nat → Int) (id : Int) : Int := if bB n id = true then ts id.toNat else 0
def lB (n : Nat) (ln : Nat → Nat) (id : Int) : Nat := if bB n id = true then ln id.toNat else 0
def fB (n : Nat) (f : Nat → Nat → Int) (id : Int) : Nat → Int := if bB n id = true then f id.toNat else fun _ => 0
def diffB (n1 n2 : Nat) (ts1 ts2 : Nat → Int) (ln1 ln2 : Nat → Nat) (f1 f2 : Nat → Nat → Int) (id : Int) : Bool := diffM (bB n1 id) (bB n2 id) (tB n1 ts1 id) (tB n2 ts2 id) (fB n1 f1 id) (fB n2 f2 id) (lB n1 ln1 id) (lB n2 ln2 id)
theorem diffB_same (n : Nat) (ts : Nat → Int) (ln : Nat → Nat) (f : Nat → Nat → Int) (id : Int) : diffB n n ts ts ln ln f f id = false := by
  unfold diffB diffM
  have : eqI (fB n f id) (fB n f id) (lB n ln id) (lB n ln id) = true := decide_eq_true ⟨rfl, fun _ _ => rfl⟩
  rw [this]; simp
theorem diffB_at (n : Nat) (ts : Nat → Int) (ln : Nat → Nat) (f1 f2 : Nat → Nat → Int) (i : Nat) (hi : i < n) : diffB n n ts ts ln ln f1 f2 (i : Int) = !eqI (f1 i) (f2 i) (ln i) (ln i) := by
  have hb : bB n (i : Int) = true := decide_eq_true ⟨by omega, by omega⟩
  have hl : lB n ln (i : Int) = ln i := by unfold lB; rw [if_pos hb]; simp
  have hf1 : fB n f1 (i : Int) = f1 i := by unfold fB; rw [if_pos hb]; simp
  have hf2 : fB n f2 (i : Int) = f2 i := by unfold fB; rw [if_pos hb]; simp
  unfold diffB diffM
  rw [hl, hf1, hf2]; simp
/-- A memory, and a row of the first ids, apart. -/
def MI (w : World) (base p k : Nat) (L v : Value) (ts : Nat → Int) (ad ln cp : Nat → Nat) (f : Nat → Nat → Int) : Prop :=
  MS w base p L k ts ad ln cp f ∧ w.ownsRow base 3 1 v k ((List.range k).map fun j : Nat => Value.int .i64 (j : Int)) ∧ ∀ x, v.ownBlock = some x → ¬ footM p L k ad x
theorem MI.below {w w' : World} {base p k : Nat} {L v : Value} {ts : Nat → Int} {ad ln cp : Nat → Nat} {f : Nat → Nat → Int} (h : MI w base p k L v ts ad ln cp f) (hb : Below w.heap.size w w') : MI w' base p k L v ts ad ln cp f := ⟨h.1.below hb, own_below h.2.1 hb, h.2.2⟩
theorem own_kept {w w' : World} {base : Nat} {e : TypeId} {size : Nat} {v : Value} {n : Nat} {xs : List Value} (h : w.ownsRow base e size v n xs) (hk : ∀ x, v.ownBlock = some x → w'.heap[x]? = w.heap[x]?) : w'.ownsRow base e size v n xs := by
  obtain ⟨h1, h2⟩ := h
  refine ⟨h1, ?_⟩
  rcases h2 with h2 | ⟨g, cap, cur, rfl, hg, hh, r⟩
  · exact .inl h2
  · exact .inr ⟨g, cap, cur, rfl, hg, (hk g rfl).trans hh, r⟩
/-- Another block; the row is as it was: its first k ids. -/
theorem MI.add {w w' : World} {base p k : Nat} {L v : Value} {ts : Nat → Int} {ad ln cp : Nat → Nat} {f : Nat → Nat → Int} {t s : Int} {e : Ending} (h : MI w base p k L v ts ad ln cp f) (ha : AddedS w base p k L ts ad ln cp f t s e w') :
    e = .returned (.int .i64 k) ∧ Below base w w' ∧ ∃ L' ad' cp', MS w' base p L' (k + 1) (addT k ts t) ad' (addN k ln (sizeM s)) cp' (addF k f fun _ => 0) ∧ w'.ownsRow base 3 1 v k ((List.range k).map fun j : Nat => Value.int .i64 (j : Int)) ∧ ∀ x, v.ownBlock = some x → x < w.heap.size ∧ ¬ footM p L' (k + 1) ad' x := by
  obtain ⟨he, g, cap, a, hav, ⟨hb, hk, hg⟩, hm⟩ := ha
  refine ⟨he, hb, _, _, _, hm.ms, own_kept h.2.1 (fun x hx => ?_), fun x hx => ?_⟩
  · have hl := (own_blk h.2.1 x hx).2
    exact hk x hl (fun e => h.2.2 x hx (.inl e)) (fun e => h.2.2 x hx (.inr (.inl e)))
  · have hl := (own_blk h.2.1 x hx).2
    refine ⟨hl, ?_⟩
    rintro (e | e | ⟨i, hi, e⟩)
    · exact h.2.2 x hx (.inl e)
    · have e2 : g = x := by simpa [Value.ownBlock] using e
      rcases hg with hg | hg
      · exact h.2.2 x hx (.inr (.inl (by rw [hg, e2])))
      · omega
    · unfold addN at e
      by_cases c : i = k
      · rw [if_pos c] at e; omega
      · rw [if_neg c] at e; exact h.2.2 x hx (.inr (.inr ⟨i, by omega, e⟩))
/-- .. and the id behind the row. -/
theorem MI.snoc {w w2 : World} {base p k : Nat} {L v v2 : Value} {ts : Nat → Int} {ad ln cp : Nat → Nat} {f : Nat → Nat → Int} {o : Obj} (hm : MS w base p L (k + 1) ts ad ln cp f) (hx : ∀ x, v.ownBlock = some x → ¬ footM p L (k + 1) ad x)
    (hown : w2.ownsRow base 3 1 v2 (k + 1) (((List.range k).map fun j : Nat => Value.int .i64 (j : Int)) ++ [.int .i64 (k : Int)])) (hg : (w.alloc o).grownBy w2 v.ownBlock)
    (hat : v2.ownBlock = v.ownBlock ∨ v2.ownBlock = some (w.alloc o).heap.size) : MI w2 base p (k + 1) L v2 ts ad ln cp f := by
  have hsz : (w.alloc o).heap.size = w.heap.size + 1 := by simp
  refine ⟨hm.apart (by have := hg.size; omega) (fun b hb => ?_), ?_, fun x hx2 => ?_⟩
  · have hl := (hm.footM_lt b hb).2
    exact (hg.block b (by omega) (fun e => hx b e.symm hb)).trans (Below.heap_alloc w o b hl)
  · rw [List.range_succ, List.map_append, List.map_cons, List.map_nil]
    exact hown
  · rcases hat with hat | hat
    · rw [hat] at hx2; exact hx x hx2
    · rw [hat] at hx2
      injection hx2 with hx2
      intro hf
      have := (hm.footM_lt x hf).2
      omega
theorem MI.row {w : World} {base p k : Nat} {L v : Value} {ts : Nat → Int} {ad ln cp : Nat → Nat} {f : Nat → Nat → Int} (h : MI w base p k L v ts ad ln cp f) (hk : 1 ≤ k) (hk2 : k ≤ 1000) : ∃ A c, v = .slice A k c ∧ RowC w A k (fun j => (j : Int)) := by
  obtain ⟨g, cap, rfl, _, _, _, hc, _⟩ := own_row (f := fun j : Nat => Value.int .i64 (j : Int)) h.2.1 hk
  exact ⟨_, cap, rfl, by omega, fun _ => ⟨_, rfl, fun j hj => by rw [m_plain]; exact hc j hj⟩⟩
end Go.Proofs.Ytlhenpocaagbjaa.C

namespace Go.Proofs.Ytlhenpocaagbjaa.C
open Go.RowKit
set_option linter.unusedSimpArgs false
set_option linter.unusedVariables false
end Go.Proofs.Ytlhenpocaagbjaa.C

namespace Go.Proofs.Ytlhenpocaagbjaa.C
open Go.RowKit
set_option linter.unusedSimpArgs false
set_option linter.unusedVariables false
def nT (i : Nat) : Int := if i = 0 then 5 else if i = 1 then 2 else if i = 2 then 6 else 3
def nS (i : Nat) : Int := if i = 3 then 4 else 0
/-- The names' types and sizes lie there. -/
def NmAt (w : World) (g : Nat) : Prop := g < w.heap.size ∧ ∀ i, i < 4 → w.cell? ⟨g, i * 4 + 1, none⟩ = some (.int .i64 (nT i)) ∧ w.cell? ⟨g, i * 4 + 2, none⟩ = some (.int .i64 (nS i))
theorem NmAt.kept {w w' : World} {g : Nat} (h : NmAt w g) (hs : w.heap.size ≤ w'.heap.size) (hk : w'.heap[g]? = w.heap[g]?) : NmAt w' g :=
  ⟨Nat.lt_of_lt_of_le h.1 hs, fun i hi => ⟨(m_kept (p := ⟨g, i * 4 + 1, none⟩) hk).trans (h.2 i hi).1, (m_kept (p := ⟨g, i * 4 + 2, none⟩) hk).trans (h.2 i hi).2⟩⟩
theorem NmAt.below {w w' : World} {g : Nat} (h : NmAt w g) (hb : Below w.heap.size w w') : NmAt w' g := h.kept hb.size (hb.block g h.1)
theorem names_c (w : World) : Calls Try.prog 11 #[] w fun e w' => e = .returned (.slice (some ⟨w.heap.size, 0, none⟩) 4 4) ∧ NmAt w' w.heap.size ∧ Below w.heap.size w w' := by
  go_enter Try.func11, Try.ntmps11
  go_wp2
  go_ret
  refine ⟨rfl, ⟨by simp, fun i hi => ?_⟩, (by repeat' (first | exact Below.refl _ _ | (refine Below.alloc ?_ ?_ _) | (refine Below.setCell ?_ ?_ _) | (refine Below.drew ?_) | (refine below_next ?_ ?_ (by assumption)) | omega | (simp; done) | (simp; omega)))⟩
  match i, hi with
  | 0, _ => simp [go_sem, nT, nS]
  | 1, _ => simp [go_sem, nT, nS]
  | 2, _ => simp [go_sem, nT, nS]
  | 3, _ => simp [go_sem, nT, nS]
def BothPost (w : World) (e : Ending) (w' : World) : Prop := ∃ p1 p2, e = .returned (.tuple #[.pointer (some ⟨p1, 0, none⟩), .pointer (some ⟨p2, 0, none⟩), .bool true]) ∧ Below w.heap.size w w' ∧ TwP w' w.heap.size p1 p2 4
/-- Two memories alike, and the names. -/
def BoS (w wr : World) (p1 p2 i g : Nat) : Prop := Below w.heap.size w wr ∧ NmAt wr g ∧ ∃ ts ln f, Tw wr w.heap.size p1 p2 i i ts ts ln ln f f g
theorem BoS.below {w wr w' : World} {p1 p2 i g : Nat} (h : BoS w wr p1 p2 i g) (hb : Below wr.heap.size wr w') : BoS w w' p1 p2 i g := by
  obtain ⟨h1, h2, ts, ln, f, h3⟩ := h
  exact ⟨below_next h1 h1.size hb, h2.below hb, ts, ln, f, h3.below hb⟩
set_option maxRecDepth 100000 in
set_option maxHeartbeats 12800000 in
theorem both_c (A : Option Addr) (n cap : Nat) (vs : Nat → Int) (w : World) (hA : RowC w A n vs) :
    Calls Try.prog 10 #[.slice A n cap] w (BothPost w) := by
  have hmax := hA.1
  have HA := Lib.hid hA
  clear hA
  go_enter Try.func10, Try.ntmps10
  go_upto_region 2 with (go_at_call 19; refine (new_c _).mono ?_; rintro e w1 ⟨rfl, hb1, hm1⟩)
  have hs1 := hb1.size
  have HP : Below w.heap.size w (w1.alloc (.cells #[.slice none 0 0] 62)) ∧ TwP (w1.alloc (.cells #[.slice none 0 0] 62)) w.heap.size w.heap.size w1.heap.size 0 := by
    have hba := (Below.refl w1.heap.size w1).alloc (Nat.le_refl _) (.cells #[.slice none 0 0] 62)
    have hlt := hm1.hp.2
    refine ⟨hb1.alloc hs1 _, by simp; omega, fun _ => 0, fun _ => 0, fun _ _ => 0, .slice none 0 0, .slice none 0 0, fun _ => 0, fun _ => 0, fun _ => 0, fun _ => 0, hm1.ms.below hba, ⟨⟨hs1, by simp⟩, by simp [go_sem], by simp [go_sem], .inl ⟨rfl, .inl ⟨rfl, rfl⟩⟩, by simp [Value.ownBlock], by intros; omega, by intros; omega, by intros; omega, by intros; omega⟩, fun x h1 h2 => ?_⟩
    rcases h1 with h1 | h1 | ⟨i, hi, _⟩
    · rcases h2 with h2 | h2 | ⟨i, hi, _⟩
      · omega
      · simp [Value.ownBlock] at h2
      · omega
    · simp [Value.ownBlock] at h1
    · omega
  refine at_world (fun W => Hid (Below w.heap.size w W ∧ TwP W w.heap.size w.heap.size w1.heap.size 0)) (Lib.hid HP) ?_
  obtain ⟨p2, hp2⟩ : ∃ b, w1.heap.size = b := ⟨_, rfl⟩
  simp only [hp2]
  clear hm1 hb1 HP hs1 hp2 w1
  intro W0 H0
  go_upto_region 5 with (go_at_call 11; refine (names_c _).mono ?_; rintro e w2 ⟨rfl, hn, hb2⟩)
  have HT := H0.out.2.fresh hb2 hn.1
  refine at_world (fun W => Hid (BoS w W w.heap.size p2 0 W0.heap.size)) (Lib.hid ⟨below_next H0.out.1 H0.out.1.size hb2, hn, HT⟩) ?_
  obtain ⟨g, hg⟩ : ∃ b, W0.heap.size = b := ⟨_, rfl⟩
  simp only [hg]
  clear HT hb2 hn hg H0 w2 W0
  intro W1 H1
  go_wp2_with fail
  go_loopw [8, 9] (fun kk v wr => ∃ (i k : Nat), i ≤ 4 ∧ k ≤ n ∧ v = .int .i64 i ∧ kk = .int .i64 k ∧ Hid (BoS w wr w.heap.size p2 i g)) (fun _ v _ => 4 - (intOf v).toNat)
  case atStart => exact ⟨0, 0, by omega, by omega, rfl, rfl, H1⟩
  case round =>
    clear H1
    obtain ⟨i, k, hi, hk, rfl, rfl, HI⟩ := hrel
    obtain ⟨wo, rfl⟩ : ∃ wo : World, wo = wr := ⟨_, rfl⟩
    by_cases hlt : i < 4
    · have hi0 : (0 : Int) ≤ (i : Int) := by omega
      have hi1 : (i : Int) < 4 := by omega
      obtain ⟨q1, q2⟩ := HI.out.2.1.2 i hlt
      have hnS : 0 ≤ nS i ∧ nS i ≤ 4 := by unfold nS; split <;> omega
      obtain ⟨t, ht⟩ : ∃ x, nT i = x := ⟨_, rfl⟩
      obtain ⟨s, hs⟩ : ∃ x, nS i = x := ⟨_, rfl⟩
      rw [ht] at q1
      rw [hs] at q2 hnS
      obtain ⟨m, hm⟩ : ∃ m : Nat, (if 1 < s then s else 1) = (m : Int) := ⟨(max 1 s).toNat, by split <;> omega⟩
      have HQ : Hid (∀ W, NmAt W g → W.cell? ⟨g, i * 4 + 1, none⟩ = some (.int .i64 t) ∧ W.cell? ⟨g, i * 4 + 2, none⟩ = some (.int .i64 s)) := Lib.hid (fun W h => by have := h.2 i hlt; rwa [ht, hs] at this)
      clear ht hs
      obtain ⟨ts, ln, f, htw⟩ := HI.out.2.2
      have HT := Lib.hid htw
      clear htw
      have d1 := fun (x' : WIn (Below wo.heap.size wo)) => cell_later x'.h q1
      have d2 := fun (x' : WIn (Below wo.heap.size wo)) => cell_later x'.h q2
      clear q1 q2
      go_upto_region 9 with fail
      refine region_tail 12 (Below wo.heap.size wo) (by kernel_rfl) (by kernel_rfl) (Below.refl _ _).drew (fun inst => ?_)
      simp only [List.take_succ_cons, List.take_zero, List.drop_succ_cons, List.drop_zero]
      iterate 12 (go_big_quiet_step (fail))
      refine wpQuiet_nil ?_
      intro wd hbd
      have HT1 := Lib.hid (HT.out.below hbd)
      have HN1 := Lib.hid (And.intro (below_next HI.out.1 HI.out.1.size hbd) (HI.out.2.1.below hbd))
      clear HI HT d1 d2
      go_upto_region 10 with (go_at_call 20; refine (add1_t HT1.out (by omega) t (m : Int)).mono ?_; rintro e w3 ⟨rfl, hb3, hx3, htw3⟩)
      refine at_world (fun W => Hid (Below w.heap.size w W ∧ NmAt W g ∧ Tw W w.heap.size w.heap.size p2 (i + 1) i (addT i ts t) ts (addN i ln (sizeM (m : Int))) ln (addF i f fun _ => 0) f g)) (Lib.hid ⟨HN1.out.1.trans hb3, HN1.out.2.kept hb3.size hx3, htw3⟩) ?_
      clear hb3 hx3 htw3 HT1 HN1 w3 hbd wd
      intro W2 H2
      obtain ⟨q1, q2⟩ := HQ.out W2 H2.out.2.1
      have d1 := fun (x' : WIn (Below W2.heap.size W2)) => cell_later x'.h q1
      have d2 := fun (x' : WIn (Below W2.heap.size W2)) => cell_later x'.h q2
      clear q1 q2
      refine region_tail 12 (Below W2.heap.size W2) (by kernel_rfl) (by kernel_rfl) (Below.refl _ _).drew (fun inst => ?_)
      simp only [List.take_succ_cons, List.take_zero, List.drop_succ_cons, List.drop_zero]
      iterate 12 (go_big_quiet_step (fail))
      refine wpQuiet_nil ?_
      intro wd hbd
      have HT1 := Lib.hid (H2.out.2.2.below hbd)
      have HN1 := Lib.hid (And.intro (below_next H2.out.1 H2.out.1.size hbd) (H2.out.2.1.below hbd))
      clear H2 d1 d2
      go_upto_region 11 with (go_at_call 21; refine (add2_t HT1.out (by omega) t (m : Int)).mono ?_; rintro e w3 ⟨rfl, hb3, hx3, htw3⟩)
      refine at_world (fun W => Hid (BoS w W w.heap.size p2 (i + 1) g)) (Lib.hid ⟨HN1.out.1.trans hb3, HN1.out.2.kept hb3.size hx3, _, _, _, htw3⟩) ?_
      clear hb3 hx3 htw3 HT1 HN1 w3 hbd wd
      intro W3 H3
      go_wp2_with fail
      go_loopw [8, 10] (fun kk v wr => ∃ (j k : Nat), j ≤ m ∧ k ≤ n ∧ v = .int .i64 j ∧ kk = .int .i64 k ∧ Hid (BoS w wr w.heap.size p2 (i + 1) g)) (fun _ v _ => m - (intOf v).toNat)
      case atStart => exact ⟨0, k, by omega, hk, rfl, rfl, H3⟩
      case round =>
        clear H3 hk
        obtain ⟨j, k, hj, hk, rfl, rfl, HJ⟩ := hrel
        obtain ⟨wi, rfl⟩ : ∃ wi : World, wi = wr := ⟨_, rfl⟩
        obtain ⟨q1, q2⟩ := HQ.out wi HJ.out.2.1
        by_cases hjm : j < m
        · have hj0 : (0 : Int) ≤ (j : Int) := by omega
          have hj1 : (j : Int) < (m : Int) := by omega
          have gj : decide ((j : Int) < (m : Int)) = true := decide_eq_true hj1
          by_cases hkn : k < n
          · have hk0 : (0 : Int) ≤ (k : Int) := by omega
            have hk1 : (k : Int) < (n : Int) := by omega
            have gk : decide ((k : Int) < (n : Int)) = true := decide_eq_true hk1
            obtain ⟨a, rfl, ha⟩ := (HA.out.below HJ.out.1).2 (by omega)
            have c0 := ha k hkn
            clear ha
            obtain ⟨v, hv⟩ : ∃ x, vs k = x := ⟨_, rfl⟩
            rw [hv] at c0
            have HV := Lib.hid hv
            clear hv
            obtain ⟨ts', ln', f', htw⟩ := HJ.out.2.2
            have HT := Lib.hid htw
            clear htw
            go_upto_region 15 with (go_at_call 22; refine (set1_t HT.out i j v).mono ?_; rintro e w3 ⟨rfl, hb3, hx3, htw3⟩)
            refine at_world (fun W => Hid (Below w.heap.size w W ∧ NmAt W g ∧ Tw W w.heap.size w.heap.size p2 (i + 1) (i + 1) ts' ts' ln' ln' (setM (i + 1) ln' ts' f' i j v) f' g) ∧ W.cell? (a.add k) = some (.int .i64 v)) ⟨Lib.hid ⟨HJ.out.1.trans hb3, HJ.out.2.1.kept hb3.size hx3, htw3⟩, ?_⟩ ?_
            · obtain ⟨a', e', ha'⟩ := (HA.out.below (HJ.out.1.trans hb3)).2 (by omega)
              injection e' with e'
              subst e'
              have := ha' k hkn
              rwa [HV.out] at this
            clear hb3 hx3 htw3 w3 c0 q1 q2 HT
            intro W4 ⟨H4, c0⟩
            have HT := Lib.hid H4.out.2.2
            go_upto_region 16 with (go_at_call 23; refine (set2_t HT.out i j v).mono ?_; rintro e w3 ⟨rfl, hb3, hx3, htw3⟩)
            have H5 : Hid (BoS w w3 w.heap.size p2 (i + 1) g) := Lib.hid ⟨H4.out.1.trans hb3, H4.out.2.1.kept hb3.size hx3, _, _, _, htw3⟩
            clear hb3 hx3 htw3 c0 HT H4 HJ
            go_wp2_with fail
            all_goals exact ⟨⟨j + 1, k + 1, by omega, by omega, by go_num, by go_num, H5⟩, by simp [intOf]; omega⟩
          · have gk : decide ((k : Int) < (n : Int)) = false := decide_eq_false (by omega)
            have gk' : decide (k < n) = false := decide_eq_false hkn
            go_wp2_with fail
            all_goals exact ⟨⟨i + 1, k, by omega, hk, by go_num, rfl, HJ⟩, by simp [intOf]; omega⟩
        · have gj : decide ((j : Int) < (m : Int)) = false := decide_eq_false (by omega)
          have gj' : decide (j < m) = false := decide_eq_false hjm
          go_wp2_with fail
          all_goals exact ⟨⟨i + 1, k, by omega, hk, by go_num, rfl, HJ⟩, by simp [intOf]; omega⟩
    · obtain rfl : i = 4 := by omega
      clear hi hlt
      go_wp2_with fail
      go_ret3
      obtain ⟨h1, h2, ts, ln, f, h3⟩ := HI.out
      exact ⟨_, _, rfl, h1, h3.twin⟩
end Go.Proofs.Ytlhenpocaagbjaa.C

