/- The reference's last (the last bind of a name): walk. -/
import Derived.Test.YtlhenpocaagbjaaLexMem
import Derived.OwnWalk
import Derived.Deep.CutBlock
namespace Go.Proofs.Ytlhenpocaagbjaa.C
open Go.RowKit
set_option linter.unusedSimpArgs false
set_option linter.unusedVariables false
/-- A bind. -/
structure Bd where
  nm : ByteArray
  t : Int
  size : Int
  id : Int
def bd0 : Bd := ⟨ByteArray.empty, 0, 0, 0⟩
def bdV (b : Bd) : Value := .agg #[.string b.nm, .int .i64 b.t, .int .i64 b.size, .int .i64 b.id]
/-- A row of binds that is read. -/
def BL (w : World) (g : Nat) (bs : List Bd) : Prop := g < w.heap.size ∧ ∀ j b, bs[j]? = some b → w.cell? ⟨g, j * 4, none⟩ = some (.string b.nm) ∧ w.cell? ⟨g, j * 4 + 1, none⟩ = some (.int .i64 b.t) ∧ w.cell? ⟨g, j * 4 + 2, none⟩ = some (.int .i64 b.size) ∧ w.cell? ⟨g, j * 4 + 3, none⟩ = some (.int .i64 b.id)
theorem BL.below {w w' : World} {g : Nat} {bs : List Bd} (h : BL w g bs) (hb : Below w.heap.size w w') : BL w' g bs := by
  refine ⟨by have := hb.size; have := h.1; omega, fun j b hj => ?_⟩
  obtain ⟨c0, c1, c2, c3⟩ := h.2 j b hj
  exact ⟨(hb.cell (p := ⟨g, j * 4, none⟩) h.1).trans c0, (hb.cell (p := ⟨g, j * 4 + 1, none⟩) h.1).trans c1, (hb.cell (p := ⟨g, j * 4 + 2, none⟩) h.1).trans c2, (hb.cell (p := ⟨g, j * 4 + 3, none⟩) h.1).trans c3⟩
/-- The last one of a name among the first k. -/
def lastB (bs : List Bd) (nm : ByteArray) : Nat → Option Bd
  | 0 => none
  | k + 1 => if ((bs.getD k bd0).nm.toList == nm.toList) = true then some (bs.getD k bd0) else lastB bs nm k
def lastV (o : Option Bd) : Value := .tuple #[bdV (o.getD bd0), .bool o.isSome]
set_option maxHeartbeats 3200000 in
theorem last_c (g c : Nat) (bs : List Bd) (nm : ByteArray) (w : World) (h : BL w g bs) (hn : bs.length ≤ 100000) :
    Calls Try.prog 40 #[.slice (some ⟨g, 0, none⟩) bs.length c, .string nm] w fun e w' => e = .returned (lastV (lastB bs nm bs.length)) ∧ Below w.heap.size w w' := by
  obtain ⟨n, hn'⟩ : ∃ n, bs.length = n := ⟨_, rfl⟩
  rw [hn'] at hn ⊢
  have HB := Lib.hid h.2
  have hg : g ≠ w.heap.size := by have := h.1; omega
  have hgl := h.1
  obtain ⟨R, hR⟩ : ∃ R, lastB bs nm n = R := ⟨_, rfl⟩
  rw [hR]
  have HR := Lib.hid hR
  have e1 : IntKind.i64.wrap ((n : Int) - 1) = (n : Int) - 1 := IntWalk.i64_in _ (by omega)
  have HN := Lib.hid hn'
  clear h hR hn'
  go_enter Try.func40, Try.ntmps40
  go_upto_region 2 with fail
  refine at_world (fun W => Below w.heap.size w W ∧ W.heap.size = w.heap.size + 1 ∧ (∀ o : Nat, W.frozen? ⟨w.heap.size, o, none⟩ = false) ∧ W.cell? ⟨w.heap.size, 0, none⟩ = some (.string ⟨#[]⟩) ∧ W.cell? ⟨w.heap.size, 1, none⟩ = some (.int .i64 0) ∧ W.cell? ⟨w.heap.size, 2, none⟩ = some (.int .i64 0) ∧ W.cell? ⟨w.heap.size, 3, none⟩ = some (.int .i64 0)) ⟨(by repeat' (first | exact Below.refl _ _ | (refine Below.alloc ?_ ?_ _) | (refine Below.setCell ?_ ?_ _) | (refine Below.drew ?_) | (refine below_next ?_ ?_ (by assumption)) | omega | (simp; done) | (simp; omega))), by simp, by intro o; simp [go_sem], by simp [go_sem], by simp [go_sem], by simp [go_sem], by simp [go_sem]⟩ ?_
  intro W1 ⟨hb1, hz1, hf, k0, k1, k2, k3⟩
  obtain ⟨D, hD⟩ : ∃ D, w.heap.size = D := ⟨_, rfl⟩
  have HB1 := Lib.hid hb1
  have HD := Lib.hid hD
  simp only [hD] at hf k0 k1 k2 k3 ⊢
  clear hb1 hD hz1
  go_wp2_with fail
  go_loop [6] (fun i => ∃ k : Nat, k ≤ n ∧ i = .int .i64 ((k : Int) - 1) ∧ Hid (lastB bs nm k = R)) (fun i => (intOf i + 1).toNat)
  case atStart => exact ⟨n, Nat.le_refl _, rfl, HR⟩
  case round =>
    obtain ⟨k, hk, rfl, HK⟩ := hrel
    cases k with
    | zero =>
      have HRn : Hid (R = none) := Lib.hid HK.out.symm
      have q0 : ¬ (0 : Int) ≤ ((0 : Nat) : Int) - 1 := by omega
      have HFin : Hid (Below w.heap.size w ((((W1.setCell ⟨D, 0, none⟩ (.string ⟨#[]⟩)).setCell ⟨D, 1, none⟩ (.int .i64 0)).setCell ⟨D, 2, none⟩ (.int .i64 0)).setCell ⟨D, 3, none⟩ (.int .i64 0))) := Lib.hid (by
        have := HD.out
        subst this
        exact (((HB1.out.setCell (p := ⟨w.heap.size, 0, none⟩) (Nat.le_refl _) _).setCell (p := ⟨w.heap.size, 1, none⟩) (Nat.le_refl _) _).setCell (p := ⟨w.heap.size, 2, none⟩) (Nat.le_refl _) _).setCell (p := ⟨w.heap.size, 3, none⟩) (Nat.le_refl _) _)
      clear HK
      go_wp2_with fail
      exact bodyPost_ret (v := .tuple #[.agg #[.string ⟨#[]⟩, .int .i64 0, .int .i64 0, .int .i64 0], .bool false]) (by simp [results, Try.results40, go_sem, *]) rfl ⟨by rw [HRn.out]; rfl, HFin.out⟩
    | succ k =>
      have q0 : (0 : Int) ≤ ((k + 1 : Nat) : Int) - 1 := by omega
      have q1 : ((k + 1 : Nat) : Int) - 1 = (k : Int) := by omega
      have q2 : (k : Int) < (n : Int) := by omega
      have q3 : k < n := by omega
      have hkl : k < bs.length := by rw [HN.out]; omega
      have hget : bs[k]? = some (bs.getD k bd0) := by simp [List.getD, hkl]
      obtain ⟨c0, c1, c2, c3⟩ := HB.out k _ hget
      have c0 := cell_later HB1.out c0
      have c1 := cell_later HB1.out c1
      have c2 := cell_later HB1.out c2
      have c3 := cell_later HB1.out c3
      have hlb : lastB bs nm (k + 1) = if ((bs.getD k bd0).nm.toList == nm.toList) = true then some (bs.getD k bd0) else lastB bs nm k := rfl
      have hK := HK.out
      rw [hlb] at hK
      obtain ⟨b, hb⟩ : ∃ b, bs.getD k bd0 = b := ⟨_, rfl⟩
      rw [hb] at c0 c1 c2 c3 hK
      obtain ⟨x, t, sz, id⟩ := b
      simp only at c0 c1 c2 c3 hK
      obtain ⟨q, hq⟩ : ∃ q, (x.toList == nm.toList) = q := ⟨_, rfl⟩
      rw [hq] at hK
      clear HK hget hlb hb hkl
      cases q
      · have HK2 : Hid (lastB bs nm k = R) := Lib.hid hK
        clear hK
        go_wp2_with fail
        exact ⟨⟨k, by omega, by first | rfl | go_num | (congr 1; omega), HK2⟩, by simp [intOf]⟩
      · have HRs : Hid (R = some ⟨x, t, sz, id⟩) := Lib.hid hK.symm
        have HFin : Hid (Below w.heap.size w ((((W1.setCell ⟨D, 0, none⟩ (.string x)).setCell ⟨D, 1, none⟩ (.int .i64 t)).setCell ⟨D, 2, none⟩ (.int .i64 sz)).setCell ⟨D, 3, none⟩ (.int .i64 id))) := Lib.hid (by
          have := HD.out
          subst this
          exact (((HB1.out.setCell (p := ⟨w.heap.size, 0, none⟩) (Nat.le_refl _) _).setCell (p := ⟨w.heap.size, 1, none⟩) (Nat.le_refl _) _).setCell (p := ⟨w.heap.size, 2, none⟩) (Nat.le_refl _) _).setCell (p := ⟨w.heap.size, 3, none⟩) (Nat.le_refl _) _)
        clear hK
        go_wp2_with fail
        exact bodyPost_ret (v := .tuple #[.agg #[.string x, .int .i64 t, .int .i64 sz, .int .i64 id], .bool true]) (by simp [results, Try.results40, go_sem, *]) rfl ⟨by rw [HRs.out]; rfl, HFin.out⟩
end Go.Proofs.Ytlhenpocaagbjaa.C
