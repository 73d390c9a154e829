/- state.Types, r1.Digits (of a digit), l18.Layout: walks. -/
import Derived.Test.YtdmphpkiclfhhaaSt3
namespace Go.Proofs.Ytdmphpkiclfhhaa.C
open Go.RowKit
set_option linter.unusedSimpArgs false
set_option linter.unusedVariables false
attribute [local go_sem] fieldItv0 fieldItv1
/-- A row of binds that is read. -/
def BR (w : World) (A : Option Addr) (n : Nat) (nm : Nat → ByteArray) (ts sz id : Nat → Int) : Prop :=
  n ≤ 9223372036854775807 ∧ (0 < n → ∃ ad : Addr, A = some ad ∧ ad.block < w.heap.size ∧ ∀ i, i < n → w.cell? (ad.add (i * 4)) = some (.string (nm i)) ∧ w.cell? (ad.add (i * 4 + 1)) = some (.int .i64 (ts i)) ∧ w.cell? (ad.add (i * 4 + 2)) = some (.int .i64 (sz i)) ∧ w.cell? (ad.add (i * 4 + 3)) = some (.int .i64 (id i)))
theorem BR.below {w w' : World} {A : Option Addr} {n : Nat} {nm : Nat → ByteArray} {ts sz id : Nat → Int} (h : BR w A n nm ts sz id) (hb : Below w.heap.size w w') : BR w' A n nm ts sz id :=
  ⟨h.1, fun h0 => by
    obtain ⟨ad, e, hl, hc⟩ := h.2 h0
    exact ⟨ad, e, Nat.lt_of_lt_of_le hl hb.size, fun i hi => ⟨cell_later hb (hc i hi).1, cell_later hb (hc i hi).2.1, cell_later hb (hc i hi).2.2.1, cell_later hb (hc i hi).2.2.2⟩⟩⟩
theorem BR.at {w : World} {A : Option Addr} {n : Nat} {nm : Nat → ByteArray} {ts sz id : Nat → Int} (h : BR w A n nm ts sz id) {k : Nat} (hk : k < n) :
    ∃ ad : Addr, A = some ad ∧ ad.block < w.heap.size ∧ w.cell? (ad.add (k * 4)) = some (.string (nm k)) ∧ w.cell? { block := (ad.add (k * 4)).block, off := (ad.add (k * 4)).off + 1 } = some (.int .i64 (ts k)) ∧ w.cell? { block := (ad.add (k * 4)).block, off := (ad.add (k * 4)).off + 2 } = some (.int .i64 (sz k)) ∧ w.cell? { block := (ad.add (k * 4)).block, off := (ad.add (k * 4)).off + 3 } = some (.int .i64 (id k)) := by
  obtain ⟨ad, e, hl, hc⟩ := h.2 (by omega)
  obtain ⟨h0, h1, h2, h3⟩ := hc k hk
  rw [← Go.Deep.add_add] at h1 h2 h3
  exact ⟨ad, e, hl, h0, h1, h2, h3⟩
theorem st_int (W : World) (x : Int) (t : TypeId) : ∀ j u, ([Value.int .i64 x] : List Value)[j]? = some u → (W.alloc (.cells #[.int .i64 x] t)).cell? ((⟨W.heap.size, 0, none⟩ : Addr).add j) = some u := by
  intro j u hu
  rw [i_plain, cell_of_row _ _ _ _ _ _ (heap_alloc_new W _)]
  simpa using hu
def TysPost (n : Nat) (ts : Nat → Int) (w : World) (e : Ending) (w' : World) : Prop := ∃ A c, e = .returned (.slice A n c) ∧ RowC w' A n ts ∧ Below w.heap.size w w'
theorem ownB_lt {w : World} {base : Nat} {e : TypeId} {v : Value} {n : Nat} {xs : List Value} (h : w.ownsRow base e 1 v n xs) : ∀ q, v.ownBlock = some q → base ≤ q := fun q hq => (World.ownsRow.lt h q hq).1
theorem own_rowC {w : World} {base : Nat} {v : Value} {n : Nat} {ts : Nat → Int} (h : w.ownsRow base 3 1 v n ((List.range n).map fun j => Value.int .i64 (ts j))) : ∃ A c, v = .slice A n c ∧ RowC w A n ts := by
  have hh := h
  rcases h.2 with ⟨rfl, h0⟩ | ⟨g, cap, cur, rfl, hb, hc, hl, hm, hs, ht⟩
  · exact ⟨none, 0, by rw [h0], by omega, fun h => absurd h (by omega)⟩
  · refine ⟨_, cap, rfl, by unfold maxLen at hm; omega, fun _ => ⟨_, rfl, fun j hj => ?_⟩⟩
    rw [i_plain, hh.cellAt j (by omega)]
    simp [hj]
set_option maxRecDepth 100000 in
set_option maxHeartbeats 3200000 in
theorem tys_c (A B : Option Addr) (n m c1 c2 : Nat) (nm : Nat → ByteArray) (ts sz id : Nat → Int) (w : World) (hn : n ≤ 1000) (hr : BR w A n nm ts sz id) :
    Calls Try.prog 40 #[.agg #[.slice A n c1, .slice B m c2]] w (TysPost n ts w) := by
  have HR := Lib.hid hr
  obtain ⟨i0, hi, hzz⟩ := Option.map_eq_some_iff.1 infoI
  simp only [Prod.mk.injEq] at hzz
  have HInf := Lib.hid (And.intro hi hzz)
  clear hr hi hzz
  go_enter Try.func40, Try.ntmps40
  go_upto_region 2 with fail
  refine at_world (fun W => Hid (Below w.heap.size w W) ∧ W.cell? ⟨w.heap.size, 0, none⟩ = some (.slice A n c1) ∧ W.cell? ⟨w.heap.size, 1, none⟩ = some (.slice B m c2)) ⟨Lib.hid (by repeat' (first | exact Below.refl _ _ | (refine Below.alloc ?_ ?_ _) | (refine Below.setCell ?_ ?_ _) | (refine Below.drew ?_) | (refine below_next ?_ ?_ (by assumption)) | omega | (simp; done) | (simp; omega))), by simp [go_sem], by simp [go_sem]⟩ ?_
  intro W0 ⟨H0, k0, k1⟩
  go_upto_region 3 with fail
  clear k0 k1
  go_wp2_with fail
  go_loopw [3, 9] (fun v i wr => ∃ k : Nat, k ≤ n ∧ i = .int .i64 k ∧ Hid (Below w.heap.size w wr ∧ wr.ownsRow w.heap.size 3 1 v k ((List.range k).map fun j => Value.int .i64 (ts j)))) (fun _ i _ => n - (intOf i).toNat)
  case atStart => exact ⟨0, by omega, rfl, Lib.hid ⟨H0.out, World.ownsRow_nil _ _ _ _⟩⟩
  case round =>
    clear H0
    obtain ⟨k, hk, rfl, HI⟩ := hrel
    obtain ⟨wo, rfl⟩ : ∃ wo : World, wo = wr := ⟨_, rfl⟩
    by_cases hlt : k < n
    · obtain ⟨ad, rfl, had, c0, c1', c2', c3'⟩ := (HR.out.below HI.out.1).at hlt
      have hk0 : (0 : Int) ≤ (k : Int) := by omega
      have hk1 : (k : Int) < (n : Int) := by omega
      obtain ⟨t, ht⟩ : ∃ t, ts k = t := ⟨_, rfl⟩
      rw [ht] at c1'
      have HT := Lib.hid ht
      have hsz := HI.out.1.size
      clear ht had
      go_upto_region 5 with fail
      refine at_world (fun W => Hid (Below w.heap.size w W ∧ W.ownsRow w.heap.size 3 1 u3 k ((List.range k).map fun j => Value.int .i64 (ts j)) ∧ w.heap.size ≤ W.heap.size) ∧ W.cell? ⟨wo.heap.size, 1, none⟩ = some (.int .i64 t)) ⟨Lib.hid ⟨HI.out.1.alloc hsz _, ownI_below HI.out.2 ((Below.refl _ _).alloc (Nat.le_refl _) _), by simp; omega⟩, by simp [go_sem]⟩ ?_
      obtain ⟨b5, hb5⟩ : ∃ x, wo.heap.size = x := ⟨_, rfl⟩
      simp only [hb5]
      clear hsz HI c0 c1' c2' c3' hb5
      intro W1 ⟨H1, k1⟩
      go_wp2_with (at_builtin; refine wpList_append_own_at _ rfl _ _ 41 rfl w.heap.size 3 i0 (.int .i64 0) 1 8 Try.underlying41 HInf.out.1 HInf.out.2.1 HInf.out.2.2.1 HInf.out.2.2.2 rfl (by omega) u3 k _ (by rfl) (ownI_below H1.out.2.1 ((Below.refl _ _).alloc (Nat.le_refl _) _)) ⟨W1.heap.size, 0, none⟩ 1 1 [.int .i64 t] (by rfl) rfl (st_int W1 t 3) (by simp [Value.oneCell']) (by unfold maxLen; omega) (by omega) (by have := H1.out.2.2; simp; omega) ?_; intro v' w2 hown hg _ hat2; have HG := Lib.hid (And.intro hown hg); clear hown hg hat2; obtain ⟨vb, rfl⟩ : ∃ vb : Value, vb = v' := ⟨_, rfl⟩)
      have e : ((List.range k).map fun j => Value.int .i64 (ts j)) ++ [Value.int .i64 t] = (List.range (k + 1)).map fun j => Value.int .i64 (ts j) := by rw [List.range_succ, List.map_append, List.map_cons, List.map_nil, HT.out]
      have h2 := HG.out.1
      rw [e] at h2
      exact ⟨⟨k + 1, by omega, by go_num, Lib.hid ⟨(H1.out.1.alloc H1.out.1.size _).grown HG.out.2 (by have := H1.out.2.2; simp; omega) (ownB_lt H1.out.2.1), h2⟩⟩, by simp [intOf]; omega⟩
    · obtain rfl : k = n := by omega
      clear hk hlt
      obtain ⟨A', c', rfl, hr'⟩ := own_rowC HI.out.2
      have HP : Hid (TysPost k ts w (.returned (.slice A' k c')) wo) := Lib.hid ⟨A', c', rfl, hr', HI.out.1⟩
      clear hr' HI
      go_wp2_with fail
      go_ret
      exact HP.out
theorem conv_byte (W : World) (x : Int) : (convert 40 9 (.slice (some ⟨W.heap.size, 0, none⟩) 1 1)).run Try.prog (W.alloc (.cells #[.int .u8 x] 5)) = .ok (.string (strOfNums [x])) (W.alloc (.cells #[.int .u8 x] 5)) :=
  run_convert_bytes_arg (P := Try.prog) (W.alloc (.cells #[.int .u8 x] 5)) 40 5 Try.underlying40 Try.underlying5 W.heap.size 0 1 1 [x] rfl (fun i hi => by
    obtain rfl : i = 0 := by omega
    rw [cell_of_row _ _ _ _ _ _ (heap_alloc_new W _)]; rfl) 9 Try.underlying9
def digS (i : Nat) : ByteArray := strOfNums [48 + (i : Int)] ++ ByteArray.empty
set_option maxRecDepth 100000 in
set_option maxHeartbeats 3200000 in
theorem digits_1 (i : Nat) (hi : i < 10) (w : World) : Calls Try.prog 26 #[.int .i64 i] w fun e w' => e = .returned (.string (digS i)) ∧ Below w.heap.size w w' := by
  have h0 : (0 : Int) ≤ (i : Int) := by omega
  have h1 : (i : Int) < 10 := by omega
  have CV := conv_byte
  go_enter Try.func26, Try.ntmps26
  go_wp2_with fail
  go_loopw [3, 4] (fun u s wr => u = .int .u64 i ∧ s = .string ByteArray.empty ∧ wr = w) (fun _ _ _ => 0)
  case atStart => exact ⟨rfl, rfl, rfl⟩
  case round =>
    obtain ⟨rfl, rfl, rfl⟩ := hrel
    go_wp2_with fail
    go_ret
    refine ⟨?_, (by repeat' (first | exact Below.refl _ _ | (refine Below.alloc ?_ ?_ _) | (refine Below.setCell ?_ ?_ _) | (refine Below.drew ?_) | (refine below_next ?_ ?_ (by assumption)) | omega | (simp; done) | (simp; omega)))⟩
    unfold digS
    rfl
/-- The layout of the law: n scalars of I16, one array. -/
def xsL (nm : Nat → ByteArray) (n : Nat) : List Value := (List.range (n * 4)).map fun j => if j % 4 = 0 then Value.string (nm (j / 4)) else if j % 4 = 1 then Value.int .i64 3 else if j % 4 = 2 then Value.int .i64 0 else Value.int .i64 ((j / 4 : Nat) : Int)
theorem xsL_len (nm : Nat → ByteArray) (n : Nat) : (xsL nm n).length = n * 4 := by simp [xsL]
theorem xsL_get (nm : Nat → ByteArray) (n j : Nat) : (xsL nm n)[j]? = if j < n * 4 then some (if j % 4 = 0 then Value.string (nm (j / 4)) else if j % 4 = 1 then Value.int .i64 3 else if j % 4 = 2 then Value.int .i64 0 else Value.int .i64 ((j / 4 : Nat) : Int)) else none := by
  unfold xsL
  rw [List.getElem?_map]
  by_cases h : j < n * 4
  · rw [if_pos h, List.getElem?_range h]; rfl
  · rw [if_neg h, List.getElem?_eq_none (by simp; omega)]; rfl
theorem xsL_at (nm : Nat → ByteArray) {n i : Nat} (hi : i < n) : (xsL nm n)[i * 4]? = some (.string (nm i)) ∧ (xsL nm n)[i * 4 + 1]? = some (.int .i64 3) ∧ (xsL nm n)[i * 4 + 2]? = some (.int .i64 0) ∧ (xsL nm n)[i * 4 + 3]? = some (.int .i64 (i : Int)) := by
  refine ⟨?_, ?_, ?_, ?_⟩
  · rw [xsL_get, if_pos (show i * 4 < n * 4 by omega), if_pos (show i * 4 % 4 = 0 by omega), show i * 4 / 4 = i by omega]
  · rw [xsL_get, if_pos (show i * 4 + 1 < n * 4 by omega), if_neg (show ¬ (i * 4 + 1) % 4 = 0 by omega), if_pos (show (i * 4 + 1) % 4 = 1 by omega)]
  · rw [xsL_get, if_pos (show i * 4 + 2 < n * 4 by omega), if_neg (show ¬ (i * 4 + 2) % 4 = 0 by omega), if_neg (show ¬ (i * 4 + 2) % 4 = 1 by omega), if_pos (show (i * 4 + 2) % 4 = 2 by omega)]
  · rw [xsL_get, if_pos (show i * 4 + 3 < n * 4 by omega), if_neg (show ¬ (i * 4 + 3) % 4 = 0 by omega), if_neg (show ¬ (i * 4 + 3) % 4 = 1 by omega), if_neg (show ¬ (i * 4 + 3) % 4 = 2 by omega), show (i * 4 + 3) / 4 = i by omega]
theorem xsL_snoc (nm : Nat → ByteArray) (k : Nat) (s : ByteArray) : xsL nm k ++ [.string s, .int .i64 3, .int .i64 0, .int .i64 (k : Int)] = xsL (fun i => if i = k then s else nm i) (k + 1) := by
  apply List.ext_getElem?
  intro j
  rw [List.getElem?_append, xsL_len, xsL_get, xsL_get]
  by_cases h1 : j < k * 4
  · rw [if_pos h1, if_pos h1, if_pos (show j < (k + 1) * 4 by omega), if_neg (show ¬ j / 4 = k by omega)]
  · rw [if_neg h1]
    by_cases h2 : j < (k + 1) * 4
    · rw [if_pos h2]
      have hd : j / 4 = k := by omega
      rw [hd, if_pos rfl]
      obtain h3 | h3 | h3 | h3 : j - k * 4 = 0 ∨ j - k * 4 = 1 ∨ j - k * 4 = 2 ∨ j - k * 4 = 3 := by omega
      · rw [h3, if_pos (show j % 4 = 0 by omega)]; rfl
      · rw [h3, if_neg (show ¬ j % 4 = 0 by omega), if_pos (show j % 4 = 1 by omega)]; rfl
      · rw [h3, if_neg (show ¬ j % 4 = 0 by omega), if_neg (show ¬ j % 4 = 1 by omega), if_pos (show j % 4 = 2 by omega)]; rfl
      · rw [h3, if_neg (show ¬ j % 4 = 0 by omega), if_neg (show ¬ j % 4 = 1 by omega), if_neg (show ¬ j % 4 = 2 by omega)]; rfl
    · rw [if_neg h2, List.getElem?_eq_none (by simp; omega)]
theorem ownL_br {w : World} {base : Nat} {v : Value} {n : Nat} {nm : Nat → ByteArray} (h : w.ownsRow base 57 4 v n (xsL nm n)) : ∃ A c, v = .slice A n c ∧ BR w A n nm (fun _ => 3) (fun _ => 0) (fun i => (i : Int)) := by
  have hh := h
  rcases h.2 with ⟨rfl, h0⟩ | ⟨g, cap, cur, rfl, hb, hc, hl, hm, hs, ht⟩
  · exact ⟨none, 0, by rw [h0], by omega, fun h => absurd h (by omega)⟩
  · refine ⟨_, cap, rfl, by unfold maxLen at hm; omega, fun _ => ⟨_, rfl, (Array.getElem?_eq_some_iff.1 hc).1, fun i hi => ?_⟩⟩
    obtain ⟨x0, x1, x2, x3⟩ := xsL_at nm hi
    rw [i_plain, i_plain, i_plain, i_plain, hh.cellAt _ (by omega), hh.cellAt _ (by omega), hh.cellAt _ (by omega), hh.cellAt _ (by omega)]
    exact ⟨x0, x1, x2, x3⟩
theorem infoBd : (Try.prog.info? 57).map (fun i => (i.zero, i.size, i.bytes)) = some (some (.agg #[.string ByteArray.empty, .int .i64 0, .int .i64 0, .int .i64 0]), 4, 40) := by kernel_rfl
/-- The layout is being made. -/
def LyIn (w wr : World) (v : Value) (k : Nat) (nm : Nat → ByteArray) : Prop :=
  Below w.heap.size w wr ∧ w.heap.size + 3 ≤ wr.heap.size ∧ (wr.cell? ⟨w.heap.size, 0, none⟩ = some (.slice none 0 0) ∧ wr.cell? ⟨w.heap.size, 1, none⟩ = some (.slice none 0 0) ∧ wr.frozen? ⟨w.heap.size, 0, none⟩ = false ∧ wr.frozen? ⟨w.heap.size, 1, none⟩ = false) ∧
  (wr.cell? ⟨w.heap.size + 1, 0, none⟩ = some (.string ⟨#[97]⟩) ∧ wr.cell? ⟨w.heap.size + 1, 1, none⟩ = some (.int .i64 3) ∧ wr.cell? ⟨w.heap.size + 1, 2, none⟩ = some (.int .i64 4) ∧ wr.cell? ⟨w.heap.size + 1, 3, none⟩ = some (.int .i64 0)) ∧
  (wr.cell? ⟨w.heap.size + 1 + 1, 0, none⟩ = some v ∧ wr.cell? ⟨w.heap.size + 1 + 1, 1, none⟩ = some (.slice (some ⟨w.heap.size + 1, 0, none⟩) 1 1) ∧ wr.frozen? ⟨w.heap.size + 1 + 1, 0, none⟩ = false) ∧
  wr.ownsRow (w.heap.size + 3) 57 4 v k (xsL nm k)
def LayPost (n : Nat) (w : World) (e : Ending) (w' : World) : Prop := ∃ (A : Option Addr) (c g : Nat) (nm : Nat → ByteArray), e = .returned (.agg #[.slice A n c, .slice (some ⟨g, 0, none⟩) 1 1]) ∧ BR w' A n nm (fun _ => 3) (fun _ => 0) (fun i => (i : Int)) ∧ BR w' (some ⟨g, 0, none⟩) 1 (fun _ => ⟨#[97]⟩) (fun _ => 3) (fun _ => 4) (fun _ => 0) ∧ Below w.heap.size w w'
end Go.Proofs.Ytdmphpkiclfhhaa.C
