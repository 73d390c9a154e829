/- shape.Heads: walk (printed by gen_shhd.py). -/
import Derived.Test.YtacdeollnhkckaaShE
import Derived.Sort.OwnSortedInts
namespace Go.Proofs.Ytacdeollnhkckaa.C
open Go.Shelf Go.RowKit Go.Lib Go.Sort
set_option linter.unusedSimpArgs false
set_option linter.unusedVariables false
def msort (l : List Int) : List Int := l.mergeSort fun x y => decide (x ≤ y)
theorem msort_len (l : List Int) : (msort l).length = l.length := by unfold msort; simp
theorem comp_nil : Lib.compact ([] : List Int) = [] := by decide
theorem msort_nil : msort [] = [] := by simp [msort]
/-- Behind a sort, a compaction: the same slice, another list. -/
theorem IL.grow {w : World} {B g k cap : Nat} {l l2 : List Int} {q : Nat} {os : Array Obj} (h : IL w B (.slice (some ⟨g, 0, none⟩) k cap) l) (hl : l2.length = l.length) :
    IL (grow (putRow (Value.int .i64) (Sort.ahead w q) g 0 l2.toArray) os) B (.slice (some ⟨g, 0, none⟩) k cap) l2 ∧ w.grownBy (grow (putRow (Value.int .i64) (Sort.ahead w q) g 0 l2.toArray) os) (some g) := by
  refine ⟨?_, grownBy_sortedI _⟩
  rcases h.2 with ⟨q, _⟩ | ⟨g', cap', cur, e, hb, hh, h1, h2, h3, h4⟩
  · cases q
  · injection e with e1 e2 e3
    injection e1 with e1
    injection e1 with e1
    subst e1 e2 e3
    have := ownsRow_sortedI (n := q) (os := os) hl hb hh h1 h2 h3
    unfold IL
    rw [hl]
    exact this
theorem IL.holds {w : World} {B g k cap : Nat} {l : List Int} (h : IL w B (.slice (some ⟨g, 0, none⟩) k cap) l) : Holds (Value.int .i64) w g 0 l.toArray ∧ g < w.heap.size ∧ l.length = k ∧ k ≤ cap := by
  rcases h.2 with ⟨q, _⟩ | ⟨g', cap', cur, e, hb, hh, h1, h2, h3, h4⟩
  · cases q
  · injection e with e1 e2 e3
    injection e1 with e1
    injection e1 with e1
    subst e1 e2 e3
    exact ⟨holds_of_blockI hh (by simpa using h4), (Array.getElem?_eq_some_iff.1 hh).1, rfl, h1⟩
theorem sortI_c {w : World} {B k cap : Nat} {A : Option Addr} {l : List Int} (h : IL w B (.slice A k cap) l) (hk : k ≤ 4000000000000000000) :
    Calls Try.prog 28 #[.slice A k cap] w fun e w' => e = .returned (.tuple #[]) ∧ IL w' B (.slice A k cap) (msort l) ∧ w.grownBy w' ((Value.slice A k cap).ownBlock) := by
  obtain ⟨c1, c2, c3⟩ := h.cap
  rcases Nat.eq_zero_or_pos k with h0 | h0
  · subst h0
    refine (Try.slices_Sort_int_none A cap w).mono ?_
    rintro e w' ⟨rfl, rfl⟩
    have : l = [] := List.eq_nil_of_length_eq_zero c3
    subst this
    exact ⟨rfl, by rw [msort_nil]; exact h, World.grownBy.refl _ _⟩
  · obtain ⟨g, rfl, hb, hg⟩ := h.some_ h0
    obtain ⟨h1, h2, h3, h4⟩ := h.holds
    subst h3
    refine (Try.slices_Sort_int g 0 cap l w h1 h2 (by omega)).mono ?_
    rintro e w' ⟨rfl, n, os, rfl⟩
    have := h.grow (q := n) (os := os) (msort_len l)
    exact ⟨rfl, this.1, this.2⟩
theorem compactI_c {w : World} {B k cap : Nat} {A : Option Addr} {l : List Int} (h : IL w B (.slice A k cap) l) (hk : k ≤ 4000000000000000000) :
    Calls Try.prog 29 #[.slice A k cap] w fun e w' => e = .returned (.slice A (Lib.compact l).length cap) ∧ IL w' B (.slice A (Lib.compact l).length cap) (Lib.compact l) ∧ w.grownBy w' ((Value.slice A k cap).ownBlock) := by
  obtain ⟨c1, c2, c3⟩ := h.cap
  rcases Nat.eq_zero_or_pos k with h0 | h0
  · subst h0
    refine (Try.slices_Compact_int_empty A cap w).mono ?_
    rintro e w' ⟨rfl, rfl⟩
    have : l = [] := List.eq_nil_of_length_eq_zero c3
    subst this
    exact ⟨by rw [comp_nil]; rfl, by rw [comp_nil]; exact h, World.grownBy.refl _ _⟩
  · obtain ⟨g, rfl, hb, hg⟩ := h.some_ h0
    obtain ⟨h1, h2, h3, h4⟩ := h.holds
    subst h3
    refine (Try.slices_Compact_int g 0 cap l w h1 (by omega) (by omega)).mono ?_
    rintro e w' ⟨rfl, q, rfl⟩
    have hle := Lib.compact_length_le l
    have hx := h.grow (q := q) (os := #[]) (l2 := Lib.compact l ++ List.replicate (l.length - (Lib.compact l).length) 0) (by simp; omega)
    rw [grow_empty] at hx
    refine ⟨rfl, ?_, hx.2⟩
    have h5 := hx.1
    rcases h5.2 with ⟨q, _⟩ | ⟨g', cap', cur, e, hb, hh, h1, h2, h3, h4⟩
    · cases q
    · injection e with e1 e2 e3
      injection e1 with e1
      injection e1 with e1
      subst e1 e3
      refine ⟨by simp, .inr ⟨g, cap, cur, rfl, hb, hh, by omega, h2, h3, ?_⟩⟩
      have h6 : (cur.toList.take ((Lib.compact l ++ List.replicate (l.length - (Lib.compact l).length) 0).length * 1)).take (Lib.compact l).length = (Lib.compact l).map (Value.int .i64) := by
        rw [h4, List.map_append, List.take_append_of_le_length (by simp), List.take_of_length_le (by simp)]
      rw [List.take_take] at h6
      rw [Nat.mul_one, ← h6]
      congr 1
      simp
theorem edgeC_at {x y : Nat} : ∀ (l : List (Nat × Nat)) (i : Nat), l[i]? = some (x, y) → (l.flatMap edgeC)[i * 2]? = some (.int .i64 (x : Int)) ∧ (l.flatMap edgeC)[i * 2 + 1]? = some (.int .i64 (y : Int))
  | [], i, h => by simp at h
  | p :: l, 0, h => by
    simp only [List.getElem?_cons_zero, Option.some.injEq] at h
    subst h
    exact ⟨rfl, rfl⟩
  | p :: l, i + 1, h => by
    rw [List.getElem?_cons_succ] at h
    have ih := edgeC_at l i h
    have e : (p :: l).flatMap edgeC = .int .i64 (p.1 : Int) :: .int .i64 (p.2 : Int) :: l.flatMap edgeC := rfl
    rw [e, show (i + 1) * 2 = i * 2 + 1 + 1 from by omega, show i * 2 + 1 + 1 + 1 = (i * 2 + 1) + 1 + 1 from by omega]
    simp only [List.getElem?_cons_succ]
    exact ih
theorem EL.two {w : World} {B g n c : Nat} {l : List (Nat × Nat)} (h : EL w B (.slice (some ⟨g, 0, none⟩) n c) l) {i x y : Nat} (hi : l[i]? = some (x, y)) : w.cell? ⟨g, i * 2, none⟩ = some (.int .i64 x) ∧ w.cell? ⟨g, i * 2 + 1, none⟩ = some (.int .i64 y) := by
  have hl := (List.getElem?_eq_some_iff.1 hi).1
  have e : n = l.length := by
    rcases h.2 with ⟨q, _⟩ | ⟨g, cap, cur, e, hb, hh, _⟩
    · cases q
    · cases e; rfl
  subst e
  rw [World.ownsRow.cellAt h _ (by omega), World.ownsRow.cellAt h _ (by omega)]
  exact edgeC_at l i hi
theorem EL.some_ {w : World} {B n c : Nat} {A : Option Addr} {l : List (Nat × Nat)} (h : EL w B (.slice A n c) l) (hl : 0 < n) : ∃ g, A = some ⟨g, 0, none⟩ ∧ B ≤ g ∧ g < w.heap.size := by
  rcases h.2 with ⟨q, _⟩ | ⟨g, cap, cur, e, hb, hh, _⟩
  · cases q; omega
  · cases e; exact ⟨g, rfl, hb, (Array.getElem?_eq_some_iff.1 hh).1⟩
/-- The heads: the ends of the edges that go back. -/
noncomputable def hdL (n : Nat) (L : Nat → Nat) (m : Nat → Nat → Int) (r : Int) : List Int := Lib.compact (msort (nI ((edL n L m r true n).map Prod.snd)))
def HdPost (l : List Int) (w : World) (e : Ending) (w' : World) : Prop := ∃ A, e = .returned (.slice A l.length l.length) ∧ RowL w' A l.length l ∧ Below w.heap.size w w'
set_option maxRecDepth 100000 in
set_option maxHeartbeats 6400000 in
theorem heads_c (A0 : Option Addr) (n cap : Nat) (L : Nat → Nat) (m : Nat → Nat → Int) (r : Int) (w : World) (hG : GR w A0 n L m) (hn : n ≤ 2000) (hL : ∀ a, a < n → L a ≤ 1000000) :
    Calls Try.prog 13 #[.slice A0 n cap, .int .i64 r] w (HdPost (hdL n L m r) w) := by
  have HED := edges_c A0 n cap L m r w hG hn hL
  obtain ⟨bl, hbl⟩ : ∃ bl, edL n L m r true n = bl := ⟨_, rfl⟩
  obtain ⟨ol, hol⟩ : ∃ ol, edL n L m r false n = ol := ⟨_, rfl⟩
  have hlen : bl.length ≤ 2000000000 := by
    have := edL_len (m := m) (r := r) (b := true) hL n (Nat.le_refl _)
    rw [hbl] at this
    unfold bnd at this
    omega
  unfold hdL
  rw [hbl, hol] at HED
  rw [hbl]
  clear hbl hol hL hG
  obtain ⟨i0, hi0, hzz⟩ := Option.map_eq_some_iff.1 infoI
  simp only [Prod.mk.injEq] at hzz
  have HIN := Lib.hid (And.intro hi0 hzz)
  clear hi0 hzz
  go_enter Try.func13, Try.ntmps13
  go_upto_region 3 with (go_at_call 27; refine HED.mono ?_; rintro e w1 ⟨A1, c1, A2, c2, rfl, h1, h2, h3⟩; have HES := Lib.hid (And.intro h1 h3); clear h1 h2 h3 HED)
  obtain ⟨K, hK⟩ : ∃ K, bl.length = K := ⟨_, rfl⟩
  have HK := Lib.hid hK
  simp only [hK]
  rw [hK] at HES hlen
  clear hK
  have HL0 : Hid (IL w1 w.heap.size (.slice none 0 0) (nI ((bl.take 0).map Prod.snd)) ∧ EL w1 w.heap.size (.slice A1 K c1) bl ∧ Below w.heap.size w w1) := Lib.hid ⟨⟨rfl, .inl ⟨rfl, rfl⟩⟩, HES.out.1, HES.out.2⟩
  go_wp2_with fail
  go_loopw [7, 18] (fun u v wr => ∃ (i c : Nat) (A : Option Addr), i ≤ K ∧ v = .int .i64 i ∧ u = .slice A i c ∧ Hid (IL wr w.heap.size (.slice A i c) (nI ((bl.take i).map Prod.snd)) ∧ EL wr w.heap.size (.slice A1 K c1) bl ∧ Below w.heap.size w wr)) (fun _ v _ => K - (intOf v).toNat)
  case atStart => exact ⟨0, 0, none, by omega, rfl, rfl, HL0⟩
  case round =>
    clear HL0 HES
    obtain ⟨i, c, A, hi, rfl, rfl, HI⟩ := hrel
    obtain ⟨wj, rfl⟩ : ∃ wj : World, wj = wr := ⟨_, rfl⟩
    by_cases hlt : i < K
    · have hltd : decide (i < K) = true := decide_eq_true hlt
      have ei : IntKind.i64.wrap ((i : Int) + 1) = (i : Int) + 1 := IntWalk.i64_in _ (by omega)
      obtain ⟨gB, rfl, hgB, hgB2⟩ := HI.out.2.1.some_ (by omega)
      have hKl := HK.out
      obtain ⟨⟨x, y⟩, hxy⟩ : ∃ p, bl[i]? = some p := ⟨_, List.getElem?_eq_getElem (by omega)⟩
      obtain ⟨cx, cy⟩ := HI.out.2.1.two hxy
      have HXY := Lib.hid hxy
      obtain ⟨l0, hl0⟩ : ∃ l0, nI ((bl.take i).map Prod.snd) = l0 := ⟨_, rfl⟩
      rw [hl0] at HI
      have hl1 : nI ((bl.take (i + 1)).map Prod.snd) = l0 ++ [(y : Int)] := by rw [← hl0, List.take_add_one, hxy, ← nI_app]; simp
      have HL1 := Lib.hid hl1
      clear hKl hxy hl0 hl1
      have hcap := HI.out.1.cap
      have HLL := Lib.hid hcap.2.2
      have hcap1 := hcap.1
      have hcap2 := hcap.2.1
      clear hcap
      have HB2 : Hid (Below wj.heap.size wj ((wj.alloc (.cells #[.int .i64 (x : Int), .int .i64 (y : Int)] 42)).alloc (.cells #[.int .i64 (y : Int)] 3))) := Lib.hid (((Below.refl _ _).alloc (Nat.le_refl _) _).alloc (by simp) _)
      have HOT : Hid (((wj.alloc (.cells #[.int .i64 (x : Int), .int .i64 (y : Int)] 42)).alloc (.cells #[.int .i64 (y : Int)] 3)).ownsRow w.heap.size 3 1 (.slice A i c) i (l0.map (Value.int .i64))) := Lib.hid (by have h := HI.out.1.below HB2.out; unfold IL at h; rw [HLL.out] at h; exact h)
      have HTK := Lib.hid (tok_bd (wj.alloc (.cells #[.int .i64 (x : Int), .int .i64 (y : Int)] 42)) #[.int .i64 (y : Int)] 3)
      simp only [World.size_alloc] at HTK
      go_wp2_with (at_builtin; refine wpList_append_own_at _ (by rfl) (.tmp 22) (.tmp 25) 25 (by rfl) w.heap.size 3 i0 (.int .i64 0) 1 8 Try.underlying25 HIN.out.1 HIN.out.2.1 HIN.out.2.2.1 HIN.out.2.2.2 rfl (by omega) (.slice A i c) i (l0.map (Value.int .i64)) (by rfl) HOT.out ⟨wj.heap.size + 1, 0, none⟩ 1 1 [.int .i64 (y : Int)] (by rfl) rfl HTK.out (by intro u hu; rw [List.mem_singleton] at hu; subst hu; rfl) (by unfold maxLen; omega) (by omega) (by have := HI.out.2.2.size; simp; omega) ?_; intro v' w5 hown hg hnil hat; clear hnil hat; have HOW := Lib.hid (And.intro hown hg); clear hown hg HTK)
      have hown := HOW.out.1
      obtain ⟨A3, c3, rfl⟩ : ∃ A3 c3, v' = .slice A3 (i + 1) c3 := by
        rcases hown.2 with ⟨_, q⟩ | ⟨g, cap, cur, q, _⟩
        · omega
        · exact ⟨_, _, q⟩
      have hil : IL w5 w.heap.size (.slice A3 (i + 1) c3) (nI ((bl.take (i + 1)).map Prod.snd)) := by
        rw [HL1.out]
        unfold IL
        rw [List.length_append, HLL.out, List.map_append]
        exact hown
      have hb2 := below_next HI.out.2.2 HI.out.2.2.size HB2.out
      have hel : EL w5 w.heap.size (.slice (some ⟨gB, 0, none⟩) K c1) bl := World.ownsRow.kept (ownsRow_b HI.out.2.1 HB2.out) HOW.out.2 (.inr (fun q => own_kind (ownsRow_b HI.out.2.1 HB2.out) HOT.out tE_ne_tI gB rfl q.symm))
      exact ⟨⟨i + 1, c3, A3, by omega, by go_num, rfl, Lib.hid ⟨hil, hel, hb2.grown HOW.out.2 hb2.size (fun g hgg => (HI.out.1.lt _ hgg).1)⟩⟩, by simp [intOf]; omega⟩
    · have hltd : decide (i < K) = false := decide_eq_false hlt
      obtain rfl : K = i := by omega
      have HT : bl.take K = bl := List.take_of_length_le (by rw [HK.out]; exact Nat.le_refl _)
      rw [HT] at HI
      clear HT HK
      obtain ⟨l0, hl0⟩ : ∃ l0, nI (bl.map Prod.snd) = l0 := ⟨_, rfl⟩
      rw [hl0] at HI
      have HQ0 := Lib.hid hl0
      clear hl0
      have HSO := sortI_c HI.out.1 (by omega)
      go_upto_region 9 with (go_at_call 28; refine HSO.mono ?_; rintro e w3 ⟨rfl, h1, h2⟩; have HS := Lib.hid (And.intro h1 h2); clear h1 h2 HSO)
      have HCO := compactI_c HS.out.1 (by omega)
      go_upto_region 10 with (go_at_call 29; refine HCO.mono ?_; rintro e w4 ⟨rfl, h1, h2⟩; have HC := Lib.hid (And.intro h1 h2); clear h1 h2 HCO)
      obtain ⟨l1, hl1⟩ : ∃ l1, Lib.compact (msort l0) = l1 := ⟨_, rfl⟩
      rw [hl1] at HC
      have HQ : Hid (Lib.compact (msort (nI (bl.map Prod.snd))) = l1) := Lib.hid (by rw [HQ0.out]; exact hl1)
      try simp only [hl1]
      obtain ⟨K1, hK1⟩ : ∃ K1, l1.length = K1 := ⟨_, rfl⟩
      have hc1 := HC.out.1.cap
      have HKK := Lib.hid hK1
      rw [hK1] at HC hc1
      try simp only [hK1]
      have hc2 := hc1.1
      have hc3 := hc1.2.1
      have hK1b : K1 ≤ K := by
        have h1 := Lib.compact_length_le (msort l0)
        rw [msort_len, hl1, hK1] at h1
        have h2 := HI.out.1.cap.2.2
        omega
      clear hK1 hc1 hl1
      go_wp2_with fail
      go_ret
      have hb3 := HI.out.2.2.grown HS.out.2 HI.out.2.2.size (fun g hgg => (HI.out.1.lt _ hgg).1)
      have hb4 := hb3.grown HC.out.2 hb3.size (fun g hgg => (HS.out.1.lt _ hgg).1)
      unfold HdPost
      rw [HQ.out, HKK.out]
      exact ⟨A, rfl, HC.out.1.rowL (by omega), hb4⟩
end Go.Proofs.Ytacdeollnhkckaa.C
