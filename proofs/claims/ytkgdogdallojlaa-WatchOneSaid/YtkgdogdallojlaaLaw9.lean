/- WatchOne: walk. -/
import Derived.Test.YtkgdogdallojlaaWatch3
import Derived.Test.YtkgdogdallojlaaOpen
import Derived.Test.YtkgdogdallojlaaWf
namespace Go.Proofs.Ytkgdogdallojlaa.C
open Go.RowKit
set_option linter.unusedSimpArgs false
set_option linter.unusedVariables false
def sizeW (zs : List Int) : Nat → Nat := fun i => sizeM (1 + zs.getD i 0 % 16)
theorem news_int (W : World) (x : Int) (t : TypeId) : ∀ j u, ([Value.int .i64 x] : List Value)[j]? = some u → (W.alloc (.cells #[.int .i64 x] t)).cell? ((⟨W.heap.size, 0, none⟩ : Addr).add j) = some u := by
  intro j u hu
  rw [m_plain, cell_of_row _ _ _ _ _ _ (heap_alloc_new W _)]
  simpa using hu
/-- The one place that is set differs. -/
theorem diff_one (n K r : Nat) (ln : Nat → Nat) (hK : K < n) (hr : r < ln K) (hl : ∀ i, i < n → 1 ≤ ln i) : ∀ i, i < n → diffB n n (fun _ => 5) (fun _ => 5) ln ln (fun _ _ => 0) (setF (fun _ _ => 0) K r 5) (i : Int) = decide (i = K) := by
  intro i hi
  rw [diffB_at _ _ _ _ _ i hi]
  by_cases e : i = K
  · subst e
    have : eqI ((fun _ _ => 0 : Nat → Nat → Int) i) (setF (fun _ _ => 0) i r 5 i) (ln i) (ln i) = false := decide_eq_false (fun h => by
      have := h.2 r hr
      unfold setF at this
      rw [if_pos ⟨rfl, rfl⟩] at this
      simp at this)
    rw [this]; simp
  · have : eqI ((fun _ _ => 0 : Nat → Nat → Int) i) (setF (fun _ _ => 0) K r 5 i) (ln i) (ln i) = true := decide_eq_true ⟨rfl, fun j _ => by unfold setF; rw [if_neg (fun h => e h.1)]⟩
    rw [this]; simp [e]
/-- A memory, a row of ids, a later memory. -/
def W2 (w W : World) (k base2 p2 : Nat) (L : Value) (A' : Option Addr) (c : Nat) (ad cp : Nat → Nat) (L2 : Value) (ad2 cp2 ln : Nat → Nat) (f2 : Nat → Nat → Int) : Prop :=
  Below w.heap.size w W ∧ MI W w.heap.size w.heap.size k L (.slice A' k c) (fun _ => 5) ad ln cp (fun _ _ => 0) ∧ MS W base2 p2 L2 k (fun _ => 5) ad2 ln cp2 f2 ∧ w.heap.size ≤ base2 ∧ (∀ b, footM w.heap.size L k ad b ∨ (Value.slice A' k c).ownBlock = some b → b < base2)
theorem W2.below {w W W' : World} {k base2 p2 : Nat} {L : Value} {A' : Option Addr} {c : Nat} {ad cp : Nat → Nat} {L2 : Value} {ad2 cp2 ln : Nat → Nat} {f2 : Nat → Nat → Int} (h : W2 w W k base2 p2 L A' c ad cp L2 ad2 cp2 ln f2) (hb : Below W.heap.size W W') : W2 w W' k base2 p2 L A' c ad cp L2 ad2 cp2 ln f2 :=
  ⟨below_next h.1 h.1.size hb, h.2.1.below hb, h.2.2.1.below hb, h.2.2.2.1, h.2.2.2.2⟩
theorem W2.copied {w W W' : World} {k p : Nat} {L : Value} {A' : Option Addr} {c : Nat} {ad cp ln : Nat → Nat} {L2 : Value} {ad2 cp2 : Nat → Nat} {f2 : Nat → Nat → Int} (h1 : Below w.heap.size w W) (h2 : MI W w.heap.size w.heap.size k L (.slice A' k c) (fun _ => 5) ad ln cp (fun _ _ => 0))
    (hb : Below W.heap.size W W') (hm : MS W' W.heap.size p L2 k (fun _ => 5) ad2 ln cp2 f2) : W2 w W' k W.heap.size p L A' c ad cp L2 ad2 cp2 ln f2 :=
  ⟨below_next h1 h1.size hb, h2.below hb, hm, h1.size, fun b hb => by
    rcases hb with hb | hb
    · exact (h2.1.footM_lt b hb).2
    · exact (own_blk h2.2.1 b hb).2⟩
theorem W2.set {w W W' : World} {k base2 p2 : Nat} {L : Value} {A' : Option Addr} {c : Nat} {ad cp : Nat → Nat} {L2 : Value} {ad2 cp2 ln : Nat → Nat} {f2 f3 : Nat → Nat → Int} (h : W2 w W k base2 p2 L A' c ad cp L2 ad2 cp2 ln f2)
    (hb : Below base2 W W') (hm : MS W' base2 p2 L2 k (fun _ => 5) ad2 ln cp2 f3) : W2 w W' k base2 p2 L A' c ad cp L2 ad2 cp2 ln f3 := by
  have hk : ∀ b, footM w.heap.size L k ad b ∨ (Value.slice A' k c).ownBlock = some b → W'.heap[b]? = W.heap[b]? := fun b hx => hb.block b (h.2.2.2.2 b hx)
  exact ⟨h.1.trans (hb.mono h.2.2.2.1), ⟨h.2.1.1.apart hb.size (fun b hx => hk b (.inl hx)), own_kept h.2.1.2.1 (fun x hx => hk x (.inr hx)), h.2.1.2.2⟩, hm, h.2.2.2.1, h.2.2.2.2⟩
theorem set_one (base p n : Nat) (L : Value) (ad ln cp : Nat → Nat) (K r : Nat) (w : World) (hm : MS w base p L n (fun _ => 5) ad ln cp (fun _ _ => 0)) (hb0 : base ≤ w.heap.size) (hK : K < n) (hr : r < ln K) :
    Calls Try.prog 14 #[.pointer (some ⟨p, 0, none⟩), .int .i64 K, .int .i64 r, .int .i64 5] w fun e w' => e = .returned (.bool true) ∧ Below base w w' ∧ MS w' base p L n (fun _ => 5) ad ln cp (setF (fun _ _ => 0) K r 5) := by
  have hh : hasM n ln (K : Int) (r : Int) = true := decide_eq_true ⟨by omega, by omega, by omega, by simp; omega⟩
  refine (set_s base p n L (fun _ => 5) ad ln cp (fun _ _ => 0) K r 5 w hm hb0).mono ?_
  rintro e w' ⟨rfl, hb, hm', _⟩
  rw [hh]
  refine ⟨rfl, hb, ?_⟩
  unfold setM at hm'
  rw [if_pos hh] at hm'
  have e5 : wrapT 5 5 = 5 := by decide
  simpa [e5] using hm'
set_option maxRecDepth 100000 in
set_option maxHeartbeats 12800000 in
theorem watchOne_c (A : Option Addr) (n cap : Nat) (zs : List Int) (id at' : Int) (may : Bool) (w : World) (hz : IntRow w .u8 A n zs) (hid : 0 ≤ id ∧ id ≤ 255) (hat : 0 ≤ at' ∧ at' ≤ 255) :
    Calls Try.prog 4 #[.slice A n cap, .int .u8 id, .int .u8 at', .bool may] w fun e w' => e = .returned (.bool true) ∧ Below w.heap.size w w' := by
  have hmax : n ≤ 9223372036854775807 := by have := hz.2.1; unfold maxLen at this; exact this
  have HZ := Lib.hid hz
  clear hz
  by_cases hn0 : n = 0
  · subst hn0
    go_enter Try.func4, Try.ntmps4
    go_wp2_with (go_at_call 5; refine (awake9_c _).mono ?_; rintro e w' ⟨rfl, hb⟩)
    go_ret
    exact ⟨rfl, hb⟩
  have g0 : ((n : Int) == 0) = false := by rw [beq_eq_false_iff_ne]; omega
  by_cases hn15 : 15 < n
  · have g1 : decide (15 < n) = true := decide_eq_true hn15
    go_enter Try.func4, Try.ntmps4
    go_wp2_with (go_at_call 5; refine (awake9_c _).mono ?_; rintro e w' ⟨rfl, hb⟩)
    go_ret
    exact ⟨rfl, hb⟩
  have g1 : decide (15 < n) = false := decide_eq_false hn15
  have HN := Lib.hid (show 1 ≤ n ∧ n ≤ 15 by omega)
  obtain ⟨ad0, rfl, hal, hac⟩ := HZ.out.2.2.2 (by omega)
  have HC : Hid (ad0.block < w.heap.size ∧ ∀ j, j < n → w.cell? (ad0.add j) = some (.int .u8 (zs.getD j 0)) ∧ 0 ≤ zs.getD j 0 ∧ zs.getD j 0 ≤ 255) := Lib.hid ⟨hal, fun j hj => ⟨hac j hj, C.wf_u8 (HZ.out.wf hj)⟩⟩
  obtain ⟨i0, hi, hzz⟩ := Option.map_eq_some_iff.1 infoM
  simp only [Prod.mk.injEq] at hzz
  have HInf := Lib.hid (And.intro hi hzz)
  clear hal hac HZ hi hzz
  go_enter Try.func4, Try.ntmps4
  go_upto_region 4 with (go_at_call 11; refine (new_c _).mono ?_; rintro e w1 ⟨rfl, hb1, hm1⟩)
  go_upto_region 7 with fail
  have HS : Hid (Below w.heap.size w w1 ∧ MI w1 w.heap.size w.heap.size 0 (.slice none 0 0) (.slice none 0 0) (fun _ => 5) (fun _ => 0) (sizeW zs) (fun _ => 0) (fun _ _ => 0)) := Lib.hid ⟨hb1, hm1.ms.congr (fun i hi => absurd hi (by omega)) (fun i hi => absurd hi (by omega)) (fun i j hi => absurd hi (by omega)), World.ownsRow_nil _ _ _ _, fun x hx => by simp [Value.ownBlock] at hx⟩
  clear hb1 hm1 g0 hn0 hn15 g1
  go_wp2_with fail
  go_loopw [10, 12] (fun v i wr => ∃ (k : Nat) (L : Value) (ad cp : Nat → Nat), k ≤ n ∧ i = .int .i64 k ∧ Hid (Below w.heap.size w wr ∧ MI wr w.heap.size w.heap.size k L v (fun _ => 5) ad (sizeW zs) cp (fun _ _ => 0))) (fun _ i _ => n - (intOf i).toNat)
  case atStart => exact ⟨0, _, _, _, by omega, rfl, HS⟩
  case round =>
    clear HS
    obtain ⟨k, L, ad, cp, hk, rfl, HI⟩ := hrel
    obtain ⟨wo, rfl⟩ : ∃ wo : World, wo = wr := ⟨_, rfl⟩
    by_cases hlt : k < n
    · have hk0 : (0 : Int) ≤ (k : Int) := by omega
      have hk1 : (k : Int) < (n : Int) := by omega
      have hn15 := HN.out.2
      obtain ⟨c0', hz0, hz1⟩ := HC.out.2 k hlt
      have c0 := (HI.out.1.cell (p := ad0.add k) (by rw [add_block]; exact HC.out.1)).trans c0'
      have HSz : Hid (sizeW zs k = sizeM (1 + zs.getD k 0 % 16)) := Lib.hid rfl
      obtain ⟨z, hzk⟩ : ∃ z, zs.getD k 0 = z := ⟨_, rfl⟩
      rw [hzk] at c0 hz0 hz1 HSz
      clear hzk c0'
      have HADD := Lib.hid ((add_s w.heap.size w.heap.size k L (fun _ => 5) ad (sizeW zs) cp (fun _ _ => 0) 5 (1 + z % 16) wo HI.out.2.1 (by omega) HI.out.1.size).mono (fun e w1 h => HI.out.2.add h))
      go_upto_region 11 with (go_at_call 12; refine (HADD.out).mono ?_; rintro e w1 ⟨rfl, hb1, L1, ad1, cp1, hm1, ho1, hx1⟩)
      have hm2 : MS w1 w.heap.size w.heap.size L1 (k + 1) (fun _ => 5) ad1 (sizeW zs) cp1 (fun _ _ => 0) := hm1.congr (fun i _ => by unfold addT; split <;> rfl) (fun i _ => by unfold addN; split; (· rename_i e; rw [e, HSz.out]); (· rfl)) (fun i j _ => by unfold addF; split <;> rfl)
      have HM := Lib.hid (And.intro (HI.out.1.trans hb1) (And.intro hm2 (And.intro ho1 (fun x hx => (hx1 x hx).2))))
      have hbz := (HI.out.1.trans hb1).size
      clear HADD HI hm1 hm2 ho1 hx1 hb1 c0 hz0 hz1 HSz
      go_wp2_with (at_builtin; refine wpList_append_own_at _ rfl _ _ 22 rfl w.heap.size 3 i0 (.int .i64 0) 1 8 Try.underlying22 HInf.out.1 HInf.out.2.1 HInf.out.2.2.1 HInf.out.2.2.2 rfl (by omega) u10 k _ (by rfl) (own_below HM.out.2.2.1 ((Below.refl _ _).alloc (Nat.le_refl _) _)) ⟨w1.heap.size, 0, none⟩ 1 1 [.int .i64 k] (by rfl) rfl (news_int w1 k 3) (by simp [Value.oneCell']) (by unfold maxLen; omega) (by omega) (by simp; omega) ?_; intro v' w2 hown hg _ hat2; have HG := Lib.hid (And.intro hown (And.intro hg hat2)); clear hown hg hat2; obtain ⟨vb, rfl⟩ : ∃ vb : Value, vb = v' := ⟨_, rfl⟩)
      all_goals exact ⟨⟨k + 1, L1, ad1, cp1, by omega, by go_num, Lib.hid ⟨((HM.out.1).alloc HM.out.1.size _).grown HG.out.2.1 (by simp; omega) (fun q hq => (own_blk HM.out.2.2.1 q hq).1), MI.snoc HM.out.2.1 HM.out.2.2.2 HG.out.1 HG.out.2.1 HG.out.2.2⟩⟩, by simp [intOf]; omega⟩
    · obtain rfl : k = n := by omega
      clear hk hlt
      have hk1 := HN.out.1
      have hk15 := HN.out.2
      obtain ⟨A', c, rfl, hrow⟩ := HI.out.2.row hk1 (by omega)
      clear hrow
      obtain ⟨K, hK, hKk⟩ := rem_nat id k hk1
      obtain ⟨s0, hs0⟩ : ∃ s, sizeW zs K = s := ⟨_, rfl⟩
      have hs0b : 1 ≤ s0 ∧ s0 ≤ 16 := by rw [← hs0]; exact sizeM_bd _
      obtain ⟨r, hr, hrs⟩ := rem_nat at' s0 hs0b.1
      obtain ⟨c0', hz0, hz1⟩ := HC.out.2 K hKk
      have hsz : 1 + zs.getD K 0 % 16 = (s0 : Int) := by rw [← hs0]; unfold sizeW; exact (sizeM_in _).symm
      have c0 := (HI.out.1.cell (p := ad0.add K) (by rw [add_block]; exact HC.out.1)).trans c0'
      obtain ⟨z, hzk⟩ : ∃ z, zs.getD K 0 = z := ⟨_, rfl⟩
      rw [hzk] at c0 hz0 hz1 hsz
      have hK0 : (0 : Int) ≤ (K : Int) := by omega
      have hK1 : (K : Int) < (k : Int) := by omega
      have hkz : ((k : Int) = 0) = False := eq_false (by omega)
      have hkz' : (k = 0) = False := eq_false (by omega)
      have hsz0 : ((s0 : Int) = 0) = False := eq_false (by omega)
      have hsz0' : (s0 = 0) = False := eq_false (by omega)
      have HLN : Hid (∀ i, i < k → 1 ≤ sizeW zs i) := Lib.hid (fun i _ => (sizeM_bd _).1)
      have HRS : Hid (r < sizeW zs K) := Lib.hid (by rw [hs0]; exact hrs)
      clear hzk c0' hs0 hs0b hrs
      obtain ⟨hid0, hid1⟩ := hid
      obtain ⟨hat0, hat1⟩ := hat
      have hk00 : (0 : Int) ≤ (k : Int) := by omega
      have hs00 : (0 : Int) ≤ (s0 : Int) := by omega
      go_upto_region 13 with fail
      simp only [hK]
      go_upto_region 14 with (go_at_call 13; refine (copy_s _ _ _ _ _ _ _ _ _ _ HI.out.2.1 (by omega)).mono ?_; rintro e w2 ⟨p2, L2, ad2, cp2, rfl, hb2, hm2⟩)
      have H2 := Lib.hid (W2.copied HI.out.1 HI.out.2 hb2 hm2)
      replace c0 := cell_later hb2 c0
      obtain ⟨base2, hbase2⟩ : ∃ b, wo.heap.size = b := ⟨_, rfl⟩
      rw [hbase2] at H2
      clear hb2 hm2 HI hbase2 wo
      have rn : ∀ W : World, RowC W none 0 (fun _ => 0) := fun W => ⟨by omega, fun h => absurd h (by omega)⟩
      have rows : ∀ W, MI W w.heap.size w.heap.size k L (.slice A' k c) (fun _ => 5) ad (sizeW zs) cp (fun _ _ => 0) → RowC W A' k (fun j => (j : Int)) := fun W h => by
        obtain ⟨A2, c2, e, hr⟩ := h.row hk1 (by omega)
        injection e with e1 e2 e3
        subst e1
        exact hr
      have HROW := Lib.hid rows
      have C1 : ∀ W, W2 w W k base2 p2 L A' c ad cp L2 ad2 cp2 (sizeW zs) (fun _ _ => 0) → Calls Try.prog 9 #[.pointer (some ⟨w.heap.size, 0, none⟩), .pointer (some ⟨p2, 0, none⟩), .slice A' k c, .slice none 0 0] W fun e w' => e = .returned (.int .i64 (-1)) ∧ Below W.heap.size W w' := fun W h => by
        have := changed_s _ _ _ _ _ _ _ _ _ _ _ _ _ _ _ _ _ _ A' none k 0 c 0 (fun j => (j : Int)) (fun _ => 0) W (HROW.out W h.2.1) (rn W) h.2.1.1 h.2.2.1
        rwa [chgM_none (fun j _ => by rw [diffB_same]; simp)] at this
      have HC1 := Lib.hid C1
      clear C1 rows
      have SET : ∀ W, MS W base2 p2 L2 k (fun _ => 5) ad2 (sizeW zs) cp2 (fun _ _ => 0) → Calls Try.prog 14 #[.pointer (some ⟨p2, 0, none⟩), .int .i64 K, .int .i64 (at' % (s0 : Int)), .int .i64 5] W fun e w' => e = .returned (.bool true) ∧ Below base2 W w' ∧ MS w' base2 p2 L2 k (fun _ => 5) ad2 (sizeW zs) cp2 (setF (fun _ _ => 0) K r 5) := fun W h => by
        rw [hr]
        exact set_one base2 p2 k L2 ad2 (sizeW zs) cp2 K r W h (by have := h.hp; omega) hKk HRS.out
      have HSET := Lib.hid SET
      clear SET hr
      have DIF := diff_one k K r (sizeW zs) hKk HRS.out HLN.out
      have HDIF := Lib.hid DIF
      clear DIF
      have C2 : ∀ (B : Option Addr) (rr cb : Nat) (may' : Nat → Int) (W : World), W2 w W k base2 p2 L A' c ad cp L2 ad2 cp2 (sizeW zs) (setF (fun _ _ => 0) K r 5) → RowC W B rr may' → Calls Try.prog 9 #[.pointer (some ⟨w.heap.size, 0, none⟩), .pointer (some ⟨p2, 0, none⟩), .slice A' k c, .slice B rr cb] W fun e w' => e = .returned (.int .i64 (if hasI may' rr (K : Int) = true then -1 else (K : Int))) ∧ Below W.heap.size W w' := fun B rr cb may' W h hB => by
        have := changed_s _ _ _ _ _ _ _ _ _ _ _ _ _ _ _ _ _ _ A' B k rr c cb (fun j => (j : Int)) may' W (HROW.out W h.2.1) hB h.2.1.1 h.2.2.1
        by_cases hh : hasI may' rr (K : Int) = true
        · rw [if_pos hh]
          rwa [chgM_none (fun j hj => by rw [HDIF.out j hj]; by_cases e : j = K; (· subst e; rw [hh]; simp); (· simp [e]))] at this
        · rw [if_neg hh]
          have hh' : hasI may' rr (K : Int) = false := by simpa using hh
          rwa [chgM_at (k := K) hKk hh' (by rw [HDIF.out K hKk]; simp) (fun j hj => by rw [HDIF.out j (by omega)]; simp; intro; omega)] at this
      have C3 : ∀ (W : World) (base3 p3 : Nat) (L3 : Value) (ad3 cp3 : Nat → Nat), W2 w W k base2 p2 L A' c ad cp L2 ad2 cp2 (sizeW zs) (setF (fun _ _ => 0) K r 5) → MS W base3 p3 L3 k (fun _ => 5) ad3 (sizeW zs) cp3 (setF (fun _ _ => 0) K r 5) → Calls Try.prog 9 #[.pointer (some ⟨p2, 0, none⟩), .pointer (some ⟨p3, 0, none⟩), .slice A' k c, .slice none 0 0] W fun e w' => e = .returned (.int .i64 (-1)) ∧ Below W.heap.size W w' := fun W base3 p3 L3 ad3 cp3 h h3 => by
        have := changed_s _ _ _ _ _ _ _ _ _ _ _ _ _ _ _ _ _ _ A' none k 0 c 0 (fun j => (j : Int)) (fun _ => 0) W (HROW.out W h.2.1) (rn W) h.2.2.1 h3
        rwa [chgM_none (fun j _ => by rw [diffB_same]; simp)] at this
      have HC2 := Lib.hid C2
      have HC3 := Lib.hid C3
      have HRN := Lib.hid rn
      clear C2 C3 rn
      go_upto_region 17 with (first | (go_at_call 9; refine (HC1.out _ H2.out).mono ?_; rintro e w3 ⟨rfl, hb⟩; replace c0 := cell_later hb c0; have H3 := Lib.hid (H2.out.below hb); clear hb) | (go_at_call 14; refine (HSET.out _ H3.out.2.2.1).mono ?_; rintro e w4 ⟨rfl, hb, hm⟩; have H4 := Lib.hid (H3.out.set hb hm); clear hb hm))
      clear H2 H3 c0 HC1 HSET
      cases may
      · have hno : hasI (fun _ => 0) 0 (K : Int) = false := by rw [← Bool.not_eq_true, hasI_spec]; rintro ⟨j, hj, _⟩; omega
        have HCa : Hid (∀ W, W2 w W k base2 p2 L A' c ad cp L2 ad2 cp2 (sizeW zs) (setF (fun _ _ => 0) K r 5) → Calls Try.prog 9 #[.pointer (some ⟨w.heap.size, 0, none⟩), .pointer (some ⟨p2, 0, none⟩), .slice A' k c, .slice none 0 0] W fun e w' => e = .returned (.int .i64 (K : Int)) ∧ Below W.heap.size W w') := Lib.hid (fun W h => by
          have := HC2.out none 0 0 (fun _ => 0) W h (HRN.out W)
          rwa [if_neg (by rw [hno]; simp)] at this)
        clear hno HC2
        go_wp2_with (first | (go_at_call 9; refine (HCa.out _ H4.out).mono ?_; clear HCa; rintro e w5 ⟨rfl, hb⟩; have H5 := Lib.hid (H4.out.below hb); clear hb) | (go_at_call 13; refine (copy_s _ _ _ _ _ _ _ _ _ _ H5.out.2.2.1 (by omega)).mono ?_; rintro e w6 ⟨p3, L3, ad3, cp3, rfl, hb, hm3⟩; have H6 := Lib.hid (H5.out.below hb); have HM3 := Lib.hid hm3; clear hb hm3) | (go_at_call 9; refine (HC3.out _ _ _ _ _ _ H6.out HM3.out).mono ?_; clear HC3; rintro e w7 ⟨rfl, hb⟩; have H7 := Lib.hid (H6.out.below hb); clear hb) | (go_at_call 5; refine (awake9_c _).mono ?_; rintro e w8 ⟨rfl, hb⟩; have H8 := Lib.hid (H7.out.below hb); clear hb))
        go_ret
        exact ⟨rfl, H8.out.1⟩
      · go_upto_region 20 with fail
        have hal := (Below.refl w4.heap.size w4).alloc (Nat.le_refl _) (.cells #[.int .i64 (K : Int)] 3)
        refine at_world (fun W => Hid (W2 w W k base2 p2 L A' c ad cp L2 ad2 cp2 (sizeW zs) (setF (fun _ _ => 0) K r 5) ∧ RowC W (some ⟨w4.heap.size, 0, none⟩) 1 (fun _ => (K : Int)))) (Lib.hid ⟨H4.out.below hal, by omega, fun _ => ⟨_, rfl, fun j hj => by obtain rfl : j = 0 := (by omega); rw [m_plain, cell_of_row _ _ _ _ _ _ (heap_alloc_new w4 _)]; rfl⟩⟩) ?_
        obtain ⟨bk, hbk⟩ : ∃ b, w4.heap.size = b := ⟨_, rfl⟩
        simp only [hbk]
        clear hal hbk H4 w4
        intro W5 HW5
        have H4 := Lib.hid HW5.out.1
        have hyes : hasI (fun _ => (K : Int)) 1 (K : Int) = true := (hasI_spec _ _ _).2 ⟨0, by omega, rfl⟩
        have HCa : Hid (Calls Try.prog 9 #[.pointer (some ⟨w.heap.size, 0, none⟩), .pointer (some ⟨p2, 0, none⟩), .slice A' k c, .slice (some ⟨bk, 0, none⟩) 1 1] W5 fun e w' => e = .returned (.int .i64 (-1)) ∧ Below W5.heap.size W5 w') := Lib.hid (by
          have := HC2.out (some ⟨bk, 0, none⟩) 1 1 (fun _ => (K : Int)) W5 HW5.out.1 HW5.out.2
          rwa [if_pos hyes] at this)
        clear hyes HC2 HW5
        go_wp2_with (first | (go_at_call 9; refine (HCa.out).mono ?_; clear HCa; rintro e w5 ⟨rfl, hb⟩; have H5 := Lib.hid (H4.out.below hb); clear hb) | (go_at_call 13; refine (copy_s _ _ _ _ _ _ _ _ _ _ H5.out.2.2.1 (by omega)).mono ?_; rintro e w6 ⟨p3, L3, ad3, cp3, rfl, hb, hm3⟩; have H6 := Lib.hid (H5.out.below hb); have HM3 := Lib.hid hm3; clear hb hm3) | (go_at_call 9; refine (HC3.out _ _ _ _ _ _ H6.out HM3.out).mono ?_; clear HC3; rintro e w7 ⟨rfl, hb⟩; have H7 := Lib.hid (H6.out.below hb); clear hb) | (go_at_call 5; refine (awake9_c _).mono ?_; rintro e w8 ⟨rfl, hb⟩; have H8 := Lib.hid (H7.out.below hb); clear hb))
        go_ret
        exact ⟨rfl, H8.out.1⟩
end Go.Proofs.Ytkgdogdallojlaa.C
