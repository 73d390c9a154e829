/- l16.Around: a closed zone that has some numbers: walk. -/
import Derived.Test.YtnopjijhbflfdaaZRClose
import Derived.Test.YtnopjijhbflfdaaZHas
import Derived.Test.YtnopjijhbflfdaaWf
namespace Go.Proofs.Ytnopjijhbflfdaa.C
open Go.RowKit
set_option linter.unusedSimpArgs false
set_option linter.unusedVariables false
/-- What Around tells: k numbers of 16 bits, and a zone whose bounds they keep. -/
def AroundPost (w : World) (e : Ending) (w' : World) : Prop := Below w.heap.size w w' ∧ ∃ (k : Nat) (f : Nat → Int) (A : Option Addr) (c base B : Nat) (R C : Nat → Nat) (cap : Nat) (M : Z.M),
  k ≤ 6 ∧ e = .returned (.tuple #[.agg #[.slice (some ⟨B, 0, none⟩) (k + 1) cap], .slice A k c]) ∧ k + 1 ≤ cap ∧ OM w' base B R C (k + 1) M ∧ w.heap.size ≤ base ∧ RowC w' A k f ∧ (∀ ad, A = some ad → w.heap.size ≤ ad.block ∧ ad.block < base) ∧
  (∀ j, j < k → -32768 ≤ f j ∧ f j ≤ 32767) ∧ Z.Keeps (ext f) M (k + 1) ∧ Z.Fit M (k + 1)
/-- .. and the numbers are those that came in. -/
def AroundPost2 (lv : Nat) (zv : List Int) (w : World) (e : Ending) (w' : World) : Prop := Below w.heap.size w w' ∧ ∃ (k : Nat) (f : Nat → Int) (A : Option Addr) (c base B : Nat) (R C : Nat → Nat) (cap : Nat) (M : Z.M),
  k ≤ 6 ∧ e = .returned (.tuple #[.agg #[.slice (some ⟨B, 0, none⟩) (k + 1) cap], .slice A k c]) ∧ k + 1 ≤ cap ∧ OM w' base B R C (k + 1) M ∧ w.heap.size ≤ base ∧ RowC w' A k f ∧ (∀ ad, A = some ad → w.heap.size ≤ ad.block ∧ ad.block < base) ∧
  (∀ j, j < k → -32768 ≤ f j ∧ f j ≤ 32767) ∧ Z.Keeps (ext f) M (k + 1) ∧ Z.Fit M (k + 1) ∧ k = min lv 6 ∧ ∀ j, j < k → f j = zv.getD j 0
theorem AroundPost2.one {lv : Nat} {zv : List Int} {w : World} {e : Ending} {w' : World} (h : AroundPost2 lv zv w e w') : AroundPost w e w' := by
  obtain ⟨hb, k, f, A, c, base, B, R, C, cap, M, h1, h2, h3, h4, h5, h6, h7, h8, h9, h10, _, _⟩ := h
  exact ⟨hb, k, f, A, c, base, B, R, C, cap, M, h1, h2, h3, h4, h5, h6, h7, h8, h9, h10⟩
theorem own_rowc {w : World} {base n : Nat} {e : TypeId} {v : Value} {f : Nat → Int} (h : w.ownsRow base e 1 v n ((List.range n).map fun j => Value.int .i64 (f j))) (hn : n ≤ 1000) :
    ∃ (A : Option Addr) (c : Nat), v = .slice A n c ∧ RowC w A n f ∧ ∀ ad, A = some ad → base ≤ ad.block ∧ ad.block < w.heap.size := by
  have hh := h
  rcases h.2 with ⟨rfl, hx⟩ | ⟨g, cap, cur, rfl, hb, hc, hl, hm, hs, ht⟩
  · have h0 : n = 0 := hx
    subst h0
    exact ⟨none, 0, rfl, ⟨by omega, fun q => absurd q (by omega)⟩, fun ad q => by cases q⟩
  refine ⟨_, cap, rfl, ⟨by omega, fun h0 => ⟨_, rfl, fun j hj => ?_⟩⟩, fun ad q => by injection q with q; subst q; exact ⟨hb, (Array.getElem?_eq_some_iff.1 hc).1⟩⟩
  have := hh.cells (g := g) rfl j (.int .i64 (f j)) (by simp [hj])
  exact this
theorem RowC.kept {w w' : World} {A : Option Addr} {n base : Nat} {f : Nat → Int} {R : Nat → Nat} {N : Nat} (h : RowC w A n f) (hk : Kept R N w w') (hA : ∀ ad, A = some ad → ad.block < base) (hR : ∀ i, i < N → base ≤ R i) : RowC w' A n f :=
  ⟨h.1, fun h0 => by
    obtain ⟨a, e, hc⟩ := h.2 h0
    refine ⟨a, e, fun j hj => ?_⟩
    have hl := World.block_lt_of_cell? w _ (hc j hj)
    rw [add_block] at hl
    rw [hk.cell (p := a.add j) (by rw [add_block]; exact hl) (fun i hi => by rw [add_block]; have := hA a e; have := hR i hi; omega)]
    exact hc j hj⟩
theorem IntRow.kept {w w' : World} {k : IntKind} {A : Option Addr} {n base : Nat} {zs : List Int} {R : Nat → Nat} {N : Nat} (h : IntRow w k A n zs) (hk : Kept R N w w') (hR : ∀ i, i < N → w.heap.size ≤ R i) : IntRow w' k A n zs :=
  ⟨h.1, h.2.1, h.2.2.1, fun h0 => by
    obtain ⟨ad, e, hl, hc⟩ := h.2.2.2 h0
    exact ⟨ad, e, Nat.lt_of_lt_of_le hl hk.size, fun j hj => (hk.cell (p := ad.add j) (by rw [add_block]; exact hl) (fun i hi => by rw [add_block]; have := hR i hi; omega)).trans (hc j hj)⟩⟩
theorem RowC.far {w : World} {A : Option Addr} {n : Nat} {f : Nat → Int} (h : RowC w A n f) {p : Addr} (hp : ∀ ad, A = some ad → ad.block ≠ p.block) (v : Value) : RowC (w.setCell p v) A n f :=
  ⟨h.1, fun h0 => by
    obtain ⟨a, e, hc⟩ := h.2 h0
    exact ⟨a, e, fun j hj => by rw [World.cell?_setCell_far _ _ _ _ (by rw [add_block]; exact (hp a e).symm)]; exact hc j hj⟩⟩
theorem ExtIn.kept {w w' : World} {g k N : Nat} {f : Nat → Int} {R : Nat → Nat} (h : ExtIn w g k f) (hk : Kept R N w w') (hR : ∀ i, i < N → R i ≠ g) : ExtIn w' g k f :=
  ⟨Nat.lt_of_lt_of_le h.1 hk.size, fun j hj => (hk.cell (p := ⟨g, j, none⟩) h.1 (fun i hi => (hR i hi).symm)).trans (h.2 j hj)⟩
theorem add_succ (ad : Addr) (k : Nat) (hk : 0 < k) : ad.add k = ⟨ad.block, ad.off + k, none⟩ := by unfold Addr.add; rw [if_neg (by omega)]
theorem ext_bd {f : Nat → Int} {k : Nat} (h : ∀ j, j < k → -32768 ≤ f j ∧ f j ≤ 32767) {i : Nat} (hi : i < k + 1) : -32768 ≤ ext f i ∧ ext f i ≤ 32767 := by
  unfold ext
  split
  · omega
  · exact h _ (by omega)
theorem blank_keeps {f : Nat → Int} {n : Nat} : Z.Keeps (ext f) blankM n := fun i j hi hj h => by
  unfold blankM at *
  split
  · rename_i e; subst e; omega
  · rename_i e; rw [if_neg e] at h; omega
theorem blank_fit (n : Nat) : Z.Fit blankM n := fun i j _ _ => by unfold blankM; split <;> omega
theorem rclose_keeps {X : Nat → Int} {m : Z.M} {n : Nat} (hf : Z.Fit m n) (h : Z.Keeps X m n) : Z.okM (Z.rCloseM m n) n = true ∧ Z.Keeps X (Z.rCloseM m n) n ∧ Z.Fit (Z.rCloseM m n) n := by
  have ha := Z.close_alike hf
  exact ⟨by rw [← Z.ok_alike ha]; exact h.clamp.ok, (h.clamp.close).alike ha, ha.fit (Z.closeM_fit (Z.clampM_fit m n))⟩
set_option maxRecDepth 100000 in
set_option maxHeartbeats 6400000 in
theorem around2_c (av : Option Addr) (lv cv : Nat) (zv : List Int) (ak : Option Addr) (lk ck : Nat) (zk : List Int) (w : World) (hv : IntRow w .i16 av lv zv) (hk : IntRow w .u8 ak lk zk) :
    Calls Try.prog 14 #[.slice av lv cv, .slice ak lk ck] w (AroundPost2 lv zv w) := by
  have hlv := hv.2.1
  have hlk := hk.2.1
  unfold maxLen at hlv hlk
  have HV := Lib.hid hv
  have HK := Lib.hid hk
  clear hv hk
  obtain ⟨i0, hi, hz⟩ := Option.map_eq_some_iff.1 infoI
  simp only [Prod.mk.injEq] at hz
  have HI := Lib.hid (And.intro hi hz)
  clear hi hz
  obtain ⟨k, hke⟩ : ∃ k, min lv 6 = k := ⟨_, rfl⟩
  have hk1 : k ≤ lv := by omega
  have hk2 : k ≤ 6 := by omega
  have hk3 : k < lv → k = 6 := by omega
  have HKE := Lib.hid hke
  clear hke
  go_enter Try.func14, Try.ntmps14
  go_upto_region 2 with fail
  refine at_world (fun W => Hid (Below w.heap.size w W ∧ W.heap.size = w.heap.size + 1 ∧ (∀ o, W.cell? ⟨w.heap.size, o, none⟩ = [Value.slice none 0 0][o]?) ∧ (∀ o, W.frozen? ⟨w.heap.size, o, none⟩ = false))) (Lib.hid ⟨(by repeat' (first | exact Below.refl _ _ | (refine Below.alloc ?_ ?_ _) | (refine Below.setCell ?_ ?_ _) | (refine Below.drew ?_) | (refine below_next ?_ ?_ (by assumption)) | omega | (simp; done) | (simp; omega))), by simp, (by intro o; simp [go_sem]), (by intro o; simp [go_sem])⟩) ?_
  intro W0 H0
  go_upto_block 0 with fail
  go_cut [6] from 15 to 32 (fun v wc => ∃ (A : Option Addr) (c : Nat) (f : Nat → Int), v = .slice A k c ∧ Hid (∀ j, j < k → f j = zv.getD j 0) ∧ Hid (RowC wc A k f ∧ (∀ ad, A = some ad → w.heap.size + 1 ≤ ad.block ∧ ad.block < wc.heap.size) ∧ (∀ j, j < k → -32768 ≤ f j ∧ f j ≤ 32767) ∧ Below w.heap.size w wc ∧ w.heap.size < wc.heap.size ∧ (∀ o, wc.cell? ⟨w.heap.size, o, none⟩ = [Value.slice none 0 0][o]?) ∧ (∀ o, wc.frozen? ⟨w.heap.size, o, none⟩ = false)))
  case first =>
    go_wp2_with fail
    go_loopw [6, 7] (fun v i wr => ∃ t : Nat, t ≤ k ∧ i = .int .i64 t ∧ wr.ownsRow (w.heap.size + 1) 3 1 v t ((List.range t).map fun j => Value.int .i64 (zv.getD j 0)) ∧ Below (w.heap.size + 1) W0 wr) (fun _ i _ => k - (intOf i).toNat)
    case atStart => exact ⟨0, by omega, rfl, own_nil _ _ _, Below.refl _ _⟩
    case round =>
      obtain ⟨t, ht, rfl, hown, hb⟩ := hrel
      have HO := Lib.hid hown
      have HB := Lib.hid hb
      have hs0 : w.heap.size + 1 ≤ wr.heap.size := by have := H0.out.2.1; have := hb.size; omega
      have HW : Hid (Below w.heap.size w wr) := Lib.hid (H0.out.1.trans (hb.mono (by omega)))
      clear hown hb
      obtain ⟨wo, rfl⟩ : ∃ wo : World, wo = wr := ⟨_, rfl⟩
      obtain ⟨va, rfl⟩ : ∃ va : Value, va = u6 := ⟨_, rfl⟩
      by_cases hlt : t < k
      · have g1 : decide (t < lv) = true := decide_eq_true (by omega)
        have g2 : decide (t < 6) = true := decide_eq_true (by omega)
        have g3 : decide ((t : Int) < 6) = true := decide_eq_true (by omega)
        obtain ⟨ad, rfl, hbl, hc⟩ := (HV.out.below HW.out).2.2.2 (by omega)
        have c1 := hc t (by omega)
        have bz := wf_i16 (HV.out.wf (j := t) (by omega))
        have ht0 : (0 : Int) ≤ (t : Int) := by omega
        have ht1 : (t : Int) < (lv : Int) := by omega
        obtain ⟨x, hx⟩ : ∃ x, zv.getD t 0 = x := ⟨_, rfl⟩
        rw [hx] at c1 bz
        have HY : Hid (Value.int .i64 x = Value.int .i64 (zv.getD t 0)) := Lib.hid (by rw [hx])
        have ex : wrap64 x = x := by unfold wrap64; omega
        clear hx hc hbl
        go_wp2_with (at_builtin; refine wpList_append_own_at _ rfl (.tmp 25) (.tmp 31) 30 rfl (w.heap.size + 1) 3 i0 (.int .i64 0) 1 8 Try.underlying30 HI.out.1 HI.out.2.1 HI.out.2.2.1 HI.out.2.2.2 rfl (by omega) va t _ (by rfl) (own_below HO.out ((Below.refl _ _).alloc (Nat.le_refl _) _)) ⟨wo.heap.size, 0, none⟩ 1 1 [Value.int .i64 x] (by rfl) rfl (news_one _ _ _) (by simp [Value.oneCell']) (by unfold maxLen; omega) (by omega) (by simp; omega) ?_; intro v2 w2 hown2 hg2 _ hat2; have HN := Lib.hid (own_snoc hown2 HY.out); have HB2 : Hid (Below (w.heap.size + 1) W0 w2) := Lib.hid ((HB.out.alloc hs0 _).grown hg2 (by simp; omega) (fun q hq => (own_blk HO.out q hq).1)); clear hown2 hg2 hat2)
        all_goals exact ⟨⟨t + 1, by omega, by go_num, HN.out, HB2.out⟩, by simp [intOf]; omega⟩
      · obtain rfl : t = k := by omega
        obtain ⟨A, c, rfl, hrow, hA⟩ := own_rowc HO.out (by omega)
        have HC : Hid (RowC wo A t (fun j => zv.getD j 0) ∧ (∀ ad, A = some ad → w.heap.size + 1 ≤ ad.block ∧ ad.block < wo.heap.size) ∧ (∀ j, j < t → -32768 ≤ zv.getD j 0 ∧ zv.getD j 0 ≤ 32767) ∧ Below w.heap.size w wo ∧ w.heap.size < wo.heap.size ∧ (∀ o, wo.cell? ⟨w.heap.size, o, none⟩ = [Value.slice none 0 0][o]?) ∧ (∀ o, wo.frozen? ⟨w.heap.size, o, none⟩ = false)) := Lib.hid ⟨hrow, hA, fun j hj => wf_i16 (HV.out.wf (j := j) (by omega)), HW.out, by omega, fun o => (HB.out.cell (p := ⟨w.heap.size, o, none⟩) (by show w.heap.size < _; omega)).trans (H0.out.2.2.1 o), fun o => (HB.out.frozen (p := ⟨w.heap.size, o, none⟩) (by show w.heap.size < _; omega)).trans (H0.out.2.2.2 o)⟩
        clear hrow hA
        by_cases hl : t < lv
        · have g1 : decide (t < lv) = true := decide_eq_true hl
          have h6 : t = 6 := hk3 hl
          have g2 : decide ((6 : Int) < (lv : Int)) = true := decide_eq_true (by omega)
          subst h6
          clear hl ht hlt hk3
          go_wp2_with fail
          go_meet
          case rel => exact ⟨A, c, _, rfl, Lib.hid (fun _ _ => rfl), HC⟩
        · have g1 : decide (t < lv) = false := decide_eq_false hl
          clear hl ht hlt hk3
          go_wp2_with fail
          go_meet
          case rel => exact ⟨A, c, _, rfl, Lib.hid (fun _ _ => rfl), HC⟩
  case rest =>
    obtain ⟨A, c, f, rfl, HFE, H1⟩ := hcut
    clear H0 HV hk1 hk3 hlv W0
    obtain ⟨W1, rfl⟩ : ∃ W1 : World, W1 = wc := ⟨_, rfl⟩
    obtain ⟨n, hn⟩ : ∃ n, k + 1 = n := ⟨_, rfl⟩
    have BL : ∀ W, Calls Try.prog 36 #[.int .i64 k] W (NewM W n blankM) := fun W => by rw [← hn]; exact blank_c k W (by omega)
    have hn1 : 1 ≤ n := by omega
    have hn7 : n ≤ 7 := by omega
    have HN := Lib.hid hn
    clear hn
    go_upto_region 7 with (go_at_call 36; refine (BL _).mono ?_; rintro e w2 ⟨B, R, C, cap, rfl, hcap, hom, hb⟩)
    have HZ := Lib.hid (And.intro hom hb)
    have HCAP := Lib.hid hcap
    clear hom hb hcap BL
    go_upto_region 8 with (at_builtin; refine wpList_append_src _ rfl (.tmp 36) (.tmp 37) 30 rfl (w2.heap.size + 1) 3 i0 (.int .i64 0) 1 8 Try.underlying30 HI.out.1 HI.out.2.1 HI.out.2.2.1 HI.out.2.2.2 rfl (by omega) (.slice (some ⟨w2.heap.size + 1, 0, none⟩) 1 1) 1 [.int .i64 0] (by rfl) (by simpa using own_single (w2.alloc (.cells #[.slice (some ⟨B, 0, none⟩) n cap] 24)) 3 (.int .i64 0)) A k c ((List.range k).map fun j => Value.int .i64 (f j)) (by rfl) (by simp) (((H1.out.1.below HZ.out.2).lies.below ((Below.refl _ _).alloc (Nat.le_refl _) _)).below ((Below.refl _ _).alloc (Nat.le_refl _) _)) (by simp [Value.oneCell']) (by unfold maxLen; omega) (by omega) (by simp) ?_; intro v1 w3 hown hg hat)
    have hb3 : Below w2.heap.size w2 w3 := (((Below.refl _ _).alloc (Nat.le_refl _) _).alloc (by simp) _).grown hg (by simp; omega) (by rintro k hk; simp [Value.ownBlock] at hk; omega)
    have hz8 : ∀ o, w3.cell? ⟨w2.heap.size, o, none⟩ = [Value.slice (some ⟨B, 0, none⟩) n cap][o]? := by
      intro o
      have := hg.block w2.heap.size (by simp; omega) (by simp [Value.ownBlock])
      rw [cell_kept (p := ⟨w2.heap.size, o, none⟩) this]
      simp [go_sem]
    have hs8 : w2.heap.size < w3.heap.size := by have := hg.size; simp at this; omega
    rw [ext_list, show 1 + k = n from by have := HN.out; omega, HN.out] at hown
    obtain ⟨g, c2, rfl, q1, q2, q3, q4, q5⟩ := own_row hown hn1
    have hb2 := HZ.out.2
    refine at_world (fun W => Hid (OM W W1.heap.size B R C n blankM ∧ ExtIn W g k f ∧ RowC W A k f ∧ (∀ ad, A = some ad → w.heap.size + 1 ≤ ad.block ∧ ad.block < W1.heap.size) ∧ (∀ i, i < n → R i ≠ g ∧ R i ≠ w2.heap.size) ∧ W1.heap.size ≤ w2.heap.size ∧ Below w.heap.size w W ∧ w.heap.size < W1.heap.size ∧ w2.heap.size < W.heap.size ∧ (∀ o, W.cell? ⟨w.heap.size, o, none⟩ = [Value.slice none 0 0][o]?) ∧ (∀ o, W.frozen? ⟨w.heap.size, o, none⟩ = false) ∧ W1.heap.size ≤ W.heap.size) ∧ Hid (∀ o, W.cell? ⟨w2.heap.size, o, none⟩ = [Value.slice (some ⟨B, 0, none⟩) n cap][o]?)) ⟨Lib.hid ⟨HZ.out.1.below hb3, ⟨q2, fun j hj => q4 j (by have := HN.out; omega)⟩, (H1.out.1.below hb2).below hb3, H1.out.2.1, fun i hi => ?_, hb2.size, (H1.out.2.2.2.1.trans (hb2.mono H1.out.2.2.2.1.size)).trans (hb3.mono (by have := hb2.size; have := H1.out.2.2.2.2.1; omega)), H1.out.2.2.2.2.1, hs8, fun o => ?_, fun o => ?_, by have := hb2.size; omega⟩, Lib.hid hz8⟩ ?_
    · have := (HZ.out.1.hR i hi).2.1
      exact ⟨by omega, by omega⟩
    · exact ((hb3.cell (p := ⟨w.heap.size, o, none⟩) (by have := hb2.size; have := H1.out.2.2.2.2.1; show w.heap.size < _; omega)).trans (hb2.cell (p := ⟨w.heap.size, o, none⟩) H1.out.2.2.2.2.1)).trans (H1.out.2.2.2.2.2.1 o)
    · exact ((hb3.frozen (p := ⟨w.heap.size, o, none⟩) (by have := hb2.size; have := H1.out.2.2.2.2.1; show w.heap.size < _; omega)).trans (hb2.frozen (p := ⟨w.heap.size, o, none⟩) H1.out.2.2.2.2.1)).trans (H1.out.2.2.2.2.2.2 o)
    have HF := Lib.hid H1.out.2.2.1
    obtain ⟨b8, hb8⟩ : ∃ b, w2.heap.size = b := ⟨_, rfl⟩
    simp only [hb8]
    clear hb3 hz8 hs8 hown q1 q2 q3 q4 q5 hb2 hg hat HZ H1 hb8 w2 w3 HI
    intro W3 ⟨H3, HK8⟩
    go_upto_block 2 with fail
    go_cut [] from 39 to 102 (fun wc => ∃ M, Hid (OM wc W1.heap.size B R C n M ∧ Z.Fit M n ∧ Z.Keeps (ext f) M n ∧ Kept R n W3 wc))
    case first =>
      go_wp2_with fail
      go_loopw [10] (fun i wr => ∃ (q : Nat) (M : Z.M), q ≤ 62 ∧ i = .int .i64 q ∧ OM wr W1.heap.size B R C n M ∧ Z.Fit M n ∧ Z.Keeps (ext f) M n ∧ Kept R n W3 wr) (fun i _ => 63 - (intOf i).toNat)
      case atStart => exact ⟨0, blankM, by omega, rfl, H3.out.1, blank_fit n, blank_keeps, Kept.refl _ _ _⟩
      case round =>
        obtain ⟨q, M, hq, rfl, hom, hfit, hkeeps, hkept⟩ := hrel
        have HM := Lib.hid (And.intro hom (And.intro hfit (And.intro hkeeps hkept)))
        clear hom hfit hkeeps hkept
        obtain ⟨wo, rfl⟩ : ∃ wo : World, wo = wr := ⟨_, rfl⟩
        by_cases h1 : q + 2 < lk
        · have g1 : decide (q + 2 < lk) = true := decide_eq_true h1
          have g1' : decide ((q : Int) + 2 < (lk : Int)) = true := decide_eq_true (by omega)
          by_cases h2 : q < 60
          · have g2 : decide ((q : Int) < 60) = true := decide_eq_true (by omega)
            have HW : Hid (Below w.heap.size w wo) := Lib.hid (HM.out.2.2.2.below (fun i hi => by have := (HM.out.1.hR i hi).1; have := H3.out.2.2.2.2.2.2.2.1; omega) H3.out.2.2.2.2.2.2.1 H3.out.2.2.2.2.2.2.1.size)
            obtain ⟨ad, rfl, hbl, hc⟩ := (HK.out.below HW.out).2.2.2 (by omega)
            have c0 := hc q (by omega)
            have c1 := hc (q + 1) (by omega)
            have c2 := hc (q + 2) (by omega)
            rw [add_succ _ _ (by omega)] at c1 c2
            have b0 := wf_u8 (HK.out.wf (j := q) (by omega))
            have b1 := wf_u8 (HK.out.wf (j := q + 1) (by omega))
            have b2 := wf_u8 (HK.out.wf (j := q + 2) (by omega))
            obtain ⟨x0, hx0⟩ : ∃ x, zk.getD q 0 = x := ⟨_, rfl⟩
            obtain ⟨x1, hx1⟩ : ∃ x, zk.getD (q + 1) 0 = x := ⟨_, rfl⟩
            obtain ⟨x2, hx2⟩ : ∃ x, zk.getD (q + 2) 0 = x := ⟨_, rfl⟩
            rw [hx0] at c0 b0
            rw [hx1] at c1 b1
            rw [hx2] at c2 b2
            clear hx0 hx1 hx2 hc
            obtain ⟨a, ha⟩ : ∃ a : Nat, x0 % (n : Int) = (a : Int) := ⟨(x0 % (n : Int)).toNat, by have := Int.emod_nonneg x0 (b := (n : Int)) (by omega); omega⟩
            obtain ⟨b, hb⟩ : ∃ b : Nat, x1 % (n : Int) = (b : Int) := ⟨(x1 % (n : Int)).toNat, by have := Int.emod_nonneg x1 (b := (n : Int)) (by omega); omega⟩
            have han : a < n := by have := Int.emod_lt_of_pos x0 (b := (n : Int)) (by omega); omega
            have hbn : b < n := by have := Int.emod_lt_of_pos x1 (b := (n : Int)) (by omega); omega
            have ex0 : wrap64 x0 = x0 := by unfold wrap64; omega
            have ex1 : wrap64 x1 = x1 := by unfold wrap64; omega
            have ex2 : wrap64 x2 = x2 := by unfold wrap64; omega
            have hq0 : (0 : Int) ≤ (q : Int) := by omega
            have hq1 : (q : Int) < (lk : Int) := by omega
            have hq2 : (q : Int) + 1 < (lk : Int) := by omega
            have hq3 : (q : Int) + 2 < (lk : Int) := by omega
            have d0 := fun (x : WIn (Below wo.heap.size wo)) => cell_later x.h c0
            have d1 := fun (x : WIn (Below wo.heap.size wo)) => cell_later x.h c1
            clear c0 c1
            go_upto_region 11 with fail
            refine region_in (Below wo.heap.size wo) (by kernel_rfl) (by kernel_rfl) (Below.refl _ _).drew (fun inst => ?_)
            iterate 19 (go_big_quiet_step (fail))
            refine wpQuiet_nil ?_
            intro wd hbd
            have c3 := cell_later hbd c2
            have HD := Lib.hid hbd
            simp only [ha, hb]
            clear d0 d1 c2 ha hb ex0 ex1 hbd inst
            by_cases eab : a = b
            · have g3 : ((a : Int) != (b : Int)) = false := by simp; omega
              clear eab
              go_wp2_with fail
              all_goals exact ⟨⟨q + 3, M, by omega, by go_num, HM.out.1.below HD.out, HM.out.2.1, HM.out.2.2.1, HM.out.2.2.2.grow HD.out⟩, by simp [intOf]; omega⟩
            · have g3 : ((a : Int) != (b : Int)) = true := by simp; omega
              have hom := HM.out.1.below HD.out
              have hkp := HM.out.2.2.2.grow HD.out
              have hxi := H3.out.2.1.kept hkp (fun i hi => (H3.out.2.2.2.2.1 i hi).1)
              have k8 := fun o => (hkp.cell (p := ⟨b8, o, none⟩) H3.out.2.2.2.2.2.2.2.2.1 (fun i hi => (H3.out.2.2.2.2.1 i hi).2.symm)).trans (HK8.out o)
              have c4 := hom.outer a han
              have c5 := hom.inner a b han hbn
              have f5 := hom.frz a b han hbn
              have c6 := hxi.2 a (by have := HN.out; omega)
              have c7 := hxi.2 b (by have := HN.out; omega)
              have ba := ext_bd HF.out (i := a) (by have := HN.out; omega)
              have bb := ext_bd HF.out (i := b) (by have := HN.out; omega)
              have bf := HM.out.2.1 a b han hbn
              have bk := HM.out.2.2.1 a b han hbn
              have ha0 : (0 : Int) ≤ (a : Int) := by omega
              have ha1 : (a : Int) < (n : Int) := by omega
              have hb0 : (0 : Int) ≤ (b : Int) := by omega
              have hb1 : (b : Int) < (n : Int) := by omega
              have HOM := Lib.hid (And.intro hom hkp)
              clear hom hkp hxi eab
              obtain ⟨v, hv⟩ : ∃ v, M a b = v := ⟨_, rfl⟩
              obtain ⟨ya, hya⟩ : ∃ v, ext f a = v := ⟨_, rfl⟩
              obtain ⟨yb, hyb⟩ : ∃ v, ext f b = v := ⟨_, rfl⟩
              rw [hv] at c5 bf bk
              rw [hya] at c6 ba bk
              rw [hyb] at c7 bb bk
              obtain ⟨y, hy⟩ : ∃ y, (if ya - yb + x2 % 30 < v then ya - yb + x2 % 30 else v) = y := ⟨_, rfl⟩
              have HY : Hid (-1099511627776 ≤ y ∧ y ≤ 1099511627776 ∧ ext f a - ext f b ≤ y) := Lib.hid (by
                rw [hya, hyb, ← hy]
                by_cases cv : v < 1099511627776
                · have := bk cv; split <;> omega
                · split <;> omega)
              clear hv hya hyb bk
              obtain ⟨wi, rfl⟩ : ∃ wi : World, wi = wd := ⟨_, rfl⟩
              have hs8 : b8 < wi.heap.size := by have := H3.out.2.2.2.2.2.2.2.2.1; have := HOM.out.2.size; omega
              have d3 := fun (x' : WIn (Below wi.heap.size wi)) => cell_later x'.h c3
              have d4 := fun (x' : WIn (Below wi.heap.size wi)) => cell_later x'.h c4
              have d5 := fun (x' : WIn (Below wi.heap.size wi)) => cell_later x'.h c5
              have d6 := fun (x' : WIn (Below wi.heap.size wi)) => cell_later x'.h c6
              have d7 := fun (x' : WIn (Below wi.heap.size wi)) => cell_later x'.h c7
              have d8 := fun (x' : WIn (Below wi.heap.size wi)) (o : Nat) => (x'.h.cell (p := ⟨b8, o, none⟩) hs8).trans (k8 o)
              clear c3 c4 c5 c6 c7 k8
              go_upto_region 13 with fail
              refine region_tail 33 (Below wi.heap.size wi) (by kernel_rfl) (by kernel_rfl) (Below.refl _ _).drew (fun inst => ?_)
              simp only [List.take_succ_cons, List.take_zero, List.drop_succ_cons, List.drop_zero]
              iterate 33 (go_big_quiet_step (fail))
              refine wpQuiet_nil ?_
              intro we hbe
              (try simp only [hy])
              have f4 : we.frozen? ⟨R a, b, none⟩ = false := by rw [hbe.frozen (p := ⟨R a, b, none⟩) (HOM.out.1.hR a han).2.1]; exact f5
              obtain ⟨v4, k4⟩ : ∃ v, we.cell? ⟨R a, b, none⟩ = some v := ⟨_, (HOM.out.1.below hbe).inner a b han hbn⟩
              clear d3 d4 d5 d6 d7 d8 f5 hy
              go_wp2_with fail
              all_goals exact ⟨⟨q + 3, Z.upd M a b y, by omega, by go_num, (HOM.out.1.below hbe).set han hbn _, HM.out.2.1.upd HY.out.1 HY.out.2.1, HM.out.2.2.1.upd (fun _ => HY.out.2.2), (HOM.out.2.grow hbe).setCell han _ _⟩, by simp [intOf]; omega⟩
          · have g2 : decide ((q : Int) < 60) = false := decide_eq_false (by omega)
            clear h1 h2
            go_wp2_with fail
            go_meet
            case rel => exact ⟨M, HM⟩
        · have g1 : decide (q + 2 < lk) = false := decide_eq_false h1
          have g1' : decide ((q : Int) + 2 < (lk : Int)) = false := decide_eq_false (by omega)
          clear h1
          go_wp2_with fail
          go_meet
          case rel => exact ⟨M, HM⟩
    case rest =>
      obtain ⟨M, HM⟩ := hcut
      clear HK hlk
      have k8 := fun o => (HM.out.2.2.2.cell (p := ⟨b8, o, none⟩) H3.out.2.2.2.2.2.2.2.2.1 (fun i hi => (H3.out.2.2.2.2.1 i hi).2.symm)).trans (HK8.out o)
      have HC := Lib.hid (rclose_keeps HM.out.2.1 HM.out.2.2.1)
      obtain ⟨M2, hM2⟩ : ∃ M2, Z.rCloseM M n = M2 := ⟨_, rfl⟩
      have RC := rclose_c ⟨B, 0, none⟩ n cap M wc hn1 (by omega) HM.out.1.rm HM.out.2.1
      rw [hM2] at RC HC
      clear hM2
      have HR3 : Hid (RowC wc A k f) := Lib.hid (H3.out.2.2.1.kept HM.out.2.2.2 (fun ad h => (H3.out.2.2.2.1 ad h).2) (fun i hi => (HM.out.1.hR i hi).1))
      have HW : Hid (Below w.heap.size w wc) := Lib.hid (HM.out.2.2.2.below (fun i hi => by have := (HM.out.1.hR i hi).1; have := H3.out.2.2.2.2.2.2.2.1; omega) H3.out.2.2.2.2.2.2.1 H3.out.2.2.2.2.2.2.1.size)
      have hsw : w.heap.size < wc.heap.size := by have := H3.out.2.2.2.2.2.2.2.1; have := H3.out.2.2.2.2.2.2.2.2.2.2.2; have := HM.out.2.2.2.size; omega
      have k1 := fun o => (HM.out.2.2.2.cell (p := ⟨w.heap.size, o, none⟩) (by have := H3.out.2.2.2.2.2.2.2.1; have := H3.out.2.2.2.2.2.2.2.2.2.2.2; show w.heap.size < _; omega) (fun i hi => by have := (HM.out.1.hR i hi).1; have := H3.out.2.2.2.2.2.2.2.1; show w.heap.size ≠ _; omega)).trans (H3.out.2.2.2.2.2.2.2.2.2.1 o)
      have f1 := fun o => (HM.out.2.2.2.frozen (p := ⟨w.heap.size, o, none⟩) (by have := H3.out.2.2.2.2.2.2.2.1; have := H3.out.2.2.2.2.2.2.2.2.2.2.2; show w.heap.size < _; omega) (fun i hi => by have := (HM.out.1.hR i hi).1; have := H3.out.2.2.2.2.2.2.2.1; show w.heap.size ≠ _; omega)).trans (H3.out.2.2.2.2.2.2.2.2.2.2.1 o)
      have HA : Hid (∀ ad, A = some ad → w.heap.size + 1 ≤ ad.block ∧ ad.block < wc.heap.size) := Lib.hid (fun ad h => by have := H3.out.2.2.2.1 ad h; have := H3.out.2.2.2.2.2.2.2.2.2.2.2; have := HM.out.2.2.2.size; omega)
      clear HM H3 HK8
      go_upto_region 15 with (go_at_call 22; refine RC.mono ?_; rintro e w5 ⟨hb5, ⟨ok, B', R', C', cap', rfl, hcap5, hom5⟩ | ⟨ok, rfl⟩⟩)
      rotate_left
      · rw [HC.out.1] at ok; cases ok
      have H5 := Lib.hid (And.intro hb5 hom5)
      have hs5 := hb5.size
      have k1' := fun o => (hb5.cell (p := ⟨w.heap.size, o, none⟩) hsw).trans (k1 o)
      have f1' := fun o => (hb5.frozen (p := ⟨w.heap.size, o, none⟩) hsw).trans (f1 o)
      have hl5 : w.heap.size < w5.heap.size := by omega
      clear hb5 hom5 ok k1 f1 k8 RC
      go_wp2_with fail
      obtain rfl := HN.out
      refine bodyPost_ret (v := .tuple #[.agg #[.slice (some ⟨B', 0, none⟩) (k + 1) cap'], .slice A k c]) (by simp [results, Try.results14, go_sem, *]) rfl ⟨((HW.out.trans (H5.out.1.mono HW.out.size)).setCell (by exact Nat.le_refl _) _).alloc (by simp; omega) _, k, f, A, c, wc.heap.size, B', R', C', cap', M2, hk2, rfl, hcap5, ?_, by omega, ?_, fun ad h => by have := HA.out ad h; omega, HF.out, HC.out.2.1, HC.out.2.2, HKE.out.symm, HFE.out⟩
      · exact (H5.out.2.keep (by simp) (Below.heap_setCell _ ⟨w.heap.size, 0, none⟩ _ _ (by have := H5.out.2.hB.1; show B' ≠ w.heap.size; omega)) (fun i hi => Below.heap_setCell _ ⟨w.heap.size, 0, none⟩ _ _ (by have := (H5.out.2.hR i hi).1; show R' i ≠ w.heap.size; omega))).below ((Below.refl _ _).alloc (Nat.le_refl _) _)
      · exact ((HR3.out.below H5.out.1).far (fun ad h => by have := HA.out ad h; show ad.block ≠ w.heap.size; omega) _).below ((Below.refl _ _).alloc (Nat.le_refl _) _)
theorem around_c (av : Option Addr) (lv cv : Nat) (zv : List Int) (ak : Option Addr) (lk ck : Nat) (zk : List Int) (w : World) (hv : IntRow w .i16 av lv zv) (hk : IntRow w .u8 ak lk zk) :
    Calls Try.prog 14 #[.slice av lv cv, .slice ak lk ck] w (AroundPost w) := (around2_c av lv cv zv ak lk ck zk w hv hk).mono fun _ _ h => h.one
end Go.Proofs.Ytnopjijhbflfdaa.C
