/- state.Top: walk. -/
import Derived.Test.YtdmphpkiclfhhaaSt4
namespace Go.Proofs.Ytdmphpkiclfhhaa.C
open Go.RowKit
set_option linter.unusedSimpArgs false
set_option linter.unusedVariables false
attribute [local go_sem] fieldItv0 fieldItv1
/-- k rows have been appended: each of the call's own. -/
def TpIn (w : World) (v : Value) (k : Nat) (AA : Nat → Option Addr) (cc ln : Nat → Nat) (rr : Nat → Nat → Int × Int) (W : World) : Prop :=
  Below w.heap.size w W ∧ W.ownsRow w.heap.size 61 1 v k ((List.range k).map fun i => Value.slice (AA i) (ln i) (cc i)) ∧ (∀ i, i < k → OI W w.heap.size (AA i) (ln i) (cc i) (rr i) ∧ ∀ x, v.ownBlock = some x → (Value.slice (AA i) (ln i) (cc i)).ownBlock ≠ some x)
theorem TpIn.below {w W W' : World} {v : Value} {k : Nat} {AA : Nat → Option Addr} {cc ln : Nat → Nat} {rr : Nat → Nat → Int × Int} (h : TpIn w v k AA cc ln rr W) (hb : Below W.heap.size W W') : TpIn w v k AA cc ln rr W' :=
  ⟨below_next h.1 h.1.size hb, ownI_below h.2.1 hb, fun i hi => ⟨(h.2.2 i hi).1.below hb, (h.2.2 i hi).2⟩⟩
theorem own_keptI {w w' : World} {base : Nat} {e : TypeId} {size : Nat} {v : Value} {n : Nat} {xs : List Value} (h : w.ownsRow base e size v n xs) (hk : ∀ x, v.ownBlock = some x → w'.heap[x]? = w.heap[x]?) : w'.ownsRow base e size v n xs := by
  obtain ⟨h1, h2⟩ := h
  refine ⟨h1, ?_⟩
  rcases h2 with h2 | ⟨g, cap, cur, rfl, hg, hh, r⟩
  · exact .inl h2
  · exact .inr ⟨g, cap, cur, rfl, hg, (hk g rfl).trans hh, r⟩
/-- One row more (A, c: new since w1), then the append in a world behind. -/
theorem TpIn.snoc {w w1 w2 W3 : World} {v v2 : Value} {k : Nat} {AA : Nat → Option Addr} {cc ln : Nat → Nat} {rr : Nat → Nat → Int × Int} {A : Option Addr} {c : Nat} (h : TpIn w v k AA cc ln rr w1) (hb : Below w1.heap.size w1 w2) (hn : OI w2 w1.heap.size A (ln k) c (rr k))
    {o : Obj} (hown : W3.ownsRow w.heap.size 61 1 v2 (k + 1) (((List.range k).map fun i => Value.slice (AA i) (ln i) (cc i)) ++ [.slice A (ln k) c])) (hg : (w2.alloc o).grownBy W3 v.ownBlock) (hat : v2.ownBlock = v.ownBlock ∨ v2.ownBlock = some (w2.alloc o).heap.size) :
    TpIn w v2 (k + 1) (fun i => if i = k then A else AA i) (fun i => if i = k then c else cc i) ln rr W3 := by
  have h2 := h.below hb
  have hsz : (w2.alloc o).heap.size = w2.heap.size + 1 := by simp
  have hs1 := h.1.size
  have hs2 := hb.size
  have keep : ∀ b, b < w2.heap.size → v.ownBlock ≠ some b → W3.heap[b]? = w2.heap[b]? := fun b hl hne => (hg.block b (by omega) (fun e => hne e.symm)).trans (Below.heap_alloc w2 o b hl)
  have hv : ∀ x, v.ownBlock = some x → w.heap.size ≤ x ∧ x < w1.heap.size := fun x hx => World.ownsRow.lt h.2.1 x hx
  refine ⟨(h2.1.alloc h2.1.size o).grown hg (by omega) (fun q hq => (hv q hq).1), ?_, fun i hi => ?_⟩
  · rw [List.range_succ, List.map_append, List.map_cons, List.map_nil]
    simp only [if_true]
    have e : (List.range k).map (fun i => Value.slice (if i = k then A else AA i) (ln i) (if i = k then c else cc i)) = (List.range k).map (fun i => Value.slice (AA i) (ln i) (cc i)) := by
      refine List.map_congr_left (fun i hi => ?_)
      have hne : i ≠ k := by have := List.mem_range.1 hi; omega
      simp only [hne, if_false]
    rw [e]
    exact hown
  · by_cases e : i = k
    · subst e
      simp only [if_true]
      have hl : ∀ x, (Value.slice A (ln i) c).ownBlock = some x → w1.heap.size ≤ x ∧ x < w2.heap.size := fun x hx => World.ownsRow.lt hn x hx
      have hoi : OI W3 w1.heap.size A (ln i) c (rr i) := own_keptI hn (fun x hx => keep x (hl x hx).2 (fun e => by have := (hv x e).2; have := (hl x hx).1; omega))
      refine ⟨OI.mono hoi hs1, fun x hx hc => ?_⟩
      have h3 := hl x hc
      rcases hat with hat | hat
      · rw [hat] at hx; have := (hv x hx).2; omega
      · rw [hat] at hx; injection hx with hx; omega
    · simp only [e, if_false]
      obtain ⟨h3, h4⟩ := h2.2.2 i (by omega)
      have hl : ∀ x, (Value.slice (AA i) (ln i) (cc i)).ownBlock = some x → x < w2.heap.size := fun x hx => (World.ownsRow.lt h3 x hx).2
      refine ⟨own_keptI h3 (fun x hx => keep x (hl x hx) (fun e => h4 x e hx)), fun x hx hc => ?_⟩
      rcases hat with hat | hat
      · rw [hat] at hx; exact h4 x hx hc
      · rw [hat] at hx; injection hx with hx; have := hl x hc; omega
theorem TpIn.cc {w W : World} {v : Value} {k : Nat} {AA : Nat → Option Addr} {cc ln : Nat → Nat} {rr : Nat → Nat → Int × Int} (h : TpIn w v k AA cc ln rr W) (hk : k ≤ 1000) (hl : ∀ i, i < k → ln i ≤ 1000) : ∃ B c, v = .slice B k c ∧ CC W B k ln rr := by
  have hh := h.2.1
  rcases h.2.1.2 with ⟨rfl, h0⟩ | ⟨g, cap, cur, rfl, hb, hc, hl2, hm, hs, ht⟩
  · exact ⟨none, 0, by rw [h0], by omega, hl, fun h => absurd h (by omega)⟩
  · refine ⟨_, cap, rfl, by omega, hl, fun _ => ⟨_, rfl, (Array.getElem?_eq_some_iff.1 hc).1, fun i hi => ⟨AA i, cc i, ?_, (h.2.2 i hi).1.cr⟩⟩⟩
    rw [i_plain, hh.cellAt i (by omega)]
    simp [hi]
def topLn (sz : Nat → Int) : Nat → Nat := fun i => topN (sz i)
def topRr (ts : Nat → Int) : Nat → Nat → Int × Int := fun i _ => ofI (ts i)
theorem topLn_le (sz : Nat → Int) (i : Nat) : topLn sz i ≤ 1000 := by unfold topLn topN; omega
theorem st_sl (W : World) (u : Value) (t : TypeId) : ∀ j x, ([u] : List Value)[j]? = some x → (W.alloc (.cells #[u] t)).cell? ((⟨W.heap.size, 0, none⟩ : Addr).add j) = some x := by
  intro j x hu
  rw [i_plain, cell_of_row _ _ _ _ _ _ (heap_alloc_new W _)]
  simpa using hu
/-- What state.Top leaves where each type is one. -/
def TopSt (n m : Nat) (vt at' asz : Nat → Int) (w : World) (e : Ending) (w' : World) : Prop :=
  ∃ (zb : Nat) (R C : Nat → Nat) (zc : Nat) (B : Option Addr), e = .returned (.agg #[.bool false, .slice (some ⟨zb, 0, none⟩) (n + 1) zc, .slice B m m]) ∧ OM w' w.heap.size zb R C (n + 1) (Z.closeM (topM vt n) (n + 1)) ∧ CC w' B m (topLn asz) (topRr at') ∧ Below w.heap.size w w'
set_option maxRecDepth 100000 in
set_option maxHeartbeats 6400000 in
theorem stTop_c (A B : Option Addr) (n m c1 c2 : Nat) (nm nm2 : Nat → ByteArray) (vt vs vi at' asz ai : Nat → Int) (w : World) (hn : n ≤ 100) (hm : m ≤ 1000) (hv : BR w A n nm vt vs vi) (ha : BR w B m nm2 at' asz ai) (hne : anyEE (topLn asz) (topRr at') m = false) :
    Calls Try.prog 16 #[.agg #[.slice A n c1, .slice B m c2]] w (TopSt n m vt at' asz w) := by
  have HV := Lib.hid hv
  have HA := Lib.hid ha
  obtain ⟨i0, hi, hzz⟩ := Option.map_eq_some_iff.1 infoRI
  simp only [Prod.mk.injEq] at hzz
  have HInf := Lib.hid (And.intro hi hzz)
  have HNE := Lib.hid hne
  clear hv ha hi hzz hne
  go_enter Try.func16, Try.ntmps16
  go_upto_region 2 with fail
  refine at_world (fun W => Hid (Below w.heap.size w W ∧ w.heap.size + 1 < W.heap.size ∧ (∀ o, W.cell? ⟨w.heap.size, o, none⟩ = [Value.slice A n c1, Value.slice B m c2][o]?) ∧ (∀ o, W.cell? ⟨w.heap.size + 1, o, none⟩ = [Value.bool false, Value.slice none 0 0, Value.slice none 0 0][o]?) ∧ (∀ o, W.frozen? ⟨w.heap.size + 1, o, none⟩ = false))) (Lib.hid ⟨(by repeat' (first | exact Below.refl _ _ | (refine Below.alloc ?_ ?_ _) | (refine Below.setCell ?_ ?_ _) | (refine Below.drew ?_) | (refine below_next ?_ ?_ (by assumption)) | omega | (simp; done) | (simp; omega))), by simp, (by intro o; simp [go_sem]), (by intro o; simp [go_sem]), (by intro o; simp [go_sem])⟩) ?_
  intro W0 H0
  have k0 := H0.out.2.2.1
  go_upto_region 3 with fail
  clear k0
  go_wp2_with fail
  go_loopw [3, 9] (fun v i wr => ∃ (k : Nat) (AA : Nat → Option Addr) (cc : Nat → Nat), k ≤ m ∧ i = .int .i64 k ∧ Hid (TpIn W0 v k AA cc (topLn asz) (topRr at') wr)) (fun _ i _ => m - (intOf i).toNat)
  case atStart => exact ⟨0, fun _ => none, fun _ => 0, by omega, rfl, Lib.hid ⟨Below.refl _ _, World.ownsRow_nil _ _ _ _, fun i hi => absurd hi (by omega)⟩⟩
  case round =>
    obtain ⟨k, AA, cc, hk, rfl, HI⟩ := hrel
    obtain ⟨wo, rfl⟩ : ∃ wo : World, wo = wr := ⟨_, rfl⟩
    by_cases hlt : k < m
    · obtain ⟨ad, rfl, had, c0, c1', c2', c3'⟩ := ((HA.out.below H0.out.1).below HI.out.1).at hlt
      have hk0 : (0 : Int) ≤ (k : Int) := by omega
      have hk1 : (k : Int) < (m : Int) := by omega
      have HLN : Hid (topLn asz k = topN (asz k) ∧ topRr at' k = fun _ => ofI (at' k)) := Lib.hid ⟨rfl, rfl⟩
      obtain ⟨t, ht⟩ : ∃ t, at' k = t := ⟨_, rfl⟩
      obtain ⟨s, hs⟩ : ∃ t, asz k = t := ⟨_, rfl⟩
      rw [ht] at c1' HLN
      rw [hs] at c2' HLN
      clear ht hs had
      go_upto_region 5 with fail
      refine at_world (fun W => Hid (TpIn W0 u3 k AA cc (topLn asz) (topRr at') W) ∧ W.cell? ⟨wo.heap.size, 1, none⟩ = some (.int .i64 t) ∧ W.cell? ⟨wo.heap.size, 2, none⟩ = some (.int .i64 s)) ⟨Lib.hid (HI.out.below ((Below.refl _ _).alloc (Nat.le_refl _) _)), by simp [go_sem], by simp [go_sem]⟩ ?_
      obtain ⟨b5, hb5⟩ : ∃ x, wo.heap.size = x := ⟨_, rfl⟩
      simp only [hb5]
      clear HI c0 c1' c2' c3' hb5
      intro W1 ⟨H1, k1, k2⟩
      go_wp2_with (first | (go_at_call 51; refine (ctop_c t s _).mono ?_; rintro e w2 ⟨A2, d2, rfl, ho, hb⟩; have HO := Lib.hid ho; have HB := Lib.hid hb; have HT := Lib.hid (H1.out.below hb); clear ho hb) | (at_builtin; refine wpList_append_own_at _ rfl _ _ 32 rfl W0.heap.size 61 i0 (.slice none 0 0) 1 24 Try.underlying32 HInf.out.1 HInf.out.2.1 HInf.out.2.2.1 HInf.out.2.2.2 rfl (by omega) u3 k _ (by rfl) (ownI_below HT.out.2.1 ((Below.refl _ _).alloc (Nat.le_refl _) _)) ⟨w2.heap.size, 0, none⟩ 1 1 [.slice A2 (topN s) d2] (by rfl) rfl (st_sl w2 _ 61) (by simp [Value.oneCell']) (by unfold maxLen; omega) (by omega) (by have := HT.out.1.size; simp; omega) ?_; intro v' w3 hown hg _ hat2; have HG := Lib.hid (And.intro hown (And.intro hg hat2)); clear hown hg hat2; obtain ⟨vb, rfl⟩ : ∃ vb : Value, vb = v' := ⟨_, rfl⟩))
      refine ⟨⟨k + 1, _, _, by omega, by go_num, Lib.hid (H1.out.snoc HB.out (A := A2) (c := d2) ?_ ?_ HG.out.2.1 HG.out.2.2)⟩, by simp [intOf]; omega⟩
      · rw [HLN.out.1, HLN.out.2]; exact HO.out
      · rw [HLN.out.1]; exact HG.out.1
    · obtain rfl : k = m := by omega
      clear hk hlt
      obtain ⟨B', c', rfl, hcc⟩ := HI.out.cc hm (fun i _ => topLn_le asz i)
      have HCC := Lib.hid hcc
      have hbw := HI.out.1
      have hs0 := H0.out.2.1
      have k0 : ∀ o, wo.cell? ⟨w.heap.size, o, none⟩ = [Value.slice A n c1, Value.slice B k c2][o]? := fun o => (hbw.cell (p := ⟨w.heap.size, o, none⟩) (by show w.heap.size < _; omega)).trans (H0.out.2.2.1 o)
      have HQ : Hid (Below w.heap.size w wo ∧ w.heap.size + 1 < wo.heap.size ∧ (∀ o, wo.cell? ⟨w.heap.size + 1, o, none⟩ = [Value.bool false, Value.slice none 0 0, Value.slice none 0 0][o]?) ∧ (∀ o, wo.frozen? ⟨w.heap.size + 1, o, none⟩ = false)) := Lib.hid ⟨below_next H0.out.1 H0.out.1.size hbw, by have := hbw.size; omega, fun o => (hbw.cell (p := ⟨w.heap.size + 1, o, none⟩) (by show w.heap.size + 1 < _; omega)).trans (H0.out.2.2.2.1 o), fun o => (hbw.frozen (p := ⟨w.heap.size + 1, o, none⟩) (by show w.heap.size + 1 < _; omega)).trans (H0.out.2.2.2.2 o)⟩
      clear hcc HI H0 hbw hs0
      go_wp2_with (first | (go_at_call 40; refine (tys_c A B n k c1 c2 nm vt vs vi _ (by omega) (HV.out.below HQ.out.1)).mono ?_; rintro e w4 ⟨A4, d4, rfl, hr4, hb4⟩; have HR4 := Lib.hid hr4; have HB4 := Lib.hid hb4; clear hr4 hb4) | (go_at_call 53; refine (top_c A4 n d4 vt _ HR4.out hn).mono ?_; rintro e w5 ⟨zb, R, C, zc, rfl, hzc, hom, hb5⟩; have HOM := Lib.hid hom; have HB5 := Lib.hid hb5; clear hom hb5 hzc) | (go_at_call 52; refine (made_ok (some ⟨zb, 0, none⟩) B' (n + 1) zc k c' (topLn asz) (topRr at') _ hm ((HCC.out.below HB4.out).below HB5.out) HNE.out).mono ?_; rintro e w6 ⟨B6, rfl, hcc6, hb6⟩; have HC6 := Lib.hid hcc6; have HB6 := Lib.hid hb6; have HBa := Lib.hid (below_next (below_next HB4.out HB4.out.size HB5.out) (Nat.le_trans HB4.out.size HB5.out.size) hb6); have q0 : ∀ o, w6.cell? ⟨w.heap.size + 1, o, none⟩ = [Value.bool false, Value.slice none 0 0, Value.slice none 0 0][o]? := fun o => (HBa.out.cell (p := ⟨w.heap.size + 1, o, none⟩) HQ.out.2.1).trans (HQ.out.2.2.1 o); have f0 : ∀ o, w6.frozen? ⟨w.heap.size + 1, o, none⟩ = false := fun o => (HBa.out.frozen (p := ⟨w.heap.size + 1, o, none⟩) HQ.out.2.1).trans (HQ.out.2.2.2 o); clear hcc6 hb6))
      have hk6 : ∀ b, b ≠ w.heap.size + 1 → ((((w6.setCell ⟨w.heap.size + 1, 0, none⟩ (.bool false)).setCell ⟨w.heap.size + 1, 1, none⟩ (.slice (some ⟨zb, 0, none⟩) (n + 1) zc)).setCell ⟨w.heap.size + 1, 2, none⟩ (.slice B6 k k)).heap[b]?) = w6.heap[b]? := fun b hne => by
        rw [Below.heap_setCell _ ⟨w.heap.size + 1, 2, none⟩ _ b hne, Below.heap_setCell _ ⟨w.heap.size + 1, 1, none⟩ _ b hne, Below.heap_setCell _ ⟨w.heap.size + 1, 0, none⟩ _ b hne]
      have hz4 : w.heap.size + 1 < w4.heap.size := Nat.lt_of_lt_of_le HQ.out.2.1 HB4.out.size
      have hz5 := HB5.out.size
      have HOM6 := HOM.out.below HB6.out
      have HOMx := (HOM6.keep (by simp) (hk6 _ (by have := HOM6.hB; omega)) (fun i hi => hk6 _ (by have := HOM6.hR i hi; omega)) : OM (((w6.setCell ⟨w.heap.size + 1, 0, none⟩ (.bool false)).setCell ⟨w.heap.size + 1, 1, none⟩ (.slice (some ⟨zb, 0, none⟩) (n + 1) zc)).setCell ⟨w.heap.size + 1, 2, none⟩ (.slice B6 k k)) w4.heap.size zb R C (n + 1) (Z.closeM (topM vt n) (n + 1))).lower (base' := w.heap.size) (by omega)
      have HCCx : CC (((w6.setCell ⟨w.heap.size + 1, 0, none⟩ (.bool false)).setCell ⟨w.heap.size + 1, 1, none⟩ (.slice (some ⟨zb, 0, none⟩) (n + 1) zc)).setCell ⟨w.heap.size + 1, 2, none⟩ (.slice B6 k k)) B6 k (topLn asz) (topRr at') := HC6.out _ (by simp) (fun b hb1 _ => hk6 b (by omega))
      have HBx := (((below_next HQ.out.1 HQ.out.1.size HBa.out).setCell (p := ⟨w.heap.size + 1, 0, none⟩) (by show w.heap.size ≤ w.heap.size + 1; omega) (.bool false)).setCell (p := ⟨w.heap.size + 1, 1, none⟩) (by show w.heap.size ≤ w.heap.size + 1; omega) (.slice (some ⟨zb, 0, none⟩) (n + 1) zc)).setCell (p := ⟨w.heap.size + 1, 2, none⟩) (by show w.heap.size ≤ w.heap.size + 1; omega) (.slice B6 k k)
      have HEND := Lib.hid (And.intro HOMx (And.intro HCCx HBx))
      clear HOMx HCCx HBx HOM6 hk6 hz4 hz5
      have x0 := q0 0
      have x1 := q0 1
      have x2 := q0 2
      simp at x0 x1 x2
      refine bodyPost_ret (v := .agg #[.bool false, .slice (some ⟨zb, 0, none⟩) (n + 1) zc, .slice B6 k k]) (by simp [results, Try.results16, go_sem, *]) rfl ⟨zb, R, C, zc, B6, rfl, HEND.out.1, HEND.out.2.1, HEND.out.2.2⟩
end Go.Proofs.Ytdmphpkiclfhhaa.C
