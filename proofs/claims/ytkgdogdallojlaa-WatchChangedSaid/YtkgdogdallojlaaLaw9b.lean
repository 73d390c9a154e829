/- WatchChanged: walk. -/
import Derived.Test.YtkgdogdallojlaaWatch5
import Derived.Test.YtkgdogdallojlaaOpen
import Derived.Test.YtkgdogdallojlaaWf
namespace Go.Proofs.Ytkgdogdallojlaa.C
open Go.RowKit
set_option linter.unusedSimpArgs false
set_option linter.unusedVariables false
theorem IntRow.rowc {w : World} {A : Option Addr} {n : Nat} {zs : List Int} (h : IntRow w .i64 A n zs) : RowC w A n (fun j => zs.getD j 0) :=
  ⟨by have := h.2.1; unfold maxLen at this; exact this, fun h0 => by obtain ⟨ad, e, _, hc⟩ := h.2.2.2 h0; exact ⟨ad, e, hc⟩⟩
/-- Two memories that are told apart by numbers of blocks, alike but for that, in a world; all below B2. -/
def P4 (w W : World) (B1 B2 p1 p2 p3 p4 n3 n4 : Nat) (ts1 ts2 : Nat → Int) (ln1 ln2 : Nat → Nat) (f1 f2 : Nat → Nat → Int) : Prop :=
  Below w.heap.size w W ∧ w.heap.size ≤ B2 ∧ B2 ≤ W.heap.size ∧
  (∃ L1 L2 ad1 ad2 cp1 cp2, MS W B1 p1 L1 4 ts1 ad1 ln1 cp1 f1 ∧ MS W B1 p2 L2 4 ts1 ad2 ln1 cp2 f1 ∧ ∀ x, foot p1 L1 4 ad1 x ∨ foot p2 L2 4 ad2 x → x < B2) ∧
  ∃ L3 L4 ad3 ad4 cp3 cp4, Pair W B2 p3 p4 L3 L4 n3 n4 ts2 ts2 ad3 ad4 ln2 ln2 cp3 cp4 f2 f2
theorem P4.far {w W W' : World} {B1 B2 p1 p2 p3 p4 n3 n4 m3 m4 : Nat} {ts1 ts2 : Nat → Int} {ln1 ln2 : Nat → Nat} {f1 f2 : Nat → Nat → Int} (h : P4 w W B1 B2 p1 p2 p3 p4 n3 n4 ts1 ts2 ln1 ln2 f1 f2) (hb : Below B2 W W')
    (hp : ∃ L3 L4 ad3 ad4 cp3 cp4, Pair W' B2 p3 p4 L3 L4 m3 m4 ts2 ts2 ad3 ad4 ln2 ln2 cp3 cp4 f2 f2) : P4 w W' B1 B2 p1 p2 p3 p4 m3 m4 ts1 ts2 ln1 ln2 f1 f2 := by
  obtain ⟨h1, h2, h3, ⟨L1, L2, ad1, ad2, cp1, cp2, a1, a2, hlt⟩, _⟩ := h
  have kk : ∀ x, foot p1 L1 4 ad1 x ∨ foot p2 L2 4 ad2 x → W'.heap[x]? = W.heap[x]? := fun x hx => hb.block x (hlt x hx)
  exact ⟨h1.trans (hb.mono h2), h2, Nat.le_trans h3 hb.size, ⟨L1, L2, ad1, ad2, cp1, cp2, a1.keep hb.size (kk p1 (.inl (.inl rfl))) (fun b e => kk b (.inl (.inr (.inl e)))) (fun i hi => kk _ (.inl (.inr (.inr ⟨i, hi, rfl⟩)))), a2.keep hb.size (kk p2 (.inr (.inl rfl))) (fun b e => kk b (.inr (.inr (.inl e)))) (fun i hi => kk _ (.inr (.inr (.inr ⟨i, hi, rfl⟩)))), hlt⟩, hp⟩
theorem P4.below {w W W' : World} {B1 B2 p1 p2 p3 p4 n3 n4 : Nat} {ts1 ts2 : Nat → Int} {ln1 ln2 : Nat → Nat} {f1 f2 : Nat → Nat → Int} (h : P4 w W B1 B2 p1 p2 p3 p4 n3 n4 ts1 ts2 ln1 ln2 f1 f2) (hb : Below W.heap.size W W') : P4 w W' B1 B2 p1 p2 p3 p4 n3 n4 ts1 ts2 ln1 ln2 f1 f2 := by
  obtain ⟨L3, L4, ad3, ad4, cp3, cp4, hp⟩ := h.2.2.2.2
  exact h.far (hb.mono h.2.2.1) ⟨L3, L4, ad3, ad4, cp3, cp4, hp.below hb⟩
theorem P4.made {w W1 W2 : World} {p1 p2 p3 p4 : Nat} (h1 : Below w.heap.size w W1) (t1 : TwP W1 w.heap.size p1 p2 4) (hb : Below W1.heap.size W1 W2) (t2 : TwP W2 W1.heap.size p3 p4 4) :
    ∃ ts1 ts2 ln1 ln2 f1 f2, P4 w W2 w.heap.size W1.heap.size p1 p2 p3 p4 4 4 ts1 ts2 ln1 ln2 f1 f2 := by
  obtain ⟨_, ts1, ln1, f1, L1, L2, ad1, ad2, cp1, cp2, q1⟩ := t1
  obtain ⟨_, ts2, ln2, f2, L3, L4, ad3, ad4, cp3, cp4, q2⟩ := t2
  refine ⟨ts1, ts2, ln1, ln2, f1, f2, below_next h1 h1.size hb, h1.size, hb.size, ⟨L1, L2, ad1, ad2, cp1, cp2, q1.a.below hb, q1.b.below hb, fun x hx => ?_⟩, L3, L4, ad3, ad4, cp3, cp4, q2⟩
  rcases hx with hx | hx
  · exact q1.a.foot_lt x hx
  · exact q1.b.foot_lt x hx
theorem P4.cut {w W : World} {B1 B2 p1 p2 p3 p4 n3 n4 : Nat} {ts1 ts2 : Nat → Int} {ln1 ln2 : Nat → Nat} {f1 f2 : Nat → Nat → Int} (h : P4 w W B1 B2 p1 p2 p3 p4 n3 n4 ts1 ts2 ln1 ln2 f1 f2) (c : Int) :
    Calls Try.prog 7 #[.pointer (some ⟨p3, 0, none⟩), .int .i64 c] W fun e w' => e = .returned (.tuple #[]) ∧ P4 w w' B1 B2 p1 p2 p3 p4 (cutM c n3) n4 ts1 ts2 ln1 ln2 f1 f2 := by
  obtain ⟨L3, L4, ad3, ad4, cp3, cp4, hp⟩ := h.2.2.2.2
  refine (cut_s B2 p3 n3 L3 ts2 ad3 ln2 cp3 f2 c W hp.a).mono ?_
  intro e w' hc
  obtain ⟨he, hb, L, hp2⟩ := hp.cutP hc
  exact ⟨he, h.far hb ⟨L, L4, ad3, ad4, cp3, cp4, hp2⟩⟩
theorem P4.rcut {w W : World} {B1 B2 p1 p2 p3 p4 n3 n4 : Nat} {ts1 ts2 : Nat → Int} {ln1 ln2 : Nat → Nat} {f1 f2 : Nat → Nat → Int} (h : P4 w W B1 B2 p1 p2 p3 p4 n3 n4 ts1 ts2 ln1 ln2 f1 f2) (hn : n4 ≤ 1000) (c : Int) :
    Calls Try.prog 8 #[.pointer (some ⟨p4, 0, none⟩), .int .i64 c] W fun e w' => e = .returned (.tuple #[]) ∧ P4 w w' B1 B2 p1 p2 p3 p4 n3 (cutM c n4) ts1 ts2 ln1 ln2 f1 f2 := by
  obtain ⟨L3, L4, ad3, ad4, cp3, cp4, hp⟩ := h.2.2.2.2
  refine (rcut_s B2 p4 n4 L4 ts2 ad4 ln2 cp4 f2 c W hp.b h.2.2.1 hn).mono ?_
  intro e w' hc
  obtain ⟨he, hb, L, hp2⟩ := hp.swap.cutP hc
  exact ⟨he, h.far hb ⟨L3, L, ad3, ad4, cp3, cp4, hp2.swap⟩⟩
set_option maxRecDepth 100000 in
set_option maxHeartbeats 12800000 in
theorem watchChanged_c (A B C D : Option Addr) (n m q r c1 c2 c3 c4 : Nat) (va vb ids may : List Int) (cut : Int) (w : World) (h1 : IntRow w .i64 A n va) (h2 : IntRow w .i64 B m vb) (h3 : IntRow w .i64 C q ids) (h4 : IntRow w .i64 D r may) (hc : 0 ≤ cut ∧ cut ≤ 255) :
    Calls Try.prog 3 #[.slice A n c1, .slice B m c2, .slice C q c3, .slice D r c4, .int .u8 cut] w fun e w' => e = .returned (.bool true) ∧ Below w.heap.size w w' := by
  have x1 := h1.rowc.1
  have x2 := h2.rowc.1
  have x3 := h3.rowc.1
  have x4 := h4.rowc.1
  have H := Lib.hid (And.intro h1.rowc (And.intro h2.rowc (And.intro h3.rowc h4.rowc)))
  clear h1 h2 h3 h4
  obtain ⟨hc0, hc1⟩ := hc
  by_cases l1 : 20 < n
  · have g1 : decide (20 < n) = true := decide_eq_true l1
    go_enter Try.func3, Try.ntmps3
    go_wp2_with (go_at_call 5; refine (awake9_c _).mono ?_; rintro e w' ⟨rfl, hb⟩)
    go_ret
    exact ⟨rfl, hb⟩
  have g1 : decide (20 < n) = false := decide_eq_false l1
  by_cases l2 : 20 < m
  · have g2 : decide (20 < m) = true := decide_eq_true l2
    go_enter Try.func3, Try.ntmps3
    go_wp2_with (go_at_call 5; refine (awake9_c _).mono ?_; rintro e w' ⟨rfl, hb⟩)
    go_ret
    exact ⟨rfl, hb⟩
  have g2 : decide (20 < m) = false := decide_eq_false l2
  by_cases l3 : 20 < q
  · have g3 : decide (20 < q) = true := decide_eq_true l3
    go_enter Try.func3, Try.ntmps3
    go_wp2_with (go_at_call 5; refine (awake9_c _).mono ?_; rintro e w' ⟨rfl, hb⟩)
    go_ret
    exact ⟨rfl, hb⟩
  have g3 : decide (20 < q) = false := decide_eq_false l3
  by_cases l4 : 20 < r
  · have g4 : decide (20 < r) = true := decide_eq_true l4
    go_enter Try.func3, Try.ntmps3
    go_wp2_with (go_at_call 5; refine (awake9_c _).mono ?_; rintro e w' ⟨rfl, hb⟩)
    go_ret
    exact ⟨rfl, hb⟩
  have g4 : decide (20 < r) = false := decide_eq_false l4
  go_enter Try.func3, Try.ntmps3
  go_upto_region 4 with (go_at_call 6; refine (both_c A n c1 _ _ H.out.1).mono ?_; rintro e w1 ⟨p1, p2, rfl, hb1, ht1⟩)
  go_upto_region 5 with (go_at_call 6; refine (both_c B m c2 _ _ (H.out.2.1.below hb1)).mono ?_; rintro e w2 ⟨p3, p4, rfl, hb2, ht2⟩)
  obtain ⟨ts1, ts2, ln1, ln2, f1, f2, hP⟩ := P4.made hb1 ht1 hb2 ht2
  have HP := Lib.hid hP
  obtain ⟨B2, hB2⟩ : ∃ x, w1.heap.size = x := ⟨_, rfl⟩
  rw [hB2] at HP
  clear hP hb1 ht1 hb2 ht2 hB2 w1 g1 g2 g3 g4 l1 l2 l3 l4
  go_upto_region 8 with (go_at_call 7; refine (HP.out.cut _).mono ?_; rintro e w3 ⟨rfl, hP3⟩)
  have HP3 := Lib.hid hP3
  clear hP3
  go_upto_region 9 with (go_at_call 8; refine (HP3.out.rcut (by omega) _).mono ?_; rintro e w4 ⟨rfl, hP4⟩)
  have HP4 := Lib.hid hP4
  clear hP4 HP HP3
  obtain ⟨K, hK⟩ : ∃ K, cutM (cut % 9) 4 = K := ⟨_, rfl⟩
  rw [hK] at HP4
  clear hK
  have HROW := Lib.hid (And.intro H.out.2.2.1 H.out.2.2.2)
  obtain ⟨fi, hfi⟩ : ∃ f : Nat → Int, (fun j => ids.getD j 0) = f := ⟨_, rfl⟩
  obtain ⟨fm, hfm⟩ : ∃ f : Nat → Int, (fun j => may.getD j 0) = f := ⟨_, rfl⟩
  rw [hfi, hfm] at HROW
  clear hfi hfm H
  have rn : ∀ W : World, RowC W none 0 (fun _ => 0) := fun W => ⟨by omega, fun h => absurd h (by omega)⟩
  obtain ⟨v1, hv1⟩ : ∃ v, chgM fi q fm r (diffB 4 K ts1 ts2 ln1 ln2 f1 f2) = v := ⟨_, rfl⟩
  obtain ⟨v2, hv2⟩ : ∃ v, chgM fi q (fun _ => 0) 0 (diffB 4 4 ts1 ts1 ln1 ln1 f1 f1) = v := ⟨_, rfl⟩
  have C1 : ∀ W, P4 w W w.heap.size B2 p1 p2 p3 p4 K K ts1 ts2 ln1 ln2 f1 f2 → Calls Try.prog 9 #[.pointer (some ⟨p1, 0, none⟩), .pointer (some ⟨p3, 0, none⟩), .slice C q c3, .slice D r c4] W fun e w' => e = .returned (.int .i64 v1) ∧ Below W.heap.size W w' := fun W h => by
    obtain ⟨hb, _, _, ⟨L1, L2, ad1, ad2, cp1, cp2, a1, a2, _⟩, L3, L4, ad3, ad4, cp3, cp4, hp⟩ := h
    have := changed_s _ _ _ _ _ _ _ _ _ _ _ _ _ _ _ _ _ _ C D q r c3 c4 fi fm W (HROW.out.1.below hb) (HROW.out.2.below hb) a1 hp.a
    rwa [hv1] at this
  have R1 : ∀ W, P4 w W w.heap.size B2 p1 p2 p3 p4 K K ts1 ts2 ln1 ln2 f1 f2 → Calls Try.prog 10 #[.pointer (some ⟨p2, 0, none⟩), .pointer (some ⟨p4, 0, none⟩), .slice C q c3, .slice D r c4] W fun e w' => e = .returned (.int .i64 v1) ∧ Below W.heap.size W w' := fun W h => by
    obtain ⟨hb, _, _, ⟨L1, L2, ad1, ad2, cp1, cp2, a1, a2, _⟩, L3, L4, ad3, ad4, cp3, cp4, hp⟩ := h
    have := rchanged_s _ _ _ _ _ _ _ _ _ _ _ _ _ _ _ _ _ _ C D q r c3 c4 fi fm W (HROW.out.1.below hb) (HROW.out.2.below hb) a2 hp.b
    rwa [hv1] at this
  have C2 : ∀ W, P4 w W w.heap.size B2 p1 p2 p3 p4 K K ts1 ts2 ln1 ln2 f1 f2 → Calls Try.prog 9 #[.pointer (some ⟨p1, 0, none⟩), .pointer (some ⟨p1, 0, none⟩), .slice C q c3, .slice none 0 0] W fun e w' => e = .returned (.int .i64 v2) ∧ Below W.heap.size W w' := fun W h => by
    obtain ⟨hb, _, _, ⟨L1, L2, ad1, ad2, cp1, cp2, a1, a2, _⟩, _⟩ := h
    have := changed_s _ _ _ _ _ _ _ _ _ _ _ _ _ _ _ _ _ _ C none q 0 c3 0 fi (fun _ => 0) W (HROW.out.1.below hb) (rn W) a1 a1
    rwa [hv2] at this
  have R2 : ∀ W, P4 w W w.heap.size B2 p1 p2 p3 p4 K K ts1 ts2 ln1 ln2 f1 f2 → Calls Try.prog 10 #[.pointer (some ⟨p2, 0, none⟩), .pointer (some ⟨p2, 0, none⟩), .slice C q c3, .slice none 0 0] W fun e w' => e = .returned (.int .i64 v2) ∧ Below W.heap.size W w' := fun W h => by
    obtain ⟨hb, _, _, ⟨L1, L2, ad1, ad2, cp1, cp2, a1, a2, _⟩, _⟩ := h
    have := rchanged_s _ _ _ _ _ _ _ _ _ _ _ _ _ _ _ _ _ _ C none q 0 c3 0 fi (fun _ => 0) W (HROW.out.1.below hb) (rn W) a2 a2
    rwa [hv2] at this
  have HC1 := Lib.hid C1
  have HR1 := Lib.hid R1
  have HC2 := Lib.hid C2
  have HR2 := Lib.hid R2
  clear C1 R1 C2 R2 hv1 hv2 rn HROW
  go_wp2_with (first | (go_at_call 9; refine (HC1.out _ HP4.out).mono ?_; clear HC1; rintro e w5 ⟨rfl, hb⟩; have H5 := Lib.hid (HP4.out.below hb); clear hb HP4) | (go_at_call 10; refine (HR1.out _ H5.out).mono ?_; clear HR1; rintro e w6 ⟨rfl, hb⟩; have H6 := Lib.hid (H5.out.below hb); clear hb H5) | (go_at_call 9; refine (HC2.out _ H6.out).mono ?_; clear HC2; rintro e w7 ⟨rfl, hb⟩; have H7 := Lib.hid (H6.out.below hb); clear hb H6) | (go_at_call 10; refine (HR2.out _ H7.out).mono ?_; clear HR2; rintro e w8 ⟨rfl, hb⟩; have H8 := Lib.hid (H7.out.below hb); clear hb H7) | (go_at_call 5; refine (awake9_c _).mono ?_; rintro e w9 ⟨rfl, hb⟩; have H9 := Lib.hid (H8.out.below hb); clear hb))
  go_ret
  exact ⟨rfl, H9.out.1⟩
end Go.Proofs.Ytkgdogdallojlaa.C
