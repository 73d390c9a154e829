/- The reference's one: walks (printed by gen_cond.py). -/
import Derived.Test.YtnnhdkchdjddkaaCondI
namespace Go.Proofs.Ytnnhdkchdjddkaa.C
open Go.RowKit
set_option linter.unusedSimpArgs false
set_option linter.unusedVariables false
set_option maxRecDepth 100000 in
set_option maxHeartbeats 6400000 in
theorem one_err {B p g n c : Nat} {ts : List Tok} {st : Rd} {A : Option Addr} {l : List Cv} {cc : Nat} {w : World} (h : CIn B p g n c ts st A l cc w) (h0 : st.e ≠ 0) :
    Calls Try.prog 26 #[.pointer (some ⟨p, 0, none⟩), .slice A l.length cc] w (COut B p g n c ts (CFs ts 2 st (csOf l)) st A l cc w) := by
  have c3 := h.rd.c3
  have g0 : (st.e == 0) = false := by rw [beq_eq_false_iff_ne]; exact h0
  have HP : Hid (COut B p g n c ts (CFs ts 2 st (csOf l)) st A l cc w (.returned (.slice A l.length cc)) w) := Lib.hid ⟨st, l, A, cc, CFs_err h0, rfl, h.rd, h.oc, Fr.of (Below.refl _ _), fun _ x => .inl x, rfl, Nat.le_refl _, by omega, fun _ => ⟨rfl, rfl⟩⟩
  clear h h0
  go_enter Try.func26, Try.ntmps26
  go_wp2
  go_ret
  exact HP.out
set_option maxRecDepth 100000 in
set_option maxHeartbeats 6400000 in
theorem one_not {B p g n c : Nat} {ts : List Tok} {st : Rd} {A : Option Addr} {l : List Cv} {cc : Nat} {w : World} (h : CIn B p g n c ts st A l cc w) (h0 : st.e = 0) (q1 : isP ts st [110, 111, 116] = true)
    (IH : ∀ W, CIn B p g n c ts (openP ts st [110, 111, 116]) A l cc W → Calls Try.prog 26 #[.pointer (some ⟨p, 0, none⟩), .slice A l.length cc] W (COut B p g n c ts (CFs ts 2 (openP ts st [110, 111, 116]) (csOf l)) (openP ts st [110, 111, 116]) A l cc W)) :
    Calls Try.prog 26 #[.pointer (some ⟨p, 0, none⟩), .slice A l.length cc] w (COut B p g n c ts (CFs ts 2 st (csOf l)) st A l cc w) := by
  have H := Lib.hid h
  have H0 := Lib.hid h0
  have M := Lib.hid h.mid
  have c3 := h.rd.c3
  rw [h0] at c3
  have I1 : ∀ W, RdAt p g n c ts st W → Calls Try.prog 17 #[.pointer (some ⟨p, 0, none⟩), .string ⟨#[110, 111, 116]⟩] W fun e w' => e = .returned (.bool true) ∧ Below W.heap.size W w' := fun W hW => (rd_is_c hW ⟨#[110, 111, 116]⟩).mono (fun e w' hh => ⟨by rw [hh.1]; exact congrArg (fun b => Ending.returned (.bool b)) q1, hh.2⟩)
  have HO : ∀ W, RdAt p g n c ts st W → Calls Try.prog 37 #[.pointer (some ⟨p, 0, none⟩), .string ⟨#[110, 111, 116]⟩] W fun e w' => (∃ v, e = .returned v) ∧ RdPost p g n c ts (openP ts st [110, 111, 116]) W w' := fun W hW => rd_open_c hW h.hE (by have := h.d0; have := h.d1; have := h.rd.hb; have := h.rd.hi; rw [e1P_0 h0] at *; omega) ⟨#[110, 111, 116]⟩
  have HOP : Hid (∀ W W1, CMid B p g n c ts st l A cc A l cc w W → RdPost p g n c ts (openP ts st [110, 111, 116]) W W1 → CIn B p g n c ts (openP ts st [110, 111, 116]) A l cc W1 ∧ CMid B p g n c ts (openP ts st [110, 111, 116]) l A cc A l cc w W1) := Lib.hid (fun W W1 hM hp => CMid.opened h h0 hM _ hp)
  have HDP := Lib.hid (openP_facts ts st [110, 111, 116] h0).1
  have ed1 : IntKind.i64.wrap (st.deep + 1 - 1) = st.deep := by rw [IntWalk.i64_in _ (by have := h.d0; have := h.d1; have := h.rd.hb; have := h.rd.hi; rw [e1P_0 h0] at *; omega)]; omega
  have ed2 : IntKind.i64.wrap st.deep = st.deep := IntWalk.i64_in _ (by have := h.d0; have := h.d1; have := h.rd.hb; have := h.rd.hi; rw [e1P_0 h0] at *; omega)
  have ed3 : wrap64 st.deep = st.deep := IntWalk.wrap64_in _ (by have := h.d0; have := h.d1; have := h.rd.hb; have := h.rd.hi; rw [e1P_0 h0] at *; omega)
  have HI := Lib.hid IH
  have HR : Hid (∀ s2 l2, CFs ts 2 (openP ts st [110, 111, 116]) (csOf l) (s2, csOf l2) → CFs ts 2 st (csOf l) (upP s2, csOf (l2 ++ [(cvP 2 ((l2.length : Int) - 1) (-1) (tkP ts st.i).at_)]))) := Lib.hid (fun s2 l2 hf => by
    have := CFs_not h0 q1 hf
    rw [csOf_snoc]
    rwa [csOf_len] at this)
  have HLN : Hid (∀ (s2 : Rd) (l2 : List Cv), l2.length + (openP ts st [110, 111, 116]).i ≤ l.length + s2.i + e1P s2 → ((openP ts st [110, 111, 116]).e ≠ 0 → s2 = openP ts st [110, 111, 116] ∧ l2 = l) → l2.length + st.i + 1 ≤ l.length + s2.i + e1P s2) := Lib.hid (fun s2 l2 a b => open_len h0 _ a b)
  have HOI := Lib.hid (open_i (ts := ts) h0 [110, 111, 116])
  clear h h0 q1 IH
  go_enter Try.func26, Try.ntmps26
  go_wp2_with (first | (go_at_call 18; refine (rd_here_c M.out.rd).mono ?_; rintro e w1 ⟨rfl, hb1⟩; have M := Lib.hid (M.out.below hb1); clear hb1) | (go_at_call 17; refine (I1 _ M.out.rd).mono ?_; rintro e w1 ⟨rfl, hb1⟩; have M := Lib.hid (M.out.below hb1); clear hb1 I1) | (go_at_call 37; refine (HO _ M.out.rd).mono ?_; rintro e w1 ⟨⟨v1, rfl⟩, hp1⟩; have UU := HOP.out _ _ M.out hp1; have M := Lib.hid UU.2; have HX := HI.out _ UU.1; clear hp1 UU HO HOP HI) | (go_at_call 26; refine HX.mono ?_; rintro e w3 ⟨s2, l2, A2, cc2, x1, rfl, x2, x3, x4, x5, x6, x7, x8, x9⟩; have hz := HLN.out s2 l2 x8 x9; have hl2 : l2.length ≤ 300000 := (by have y1 := H.out.ll; have y2 := H.out.rd.hb; have y3 := H.out.rd.hi; have y4 : e1P s2 ≤ 1 := (by unfold e1P; split <;> omega); have y5 := x2.hi; have y6 := x2.hb; have y7 : e1P st ≤ 1 := (by unfold e1P; split <;> omega); omega); have el2 : IntKind.i64.wrap ((l2.length : Int) - 1) = (l2.length : Int) - 1 := IntWalk.i64_in _ (by omega); have hd2 : s2.deep = st.deep + 1 := x6.trans HDP.out; have k2 := x2.c2; have kf := x2.fz 2; rw [hd2] at k2; have M := Lib.hid ((M.out.join x2 x3 x4 x5).deep hd2); have hB5 := M.out.bw3; have Z := Lib.hid (And.intro x1 (And.intro hd2 (And.intro x7 hz))); clear x1 x2 x3 x4 x5 x6 x7 x8 x9 hz hd2 HX) | (at_builtin; refine wpList_append_cd (by rfl) _ _ rfl (cvP 2 ((l2.length : Int) - 1) (-1) (tkP ts st.i).at_) (by rfl) (by rfl) M.out.oc hB5 (OE.nil _ _) (OE.nil _ _) (fun k hk => hk.elim (fun x => absurd x (blk_none k)) (fun x => absurd x (blk_none k))) (by rfl) (by first | rfl | (simp; done)) (Nat.le_trans hl2 (by omega)) ?_; intro A3 c3 n3 w6 hn ho hf hk2; have V := Lib.hid (And.intro hn (And.intro ho (And.intro hf hk2))); clear hn ho hf hk2))
  go_ret
  have z1 := Z.out.2.1
  have z2 := Z.out.2.2.1
  have z3 := Z.out.2.2.2
  have z4 := HOI.out
  exact fin_cd H0.out M.out (HR.out _ _ Z.out.1) V.out.2.1 V.out.2.2.1 V.out.2.2.2 V.out.1 (by show s2.deep - 1 = st.deep; omega) (by show st.i ≤ s2.i; omega) (by show l2.length + st.i + 1 ≤ l.length + s2.i + e1P s2; exact z3)
set_option maxRecDepth 100000 in
set_option maxHeartbeats 6400000 in
theorem one_in {B p g n c : Nat} {ts : List Tok} {st : Rd} {A : Option Addr} {l : List Cv} {cc : Nat} {w : World} (h : CIn B p g n c ts st A l cc w) (h0 : st.e = 0) (q1 : isP ts st [110, 111, 116] = false) (q2 : isP ts st [91] = true)
    (IH : ∀ W, CIn B p g n c ts (openP ts st [91]) A l cc W → Calls Try.prog 8 #[.pointer (some ⟨p, 0, none⟩), .slice A l.length cc] W (COut B p g n c ts (CFs ts 0 (openP ts st [91]) (csOf l)) (openP ts st [91]) A l cc W)) :
    Calls Try.prog 26 #[.pointer (some ⟨p, 0, none⟩), .slice A l.length cc] w (COut B p g n c ts (CFs ts 2 st (csOf l)) st A l cc w) := by
  have H := Lib.hid h
  have H0 := Lib.hid h0
  have M := Lib.hid h.mid
  have c3 := h.rd.c3
  rw [h0] at c3
  have I1 : ∀ W, RdAt p g n c ts st W → Calls Try.prog 17 #[.pointer (some ⟨p, 0, none⟩), .string ⟨#[110, 111, 116]⟩] W fun e w' => e = .returned (.bool false) ∧ Below W.heap.size W w' := fun W hW => (rd_is_c hW ⟨#[110, 111, 116]⟩).mono (fun e w' hh => ⟨by rw [hh.1]; exact congrArg (fun b => Ending.returned (.bool b)) q1, hh.2⟩)
  have I2 : ∀ W, RdAt p g n c ts st W → Calls Try.prog 17 #[.pointer (some ⟨p, 0, none⟩), .string ⟨#[91]⟩] W fun e w' => e = .returned (.bool true) ∧ Below W.heap.size W w' := fun W hW => (rd_is_c hW ⟨#[91]⟩).mono (fun e w' hh => ⟨by rw [hh.1]; exact congrArg (fun b => Ending.returned (.bool b)) q2, hh.2⟩)
  have HO : ∀ W, RdAt p g n c ts st W → Calls Try.prog 37 #[.pointer (some ⟨p, 0, none⟩), .string ⟨#[91]⟩] W fun e w' => (∃ v, e = .returned v) ∧ RdPost p g n c ts (openP ts st [91]) W w' := fun W hW => rd_open_c hW h.hE (by have := h.d0; have := h.d1; have := h.rd.hb; have := h.rd.hi; rw [e1P_0 h0] at *; omega) ⟨#[91]⟩
  have HOP : Hid (∀ W W1, CMid B p g n c ts st l A cc A l cc w W → RdPost p g n c ts (openP ts st [91]) W W1 → CIn B p g n c ts (openP ts st [91]) A l cc W1 ∧ CMid B p g n c ts (openP ts st [91]) l A cc A l cc w W1) := Lib.hid (fun W W1 hM hp => CMid.opened h h0 hM _ hp)
  have HDP := Lib.hid (openP_facts ts st [91] h0).1
  have ed1 : IntKind.i64.wrap (st.deep + 1 - 1) = st.deep := by rw [IntWalk.i64_in _ (by have := h.d0; have := h.d1; have := h.rd.hb; have := h.rd.hi; rw [e1P_0 h0] at *; omega)]; omega
  have ed2 : IntKind.i64.wrap st.deep = st.deep := IntWalk.i64_in _ (by have := h.d0; have := h.d1; have := h.rd.hb; have := h.rd.hi; rw [e1P_0 h0] at *; omega)
  have ed3 : wrap64 st.deep = st.deep := IntWalk.wrap64_in _ (by have := h.d0; have := h.d1; have := h.rd.hb; have := h.rd.hi; rw [e1P_0 h0] at *; omega)
  have HI := Lib.hid IH
  have HR : Hid (∀ s2 l2, CFs ts 0 (openP ts st [91]) (csOf l) (s2, csOf l2) → CFs ts 2 st (csOf l) (upP (wantP ts s2 [93]), csOf l2)) := Lib.hid (fun s2 l2 hf => CFs_in h0 q1 q2 hf)
  have HLN : Hid (∀ (s2 : Rd) (l2 : List Cv), l2.length + (openP ts st [91]).i ≤ l.length + s2.i + e1P s2 → ((openP ts st [91]).e ≠ 0 → s2 = openP ts st [91] ∧ l2 = l) → l2.length + st.i + 1 ≤ l.length + s2.i + e1P s2) := Lib.hid (fun s2 l2 a b => open_len h0 _ a b)
  have HOI := Lib.hid (open_i (ts := ts) h0 [91])
  clear h h0 q1 q2 IH
  go_enter Try.func26, Try.ntmps26
  go_wp2_with (first | (go_at_call 18; refine (rd_here_c M.out.rd).mono ?_; rintro e w1 ⟨rfl, hb1⟩; have M := Lib.hid (M.out.below hb1); clear hb1) | (go_at_call 17; refine (I1 _ M.out.rd).mono ?_; rintro e w1 ⟨rfl, hb1⟩; have M := Lib.hid (M.out.below hb1); clear hb1 I1) | (go_at_call 17; refine (I2 _ M.out.rd).mono ?_; rintro e w1 ⟨rfl, hb1⟩; have M := Lib.hid (M.out.below hb1); clear hb1 I2) | (go_at_call 37; refine (HO _ M.out.rd).mono ?_; rintro e w1 ⟨⟨v1, rfl⟩, hp1⟩; have UU := HOP.out _ _ M.out hp1; have M := Lib.hid UU.2; have HX := HI.out _ UU.1; clear hp1 UU HO HOP HI) | (go_at_call 8; refine HX.mono ?_; rintro e w3 ⟨s2, l2, A2, cc2, x1, rfl, x2, x3, x4, x5, x6, x7, x8, x9⟩; have hz := HLN.out s2 l2 x8 x9; have hd2 : s2.deep = st.deep + 1 := x6.trans HDP.out; have M := Lib.hid (M.out.join x2 x3 x4 x5); have HW := rd_want_c x2 H.out.hE ⟨#[93]⟩; have Z := Lib.hid (And.intro x1 (And.intro hd2 (And.intro x7 hz))); clear x1 x2 x3 x4 x5 x6 x7 x8 x9 hz hd2 HX) | (go_at_call 19; refine HW.mono ?_; rintro e w4 ⟨⟨v4, rfl⟩, hp4⟩; have M2 := M.out.post (s2 := wantP ts s2 [93]) hp4; have hd4 : (wantP ts s2 [93]).deep = st.deep + 1 := (wantP_facts ts s2 [93]).1.trans Z.out.2.1; have k2 := M2.rd.c2; have kf := M2.rd.fz 2; rw [hd4] at k2; have M := Lib.hid (M2.deep hd4); have HD4 := Lib.hid hd4; clear hp4 M2 hd4 HW))
  go_ret
  have z2 := Z.out.2.2.1
  have z3 := Z.out.2.2.2
  have z4 := HOI.out
  have hws := wantP_sum ts s2 [93]
  have hwi := (wantP_facts ts s2 [93]).2.1
  have hd4 := HD4.out
  exact fin_cs H0.out M.out (HR.out _ _ Z.out.1) (by show (wantP ts s2 [93]).deep - 1 = st.deep; omega) (by show st.i ≤ (wantP ts s2 [93]).i; omega) (by show l2.length + st.i ≤ l.length + (wantP ts s2 [93]).i + e1P (wantP ts s2 [93]); omega)
set_option maxRecDepth 100000 in
set_option maxHeartbeats 6400000 in
theorem one_rel {B p g n c : Nat} {ts : List Tok} {st : Rd} {A : Option Addr} {l : List Cv} {cc : Nat} {w : World} (h : CIn B p g n c ts st A l cc w) (hT : ∀ i, (tkP ts i).t.length ≤ 4611686018427387904) (h0 : st.e = 0) (q1 : isP ts st [110, 111, 116] = false) (q2 : isP ts st [91] = false) :
    Calls Try.prog 26 #[.pointer (some ⟨p, 0, none⟩), .slice A l.length cc] w (COut B p g n c ts (CFs ts 2 st (csOf l)) st A l cc w) := by
  have H := Lib.hid h
  have H0 := Lib.hid h0
  have M := Lib.hid h.mid
  have c3 := h.rd.c3
  rw [h0] at c3
  have I1 : ∀ W, RdAt p g n c ts st W → Calls Try.prog 17 #[.pointer (some ⟨p, 0, none⟩), .string ⟨#[110, 111, 116]⟩] W fun e w' => e = .returned (.bool false) ∧ Below W.heap.size W w' := fun W hW => (rd_is_c hW ⟨#[110, 111, 116]⟩).mono (fun e w' hh => ⟨by rw [hh.1]; exact congrArg (fun b => Ending.returned (.bool b)) q1, hh.2⟩)
  have I2 : ∀ W, RdAt p g n c ts st W → Calls Try.prog 17 #[.pointer (some ⟨p, 0, none⟩), .string ⟨#[91]⟩] W fun e w' => e = .returned (.bool false) ∧ Below W.heap.size W w' := fun W hW => (rd_is_c hW ⟨#[91]⟩).mono (fun e w' hh => ⟨by rw [hh.1]; exact congrArg (fun b => Ending.returned (.bool b)) q2, hh.2⟩)
  have HD0 := Lib.hid h.d0
  have HD1 : Hid (st.deep ≤ (st.i : Int)) := Lib.hid (by have := h.d1; rwa [e1P_0 h0] at this)
  have HXE : ∀ W, CMid B p g n c ts st l A cc A l cc w W → Calls Try.prog 38 #[.pointer (some ⟨p, 0, none⟩), .slice none 0 0] W (EOut p g n c ts st W) := fun W hM => expr_new hT hM.rd h.hE h.d0 h.d1
  have HY : Hid (∀ W s, RdAt p g n c ts s W → 0 ≤ s.deep → s.deep ≤ ((s.i + e1P s : Nat) : Int) → Calls Try.prog 38 #[.pointer (some ⟨p, 0, none⟩), .slice none 0 0] W (EOut p g n c ts s W)) := Lib.hid (fun W s hr a b => expr_new hT hr h.hE a b)
  have HNO : Hid (∀ x : Rd × List Ex, PFs ts 0 st [] x → relP ts x.1 = false → CFs ts 2 st (csOf l) (failP ts x.1 5, csOf l)) := Lib.hid (fun x a b => CFs_no h0 q1 q2 a b)
  have HYES : Hid (∀ x y : Rd × List Ex, PFs ts 0 st [] x → relP ts x.1 = true → PFs ts 0 { x.1 with i := x.1.i + 1 } [] y → CFs ts 2 st (csOf l) (y.1, csOf l ++ [⟨1, relL (tkP ts x.1.i).t, x.2, y.2, -1, -1, (tkP ts x.1.i).at_⟩])) := Lib.hid (fun x y a b d => CFs_rel h0 q1 q2 a b d)
  have HBLT : Hid (∀ k, Blk A l.length cc k → k < w.heap.size) := Lib.hid (fun k hk => (h.oc.ge hk).2)
  clear h h0 q1 q2 hT
  go_enter Try.func26, Try.ntmps26
  go_upto_region 17 with (first | (go_at_call 18; refine (rd_here_c M.out.rd).mono ?_; rintro e w1 ⟨rfl, hb1⟩; have M := Lib.hid (M.out.below hb1); clear hb1) | (go_at_call 17; refine (I1 _ M.out.rd).mono ?_; rintro e w1 ⟨rfl, hb1⟩; have M := Lib.hid (M.out.below hb1); clear hb1 I1) | (go_at_call 17; refine (I2 _ M.out.rd).mono ?_; rintro e w1 ⟨rfl, hb1⟩; have M := Lib.hid (M.out.below hb1); clear hb1 I2) | (go_at_call 38; refine (HXE _ M.out).mono ?_; rintro e w1 ⟨s1, x, ax, cx, x1, rfl, x2, x3, x4, x5, x6, x7⟩; have N : Hid (CMx B p g n c ts s1 A l cc w ax x cx w1) := Lib.hid (CMx.mk M.out HBLT.out x2 x3 x4); have Z := Lib.hid (And.intro x1 (And.intro x5 x6)); clear x1 x2 x3 x4 x5 x6 x7 HXE M) | (go_at_call 18; refine (rd_here_c N.out.1.rd).mono ?_; rintro e w2 ⟨rfl, hb1⟩; have N := Lib.hid (N.out.below hb1); clear hb1))
  obtain ⟨tk, htk⟩ : ∃ x, tkP ts s1.i = x := ⟨_, rfl⟩
  obtain ⟨rl, hrl⟩ : ∃ x, relL tk.t = x := ⟨_, rfl⟩
  have LR : ∀ W, Calls Try.prog 39 #[.string ⟨tk.t.toArray⟩] W fun e w' => e = .returned (.int .i64 rl) ∧ Below W.heap.size W w' := fun W => by
    have := r1_rel_c ⟨tk.t.toArray⟩ W
    rw [show relL (⟨tk.t.toArray⟩ : ByteArray).data.toList = rl from hrl] at this
    exact this
  have hi0 : (0 : Int) ≤ (s1.i : Int) := by omega
  have hi1 : (s1.i : Int) < (n : Int) := by have := N.out.1.rd.hi; omega
  have hi2 : s1.i < n := N.out.1.rd.hi
  have HTK := Lib.hid htk
  have HRL := Lib.hid hrl
  clear c3 hrl
  have c0 := N.out.1.rd.c0
  have c1 := N.out.1.rd.c1
  have c3 := N.out.1.rd.c3
  obtain ⟨t0, t1, t2⟩ := N.out.1.rd.toks _ _ N.out.1.rd.tok
  rw [htk] at t0 t1 t2
  clear htk
  have d0 := fun (x' : WIn (Below w2.heap.size w2)) => cell_later x'.h c0
  have d1 := fun (x' : WIn (Below w2.heap.size w2)) => cell_later x'.h c1
  have d3 := fun (x' : WIn (Below w2.heap.size w2)) => cell_later x'.h c3
  have d4 := fun (x' : WIn (Below w2.heap.size w2)) => cell_later x'.h t0
  have d5 := fun (x' : WIn (Below w2.heap.size w2)) => cell_later x'.h t1
  refine region_in (Below w2.heap.size w2) (by kernel_rfl) (by kernel_rfl) (Below.refl _ _).drew (fun inst => ?_)
  iterate 13 (go_big_quiet_step ((go_at_call 39; exact call_grow (Nat.le_refl _) (LR _))))
  refine wpQuiet_nil ?_
  intro wd hbd
  have N := Lib.hid (N.out.below hbd)
  clear hbd c0 c1 c3 t0 t1 t2 d0 d1 d3 d4 d5 LR
  have htk := HTK.out
  have c0 := N.out.1.rd.c0
  have c1 := N.out.1.rd.c1
  have c3 := N.out.1.rd.c3
  obtain ⟨t0, t1, t2⟩ := N.out.1.rd.toks _ _ N.out.1.rd.tok
  rw [htk] at t0 t1 t2
  clear htk
  obtain ⟨kk, hkk⟩ : ∃ x, tk.k = x := ⟨_, rfl⟩
  obtain ⟨ee, hee⟩ : ∃ x, s1.e = x := ⟨_, rfl⟩
  rw [hkk] at t0
  rw [hee] at c3
  have HKK := Lib.hid hkk
  have HEE := Lib.hid hee
  have HRP : Hid (relP ts s1 = (decide (ee = 0) && (decide (kk = 4) && !decide (rl = 0)))) := Lib.hid (by unfold relP; rw [HTK.out, hkk, hee, HRL.out])
  clear hkk hee
  go_upto_region 18 with fail
  by_cases hall : ee = 0 ∧ kk = 4 ∧ rl ≠ 0
  rotate_left
  · have HF : Hid (∀ W', RdPost p g n c ts (failP ts s1 5) wd W' → COut B p g n c ts (CFs ts 2 st (csOf l)) st A l cc w (.returned (.slice A l.length cc)) W') := Lib.hid (fun W' hp => fin_cs H0.out (N.out.1.post hp) (HNO.out _ Z.out.1 (by
      rw [HRP.out]
      by_cases a : ee = 0
      · by_cases b : kk = 4
        · have : rl = 0 := Classical.byContradiction (fun hx => hall ⟨a, b, hx⟩)
          simp [this]
        · simp [b]
      · simp [a])) ((failP_same ts s1 5).1.trans Z.out.2.1) (by rw [(failP_same ts s1 5).2]; exact Z.out.2.2) (by rw [(failP_same ts s1 5).2]; have hq : st.i ≤ s1.i := Z.out.2.2; omega))
    have HFA : Hid (∀ W, Below wd.heap.size wd W → Calls Try.prog 9 #[.pointer (some ⟨p, 0, none⟩), .int .i64 5] W fun e w' => (∃ v, e = .returned v) ∧ RdPost p g n c ts (failP ts s1 5) wd w') := Lib.hid (fun W hb => (rd_fail_c (N.out.1.rd.below hb) 5).mono (fun e w' hh => ⟨hh.1, (RdPost.of N.out.1.rd hb).trans hh.2⟩))
    rcases (by
      by_cases a : ee = 0
      · by_cases b : kk = 4
        · exact .inr (.inr ⟨a, b, Classical.byContradiction (fun hx => hall ⟨a, b, hx⟩)⟩)
        · exact .inr (.inl ⟨a, b⟩)
      · exact .inl a : ee ≠ 0 ∨ (ee = 0 ∧ kk ≠ 4) ∨ (ee = 0 ∧ kk = 4 ∧ rl = 0)) with hee | ⟨rfl, hkk⟩ | ⟨rfl, rfl, rfl⟩
    · have g0 : (ee == 0) = false := by rw [beq_eq_false_iff_ne]; exact hee
      have g0' : (ee != 0) = true := by rw [bne, g0]; rfl
      clear hall hee HRP
      have d0 := fun (x' : WIn (Below wd.heap.size wd)) => cell_later x'.h c0
      have d1 := fun (x' : WIn (Below wd.heap.size wd)) => cell_later x'.h c1
      have d3 := fun (x' : WIn (Below wd.heap.size wd)) => cell_later x'.h c3
      have d4 := fun (x' : WIn (Below wd.heap.size wd)) => cell_later x'.h t0
      have d5 := fun (x' : WIn (Below wd.heap.size wd)) => cell_later x'.h t1
      refine region_in (Below wd.heap.size wd) (by kernel_rfl) (by kernel_rfl) (Below.refl _ _).drew (fun inst => ?_)
      iterate 23 (go_big_quiet_step (fail))
      refine wpQuiet_nil ?_
      intro we hbe
      have HFE := HFA.out _ hbe
      clear hbe d0 d1 d3 d4 d5
      go_wp2_with (go_at_call 9; refine HFE.mono ?_; rintro e w5 ⟨⟨v5, rfl⟩, hp5⟩; have HF2 := Lib.hid (HF.out _ hp5); clear hp5 HFE)
      go_ret
      exact HF2.out
    · have g1 : (kk == 4) = false := by rw [beq_eq_false_iff_ne]; exact hkk
      have g1' : (kk != 4) = true := by rw [bne, g1]; rfl
      clear hall hkk HRP
      have d0 := fun (x' : WIn (Below wd.heap.size wd)) => cell_later x'.h c0
      have d1 := fun (x' : WIn (Below wd.heap.size wd)) => cell_later x'.h c1
      have d3 := fun (x' : WIn (Below wd.heap.size wd)) => cell_later x'.h c3
      have d4 := fun (x' : WIn (Below wd.heap.size wd)) => cell_later x'.h t0
      have d5 := fun (x' : WIn (Below wd.heap.size wd)) => cell_later x'.h t1
      refine region_in (Below wd.heap.size wd) (by kernel_rfl) (by kernel_rfl) (Below.refl _ _).drew (fun inst => ?_)
      iterate 23 (go_big_quiet_step (fail))
      refine wpQuiet_nil ?_
      intro we hbe
      have HFE := HFA.out _ hbe
      clear hbe d0 d1 d3 d4 d5
      go_wp2_with (go_at_call 9; refine HFE.mono ?_; rintro e w5 ⟨⟨v5, rfl⟩, hp5⟩; have HF2 := Lib.hid (HF.out _ hp5); clear hp5 HFE)
      go_ret
      exact HF2.out
    · clear hall HRP
      have d0 := fun (x' : WIn (Below wd.heap.size wd)) => cell_later x'.h c0
      have d1 := fun (x' : WIn (Below wd.heap.size wd)) => cell_later x'.h c1
      have d3 := fun (x' : WIn (Below wd.heap.size wd)) => cell_later x'.h c3
      have d4 := fun (x' : WIn (Below wd.heap.size wd)) => cell_later x'.h t0
      have d5 := fun (x' : WIn (Below wd.heap.size wd)) => cell_later x'.h t1
      refine region_in (Below wd.heap.size wd) (by kernel_rfl) (by kernel_rfl) (Below.refl _ _).drew (fun inst => ?_)
      iterate 23 (go_big_quiet_step (fail))
      refine wpQuiet_nil ?_
      intro we hbe
      have HFE := HFA.out _ hbe
      clear hbe d0 d1 d3 d4 d5
      go_wp2_with (go_at_call 9; refine HFE.mono ?_; rintro e w5 ⟨⟨v5, rfl⟩, hp5⟩; have HF2 := Lib.hid (HF.out _ hp5); clear hp5 HFE)
      go_ret
      exact HF2.out
  obtain ⟨rfl, rfl, hrl0⟩ := hall
  have g2 : (rl == 0) = false := by rw [beq_eq_false_iff_ne]; exact hrl0
  have HRT : Hid (relP ts s1 = true) := Lib.hid (by rw [HRP.out]; simp [hrl0])
  have hlt : s1.i + 1 < n := by
    rcases Nat.lt_or_ge (s1.i + 1) n with h1 | h1
    · exact h1
    · have e : s1.i = n - 1 := by omega
      have h4 := HKK.out
      rw [← HTK.out, e, H.out.hE] at h4
      exact absurd h4 (by decide)
  have hd1 : s1.deep = st.deep := Z.out.2.1
  have hii : st.i ≤ s1.i := Z.out.2.2
  have e1 : IntKind.i64.wrap ((s1.i : Int) + 1) = (s1.i : Int) + 1 := IntWalk.i64_in _ (by have := N.out.1.rd.hb; omega)
  have HY2 : Hid (∀ W, RdAt p g n c ts { s1 with i := s1.i + 1 } W → Calls Try.prog 38 #[.pointer (some ⟨p, 0, none⟩), .slice none 0 0] W (EOut p g n c ts { s1 with i := s1.i + 1 } W)) := Lib.hid (fun W hr => HY.out W _ hr (by show 0 ≤ s1.deep; rw [hd1]; exact HD0.out) (by show s1.deep ≤ ((s1.i + 1 + _ : Nat) : Int); have := HD1.out; omega))
  have HSTEP : Hid (∀ W, RdAt p g n c ts s1 W → RdPost p g n c ts { s1 with i := s1.i + 1 } W (W.setCell ⟨p, 1, none⟩ (.int .i64 ((s1.i : Int) + 1)))) := Lib.hid (fun W hr => RdPost.step hr hlt)
  have HLB : Hid (l.length ≤ 1000000) := Lib.hid (by have a1 := H.out.ll; have a2 := H.out.rd.hi; have a3 := H.out.rd.hb; have a4 : e1P st ≤ 1 := (by unfold e1P; split <;> omega); omega)
  have HDI := Lib.hid (And.intro hd1 hii)
  clear HRP hrl0 hlt hd1 hii HY HNO
  have d0 := fun (x' : WIn (Below wd.heap.size wd)) => cell_later x'.h c0
  have d1 := fun (x' : WIn (Below wd.heap.size wd)) => cell_later x'.h c1
  have d3 := fun (x' : WIn (Below wd.heap.size wd)) => cell_later x'.h c3
  have d4 := fun (x' : WIn (Below wd.heap.size wd)) => cell_later x'.h t0
  have d5 := fun (x' : WIn (Below wd.heap.size wd)) => cell_later x'.h t1
  refine region_in (Below wd.heap.size wd) (by kernel_rfl) (by kernel_rfl) (Below.refl _ _).drew (fun inst => ?_)
  iterate 23 (go_big_quiet_step (fail))
  refine wpQuiet_nil ?_
  intro we hbe
  have N := Lib.hid (N.out.below hbe)
  have k1 := N.out.1.rd.c1
  have kf := N.out.1.rd.fz 1
  clear hbe c0 c1 c3 t0 t1 t2 d0 d1 d3 d4 d5
  go_wp2_with (first | (go_at_call 38; have N2 := Lib.hid (N.out.post (HSTEP.out _ N.out.1.rd)); refine (HY2.out _ N2.out.1.rd).mono ?_; rintro e w5 ⟨s2, y, ay, cy, y1, rfl, y2, y3, y4, y5, y6, y7⟩; have hXA := CMx.apart HBLT.out N2.out y3; have N3 := Lib.hid (N2.out.post ⟨y2, y4⟩); have OY := Lib.hid (y3.base N2.out.1.bw3); have HXA : Hid (∀ k, Blk ax x.length cx k ∨ Blk ay y.length cy k → ¬ Blk A l.length cc k) := Lib.hid (fun k hk => hk.elim (N3.out.2.2 k) (hXA k)); have hB5 := N3.out.1.bw3; have Y := Lib.hid (And.intro y1 (And.intro y5 y6)); clear y1 y2 y3 y4 y5 y6 y7 hXA N2) | (at_builtin; refine wpList_append_cd (by rfl) _ _ rfl ⟨⟨1, rl, x, y, -1, -1, (tkP ts s1.i).at_⟩, ax, cx, ay, cy⟩ (by rfl) (by rfl) N3.out.1.oc hB5 N3.out.2.1 OY.out HXA.out (by rfl) (by first | rfl | (simp; done)) HLB.out ?_; intro A3 c3 n3 w6 hn ho hf hk2; have V := Lib.hid (And.intro hn (And.intro ho (And.intro hf hk2))); clear hn ho hf hk2))
  go_ret
  have z1 := HDI.out.1
  have z2 := HDI.out.2
  have z3 : s2.deep = s1.deep := Y.out.2.1
  have z4 : s1.i + 1 ≤ s2.i := Y.out.2.2
  exact fin_cd H0.out N3.out.1 (by have := HYES.out _ _ Z.out.1 HRT.out Y.out.1; rw [csOf_snoc]; rw [show relL (tkP ts s1.i).t = rl by rw [HTK.out, HRL.out]] at this; exact this) V.out.2.1 V.out.2.2.1 V.out.2.2.2 V.out.1 (z3.trans z1) (by omega) (by omega)
end Go.Proofs.Ytnnhdkchdjddkaa.C
