/- The reference's reader of conditions: one induction; Cond: walk. -/
import Derived.Test.YtnnhdkchdjddkaaCondW
import Derived.Test.YtnnhdkchdjddkaaCondO
import Derived.Test.YtnnhdkchdjddkaaLexQ
import Derived.OwnWalk
namespace Go.Proofs.Ytnnhdkchdjddkaa.C
open Go.RowKit
set_option linter.unusedSimpArgs false
set_option linter.unusedVariables false
theorem conds_c {B p g n c : Nat} {ts : List Tok} (hT : ∀ i, (tkP ts i).t.length ≤ 4611686018427387904) : ∀ (k : Nat) (st : Rd) (A : Option Addr) (l : List Cv) (cc : Nat) (w : World), n + 1 - (st.i + e1P st) ≤ k → CIn B p g n c ts st A l cc w →
    Calls Try.prog 26 #[.pointer (some ⟨p, 0, none⟩), .slice A l.length cc] w (COut B p g n c ts (CFs ts 2 st (csOf l)) st A l cc w) ∧
    Calls Try.prog 16 #[.pointer (some ⟨p, 0, none⟩), .slice A l.length cc] w (COut B p g n c ts (CFs ts 1 st (csOf l)) st A l cc w) ∧
    Calls Try.prog 8 #[.pointer (some ⟨p, 0, none⟩), .slice A l.length cc] w (COut B p g n c ts (CFs ts 0 st (csOf l)) st A l cc w) := by
  intro k
  induction k with
  | zero =>
    intro st A l cc w hk h
    have h1 := h.rd.hi
    have h2 : e1P st ≤ 1 := by unfold e1P; split <;> omega
    omega
  | succ k ih =>
    intro st A l cc w hk h
    have h1 := h.rd.hi
    have HO : Calls Try.prog 26 #[.pointer (some ⟨p, 0, none⟩), .slice A l.length cc] w (COut B p g n c ts (CFs ts 2 st (csOf l)) st A l cc w) := by
      by_cases h0 : st.e = 0
      rotate_left
      · exact one_err h h0
      have nf : ∀ {W}, ¬ isP ts st W = true → isP ts st W = false := fun {W} hx => by cases hh : isP ts st W; rfl; exact absurd hh hx
      have e0 := e1P_0 h0
      by_cases q1 : isP ts st [110, 111, 116] = true
      · exact one_not h h0 q1 (fun W hc => (ih _ A l cc W (by have := openP_sum ts st [110, 111, 116] h0; omega) hc).1)
      by_cases q2 : isP ts st [91] = true
      · exact one_in h h0 (nf q1) q2 (fun W hc => (ih _ A l cc W (by have := openP_sum ts st [91] h0; omega) hc).2.2)
      exact one_rel h hT h0 (nf q1) (nf q2)
    have HB := both_next h HO (fun s1 A1 l1 cc1 W hlt hc => (ih s1 A1 l1 cc1 W (by omega) hc).1)
    have HC := cond_next h HB (fun s1 A1 l1 cc1 W hlt hc => (ih s1 A1 l1 cc1 W (by omega) hc).2.1)
    exact ⟨HO, HB, HC⟩
/-- Behind the last node the text has ended. -/
def endP (ts : List Tok) (st : Rd) : Rd := if st.e = 0 ∧ (tkP ts st.i).k ≠ 0 then failP ts st 5 else st
/-- What Cond answers. -/
def CondR (L : List UInt8) (R : List Cd × Int × Int) : Prop :=
  ((lexR L).2.1 ≠ 0 ∧ R = ([], (lexR L).2.1, (lexR L).2.2)) ∨
  ((lexR L).2.1 = 0 ∧ ∃ r, CFs (lexR L).1 0 ⟨0, 0, 0, 0⟩ [] r ∧ R = (if (endP (lexR L).1 r.1).e ≠ 0 then ([], (endP (lexR L).1 r.1).e, (endP (lexR L).1 r.1).at_) else (r.2, 0, 0)))
theorem CondR.uniq {L : List UInt8} {R R' : List Cd × Int × Int} (h : CondR L R) (h' : CondR L R') : R = R' := by
  rcases h with ⟨h1, h2⟩ | ⟨h1, r, h2, h3⟩
  · rcases h' with ⟨k1, k2⟩ | ⟨k1, _⟩
    · rw [h2, k2]
    · exact absurd k1 h1
  · rcases h' with ⟨k1, _⟩ | ⟨k1, r', k2, k3⟩
    · exact absurd h1 k1
    · rw [h3, k3, h2.uniq k2]
theorem CondR.kids {L : List UInt8} {R : List Cd × Int × Int} (h : CondR L R) : KidsC R.1 := by
  rcases h with ⟨h1, h2⟩ | ⟨h1, r, ⟨f, hf⟩, h3⟩
  · rw [h2]; exact KidsC.nil
  · rw [h3]
    split
    · exact KidsC.nil
    · exact (cF_kids _ f 0 _ [] r hf KidsC.nil).2
theorem lexL_txt : ∀ (m : Nat) (l : List UInt8) (a : Nat), l.length ≤ m → ∀ t ∈ (lexL l a).1, t.t.length ≤ l.length := by
  intro m
  induction m with
  | zero =>
    intro l a h t ht
    have : l = [] := List.eq_nil_of_length_eq_zero (by omega)
    subst this
    rw [lexL_nil] at ht
    cases ht
  | succ m ih =>
    intro l a h t ht
    by_cases hne : l = []
    · subst hne; rw [lexL_nil] at ht; cases ht
    have hpos : 0 < l.length := List.length_pos_iff.2 hne
    by_cases hk : 0 < skipL l
    · rw [lexL_skip hne hk] at ht
      have := ih _ _ (by rw [List.length_drop]; omega) t ht
      rw [List.length_drop] at this
      omega
    · by_cases hE : (oneL l).2.2 ≠ 0
      · rw [lexL_err hne (by omega) hE] at ht; cases ht
      · have hE0 : (oneL l).2.2 = 0 := Classical.byContradiction hE
        have hfit := oneL_fits hpos hE0
        rw [lexL_tok hne (by omega) hE0] at ht
        simp only [List.mem_cons] at ht
        rcases ht with rfl | ht
        · simp only [List.length_take]; omega
        · have := ih _ _ (by rw [List.length_drop]; omega) t ht
          rw [List.length_drop] at this
          omega
theorem lexR_facts {L : List UInt8} (h : (lexR L).2.1 = 0) : 0 < (lexR L).1.length ∧ (lexR L).1.length ≤ 8193 ∧ (tkP (lexR L).1 ((lexR L).1.length - 1)).k = 0 ∧ ∀ i, (tkP (lexR L).1 i).t.length ≤ 8192 := by
  by_cases hbig : 8192 < L.length
  · unfold lexR at h
    rw [if_pos hbig] at h
    exact absurd h (by decide)
  rcases hx : (lexL L 0).2 with _ | x
  · have e : lexR L = ((lexL L 0).1 ++ [⟨0, [], L.length⟩], 0, 0) := by unfold lexR; rw [if_neg hbig, hx]
    have hc := lexL_count L.length L 0 (Nat.le_refl _)
    rw [e]
    have hl : ((lexL L 0).1 ++ [(⟨0, [], L.length⟩ : Tok)]).length = (lexL L 0).1.length + 1 := by rw [List.length_append]; rfl
    refine ⟨by show 0 < ((lexL L 0).1 ++ [(⟨0, [], L.length⟩ : Tok)]).length; omega, by show ((lexL L 0).1 ++ [(⟨0, [], L.length⟩ : Tok)]).length ≤ 8193; omega, ?_, fun i => ?_⟩
    · show (tkP ((lexL L 0).1 ++ [(⟨0, [], L.length⟩ : Tok)]) (((lexL L 0).1 ++ [(⟨0, [], L.length⟩ : Tok)]).length - 1)).k = 0
      rw [hl, Nat.add_sub_cancel]
      unfold tkP
      rw [List.getD_eq_getElem?_getD, List.getElem?_append_right (Nat.le_refl _)]
      simp
    · show (tkP ((lexL L 0).1 ++ [(⟨0, [], L.length⟩ : Tok)]) i).t.length ≤ 8192
      unfold tkP
      rw [List.getD_eq_getElem?_getD]
      rcases hq : ((lexL L 0).1 ++ [(⟨0, [], L.length⟩ : Tok)])[i]? with _ | q
      · simp
      · have hm := List.mem_of_getElem? hq
        rw [List.mem_append, List.mem_singleton] at hm
        simp only [Option.getD_some]
        rcases hm with hm | rfl
        · have := lexL_txt L.length L 0 (Nat.le_refl _) q hm
          omega
        · simp
  · have hp := (lexL_place L.length L 0 x.1 x.2 (Nat.le_refl _) (by rw [hx])).2.2
    have e : lexR L = ([], x.1, (x.2 : Int)) := by unfold lexR; rw [if_neg hbig, hx]
    rw [e] at h
    exact absurd h hp
theorem OC.base {w : World} {B B' : Nat} {A : Option Addr} {l : List Cv} {c : Nat} (h : OC w B' A l c) (hB : B ≤ B') : OC w B A l c := by
  refine ⟨?_, fun v hv => ⟨(h.ex v hv).1.base hB, (h.ex v hv).2.base hB⟩, h.ap⟩
  obtain ⟨h1, h2⟩ := h.own
  refine ⟨h1, ?_⟩
  rcases h2 with h2 | ⟨g, cap, cur, e, hg, r⟩
  · exact .inl h2
  · exact .inr ⟨g, cap, cur, e, Nat.le_trans hB hg, r⟩
def CondPost (L : List UInt8) (w : World) (e : Ending) (w' : World) : Prop :=
  ∃ cv A c E P, CondR L (csOf cv, E, P) ∧ e = .returned (.tuple #[.slice A cv.length c, .int .i64 E, .int .i64 P]) ∧ OC w' w.heap.size A cv c ∧ Below w.heap.size w w'
theorem CondPost.mk {L : List UInt8} {w w' : World} {cv : List Cv} {A : Option Addr} {c n : Nat} {E P : Int} (h1 : CondR L (csOf cv, E, P)) (hn : n = cv.length) (h3 : OC w' w.heap.size A cv c) (h4 : Below w.heap.size w w') : CondPost L w (.returned (.tuple #[.slice A n c, .int .i64 E, .int .i64 P])) w' := ⟨cv, A, c, E, P, h1, by rw [hn], h3, h4⟩
set_option maxRecDepth 100000 in
set_option maxHeartbeats 6400000 in
theorem r_cond_c (s : ByteArray) (w : World) (hs : s.size ≤ 4611686018427387904) : Calls Try.prog 5 #[.string s] w (CondPost s.data.toList w) := by
  have HL := r_lex_c s w hs
  obtain ⟨L, hL⟩ : ∃ L, s.data.toList = L := ⟨_, rfl⟩
  rw [hL] at HL ⊢
  clear hL hs
  obtain ⟨⟨ts, E, P⟩, hr⟩ : ∃ r, lexR L = r := ⟨_, rfl⟩
  by_cases hE : E ≠ 0
  · have gE : (E == 0) = false := by rw [beq_eq_false_iff_ne]; exact hE
    have HR : Hid (CondR L (csOf [], E, P)) := Lib.hid (.inl (by rw [hr]; exact ⟨hE, rfl⟩))
    rw [hr] at HL
    clear hr hE
    go_enter Try.func5, Try.ntmps5
    go_wp2_with (go_at_call 7; refine HL.mono ?_; rintro e w1 ⟨A, c, rfl, z1, z2⟩; have Z := Lib.hid z2; clear z1 z2 HL)
    go_ret3
    exact CondPost.mk HR.out rfl (OC.nil _ _) Z.out
  have hE0 : E = 0 := Classical.byContradiction hE
  subst hE0
  have hf := lexR_facts (L := L) (by rw [hr])
  have HCR : Hid (∀ r, CFs ts 0 ⟨0, 0, 0, 0⟩ [] r → CondR L (if (endP ts r.1).e ≠ 0 then ([], (endP ts r.1).e, (endP ts r.1).at_) else (r.2, 0, 0))) := Lib.hid (fun r h => .inr (by rw [hr]; exact ⟨rfl, r, h, rfl⟩))
  rw [hr] at hf HL
  simp only at hf HL
  have HF := Lib.hid hf
  clear hf hr hE
  obtain ⟨n, hn⟩ : ∃ n, ts.length = n := ⟨_, rfl⟩
  unfold LexPost at HL
  simp only [hn] at HL
  have HN := Lib.hid hn
  clear hn
  go_enter Try.func5, Try.ntmps5
  go_upto_region 4 with (go_at_call 7; refine HL.mono ?_; rintro e w1 ⟨A, c, rfl, z1, z2⟩; obtain ⟨g, rfl, z3, z4⟩ := z1 (fun e => by have h1 := HF.out.1; rw [e] at h1; exact absurd h1 (by decide)); have Z := Lib.hid (And.intro z2 (And.intro z3 z4)); clear z1 z2 z3 z4 HL)
  have HMK : Hid (∀ W, Below w1.heap.size w1 W → w1.heap.size < W.heap.size → W.cell? ⟨w1.heap.size, 0, none⟩ = some (.slice (some ⟨g, 0, none⟩) n c) → W.cell? ⟨w1.heap.size, 1, none⟩ = some (.int .i64 0) → W.cell? ⟨w1.heap.size, 2, none⟩ = some (.int .i64 0) → W.cell? ⟨w1.heap.size, 3, none⟩ = some (.int .i64 0) → W.cell? ⟨w1.heap.size, 4, none⟩ = some (.int .i64 0) → (∀ o, W.frozen? ⟨w1.heap.size, o, none⟩ = false) →
      CIn (w1.heap.size + 1) w1.heap.size g n c ts ⟨0, 0, 0, 0⟩ none [] 0 W) := Lib.hid (fun W hb hz a0 a1 a2 a3 a4 af => by
    have hg := Z.out.2.1
    have hf := HF.out
    have hn := HN.out
    refine ⟨⟨hz, a0, a1, a2, a3, a4, af, hn, by omega, by show 0 < n; omega, by omega, by omega, fun j t hj => ?_⟩, OC.nil _ _, by omega, by omega, by omega, by rw [← hn]; exact hf.2.2.1, by show (0 : Int) ≤ 0; omega, by show (0 : Int) ≤ ((0 + e1P _ : Nat) : Int); omega, Nat.zero_le _⟩
    obtain ⟨x0, x1, x2⟩ := Z.out.2.2 j t hj
    exact ⟨(hb.cell (p := ⟨g, j * 3, none⟩) hg).trans x0, (hb.cell (p := ⟨g, j * 3 + 1, none⟩) hg).trans x1, (hb.cell (p := ⟨g, j * 3 + 2, none⟩) hg).trans x2⟩)
  go_upto_region 5 with fail
  refine at_world (fun W => Hid (CIn (w1.heap.size + 1) w1.heap.size g n c ts ⟨0, 0, 0, 0⟩ none [] 0 W ∧ Below w1.heap.size w1 W)) ?_ ?_
  · exact Lib.hid ⟨HMK.out _ (by repeat' (first | exact Below.refl _ _ | (refine Below.alloc ?_ ?_ _) | (refine Below.setCell ?_ ?_ _) | (refine Below.drew ?_) | (refine below_next ?_ ?_ (by assumption)) | omega | (simp; done) | (simp; omega))) (by first | (simp; done) | (simp; omega)) (by simp [go_sem]) (by simp [go_sem]) (by simp [go_sem]) (by simp [go_sem]) (by simp [go_sem]) (by intro o; simp [go_sem]), (by repeat' (first | exact Below.refl _ _ | (refine Below.alloc ?_ ?_ _) | (refine Below.setCell ?_ ?_ _) | (refine Below.drew ?_) | (refine below_next ?_ ?_ (by assumption)) | omega | (simp; done) | (simp; omega)))⟩
  intro W HC
  have HCC := (conds_c (fun i => Nat.le_trans (HF.out.2.2.2 i) (by omega)) _ ⟨0, 0, 0, 0⟩ none [] 0 W (Nat.le_refl _) HC.out.1).2.2
  clear HMK
  obtain ⟨p, hp⟩ : ∃ p, w1.heap.size = p := ⟨_, rfl⟩
  have HP := Lib.hid hp
  rw [hp] at HCC HC ⊢
  clear hp
  go_upto_region 6 with (go_at_call 8; refine HCC.mono ?_; rintro e w3 ⟨s, l', A', cc', x1, rfl, x2, x3, x4, x5, x6, x7, x8, x9⟩; have X := Lib.hid (And.intro x1 (And.intro x2 (And.intro x3 x4))); clear x1 x2 x3 x4 x5 x6 x7 x8 x9 HCC)
  have HB3 : Hid (Below w.heap.size w w3) := Lib.hid (by
    have h1 := Z.out.1
    have h2 := HC.out.2
    rw [← HP.out] at h2
    have h3 : Below w1.heap.size W w3 := X.out.2.2.2.below (fun k hk => hk.elim (fun e => by have := HP.out; omega) (fun e => absurd e (blk_none k))) h2.size
    exact below_next h1 h1.size (h2.trans h3))
  have hpw : w.heap.size ≤ p := by have := Z.out.1.size; have := HP.out; omega
  have HPW := Lib.hid hpw
  have HBASE := Lib.hid (X.out.2.2.1.base (B := w.heap.size) (by omega))
  have HRD := Lib.hid X.out.2.1
  have c0 := HRD.out.c0
  have c1 := HRD.out.c1
  have c3 := HRD.out.c3
  have c4 := HRD.out.c4
  obtain ⟨t0, t1, t2⟩ := HRD.out.toks _ _ HRD.out.tok
  have hi0 : (0 : Int) ≤ (s.i : Int) := by omega
  have hi1 : (s.i : Int) < (n : Int) := by have := HRD.out.hi; omega
  have hi2 : s.i < n := HRD.out.hi
  clear hpw t1 t2
  by_cases h0 : s.e = 0
  rotate_left
  · have HR : Hid (CondR L (csOf [], s.e, s.at_)) := Lib.hid (by
      have := HCR.out _ X.out.1
      have e : endP ts s = s := by unfold endP; rw [if_neg (fun x => h0 x.1)]
      simp only [e] at this
      rw [if_pos h0] at this
      exact this)
    obtain ⟨ee, hee⟩ : ∃ x, s.e = x := ⟨_, rfl⟩
    rw [hee] at c3 HR h0
    have g0 : (ee == 0) = false := by rw [beq_eq_false_iff_ne]; exact h0
    have g0' : (ee != 0) = true := by rw [bne, g0]; rfl
    clear hee h0
    have d0 := fun (x' : WIn (Below w3.heap.size w3)) => cell_later x'.h c0
    have d1 := fun (x' : WIn (Below w3.heap.size w3)) => cell_later x'.h c1
    have d3 := fun (x' : WIn (Below w3.heap.size w3)) => cell_later x'.h c3
    have d4 := fun (x' : WIn (Below w3.heap.size w3)) => cell_later x'.h t0
    refine region_in (Below w3.heap.size w3) (by kernel_rfl) (by kernel_rfl) (Below.refl _ _).drew (fun inst => ?_)
    iterate 19 (go_big_quiet_step (fail))
    refine wpQuiet_nil ?_
    intro wd hbd
    have b3 := cell_later hbd c3
    have b4 := cell_later hbd c4
    have HB4 := Lib.hid (below_next HB3.out HB3.out.size hbd)
    clear c0 c1 c3 c4 t0 d0 d1 d3 d4 hbd
    go_wp2_with fail
    go_region
    all_goals go_wp2
    all_goals go_ret3
    all_goals exact CondPost.mk HR.out rfl (OC.nil _ _) (HB4.out.drew)
  rw [h0] at c3
  by_cases hk : (tkP ts s.i).k = 0
  · have HR : Hid (CondR L (csOf l', 0, 0)) := Lib.hid (by
      have := HCR.out _ X.out.1
      have e : endP ts s = s := by unfold endP; rw [if_neg (fun x => x.2 hk)]
      simp only [e] at this
      rw [if_neg (fun x => x h0)] at this
      exact this)
    rw [hk] at t0
    clear hk h0
    have d0 := fun (x' : WIn (Below w3.heap.size w3)) => cell_later x'.h c0
    have d1 := fun (x' : WIn (Below w3.heap.size w3)) => cell_later x'.h c1
    have d3 := fun (x' : WIn (Below w3.heap.size w3)) => cell_later x'.h c3
    have d4 := fun (x' : WIn (Below w3.heap.size w3)) => cell_later x'.h t0
    refine region_in (Below w3.heap.size w3) (by kernel_rfl) (by kernel_rfl) (Below.refl _ _).drew (fun inst => ?_)
    iterate 19 (go_big_quiet_step (fail))
    refine wpQuiet_nil ?_
    intro wd hbd
    have b3 := cell_later hbd c3
    have HB4 := Lib.hid (below_next HB3.out HB3.out.size hbd)
    have HO4 := Lib.hid (HBASE.out.below hbd)
    clear c0 c1 c3 c4 t0 d0 d1 d3 d4 hbd
    go_wp2_with fail
    go_ret3
    exact CondPost.mk HR.out rfl HO4.out HB4.out
  · have HR : Hid (CondR L (csOf [], 5, ((tkP ts s.i).at_ : Int))) := Lib.hid (by
      have := HCR.out _ X.out.1
      have e : endP ts s = { s with e := 5, at_ := (tkP ts s.i).at_ } := by unfold endP failP; rw [if_pos ⟨h0, hk⟩, if_pos h0]
      simp only [e] at this
      rw [if_pos (by decide)] at this
      exact this)
    have hf5 : failP ts s 5 = { s with e := 5, at_ := (tkP ts s.i).at_ } := by unfold failP; rw [if_pos h0]
    have HFA : Hid (∀ W', Below w3.heap.size w3 W' → Calls Try.prog 9 #[.pointer (some ⟨p, 0, none⟩), .int .i64 5] W' fun e w' => (∃ v, e = .returned v) ∧ Below w.heap.size w w' ∧ w'.cell? ⟨p, 3, none⟩ = some (.int .i64 5) ∧ w'.cell? ⟨p, 4, none⟩ = some (.int .i64 ((tkP ts s.i).at_ : Int))) := Lib.hid (fun W' hb => (rd_fail_c (HRD.out.below hb) 5).mono (fun e w' hh => by
      rw [hf5] at hh
      have h1 := below_next HB3.out HB3.out.size hb
      exact ⟨hh.1, h1.trans (hh.2.2.below (fun k hk => by subst hk; exact HPW.out) h1.size), hh.2.1.c3, hh.2.1.c4⟩))
    obtain ⟨kk, hkk⟩ : ∃ x, (tkP ts s.i).k = x := ⟨_, rfl⟩
    rw [hkk] at t0 hk
    have g1 : (kk == 0) = false := by rw [beq_eq_false_iff_ne]; exact hk
    have g1' : (kk != 0) = true := by rw [bne, g1]; rfl
    clear hk h0 hkk hf5
    have d0 := fun (x' : WIn (Below w3.heap.size w3)) => cell_later x'.h c0
    have d1 := fun (x' : WIn (Below w3.heap.size w3)) => cell_later x'.h c1
    have d3 := fun (x' : WIn (Below w3.heap.size w3)) => cell_later x'.h c3
    have d4 := fun (x' : WIn (Below w3.heap.size w3)) => cell_later x'.h t0
    refine region_in (Below w3.heap.size w3) (by kernel_rfl) (by kernel_rfl) (Below.refl _ _).drew (fun inst => ?_)
    iterate 19 (go_big_quiet_step (fail))
    refine wpQuiet_nil ?_
    intro wd hbd
    have HFE := HFA.out _ hbd
    clear c0 c1 c3 c4 t0 d0 d1 d3 d4 hbd
    go_wp2_with (go_at_call 9; refine HFE.mono ?_; rintro e w5 ⟨⟨v5, rfl⟩, hb5, b3, b4⟩; have HB4 := Lib.hid hb5; clear hb5 HFE)
    go_region
    all_goals go_wp2
    all_goals go_ret3
    all_goals exact CondPost.mk HR.out rfl (OC.nil _ _) (HB4.out.drew)
end Go.Proofs.Ytnnhdkchdjddkaa.C
