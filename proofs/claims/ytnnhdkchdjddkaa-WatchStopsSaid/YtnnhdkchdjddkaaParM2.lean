/- The reference's reader: take, want, open: walks. -/
import Derived.Test.YtnnhdkchdjddkaaParM
namespace Go.Proofs.Ytnnhdkchdjddkaa.C
open Go.RowKit
set_option linter.unusedSimpArgs false
set_option linter.unusedVariables false
theorem isP_lt {ts : List Tok} {st : Rd} {W : List UInt8} {n : Nat} (hi : st.i < n) (hE : (tkP ts (n - 1)).k = 0) (h : isP ts st W = true) : st.i + 1 < n := by
  rcases Nat.lt_or_ge (st.i + 1) n with h1 | h1
  · exact h1
  · exfalso
    have e : st.i = n - 1 := by omega
    unfold isP at h
    rw [e, hE] at h
    simp at h
theorem isP_e {ts : List Tok} {st : Rd} {W : List UInt8} (h : isP ts st W = true) : st.e = 0 := by
  unfold isP at h
  rw [Bool.and_eq_true, decide_eq_true_eq] at h
  exact h.1
theorem RdPost.trans {p g n c : Nat} {ts : List Tok} {s1 s2 : Rd} {w w1 w2 : World} (h : RdPost p g n c ts s1 w w1) (k : RdPost p g n c ts s2 w1 w2) : RdPost p g n c ts s2 w w2 := ⟨k.1, h.2.trans k.2 (fun _ _ h => h)⟩
theorem RdPost.of {p g n c : Nat} {ts : List Tok} {st : Rd} {w w1 : World} (h : RdAt p g n c ts st w) (hb : Below w.heap.size w w1) : RdPost p g n c ts st w w1 := ⟨h.below hb, Fr.of hb⟩
/-- The next token. -/
theorem RdPost.step {p g n c : Nat} {ts : List Tok} {st : Rd} {w : World} (h : RdAt p g n c ts st w) (hi : st.i + 1 < n) :
    RdPost p g n c ts { st with i := st.i + 1 } w (w.setCell ⟨p, 1, none⟩ (.int .i64 ((st.i : Int) + 1))) :=
  ⟨h.set 1 (.int .i64 ((st.i : Int) + 1)) (by omega) hi rfl rfl rfl rfl, Fr.set (S := fun k => k = p) (p := ⟨p, 1, none⟩) (Fr.of (Below.refl _ _)) rfl _⟩
/-- Deeper, or less deep. -/
theorem RdPost.deep {p g n c : Nat} {ts : List Tok} {st : Rd} {w : World} (h : RdAt p g n c ts st w) (d : Int) :
    RdPost p g n c ts { st with deep := d } w (w.setCell ⟨p, 2, none⟩ (.int .i64 d)) :=
  ⟨h.set 2 (.int .i64 d) (by omega) h.hi rfl rfl rfl rfl, Fr.set (S := fun k => k = p) (p := ⟨p, 2, none⟩) (Fr.of (Below.refl _ _)) rfl _⟩
set_option maxHeartbeats 1600000 in
theorem rd_take_c {p g n c : Nat} {ts : List Tok} {st : Rd} {w : World} (h : RdAt p g n c ts st w) (hE : (tkP ts (n - 1)).k = 0) (W : ByteArray) :
    Calls Try.prog 27 #[.pointer (some ⟨p, 0, none⟩), .string W] w fun e w' => e = .returned (.bool (isP ts st W.data.toList)) ∧ RdPost p g n c ts (takeP ts st W.data.toList) w w' := by
  have HI := rd_is_c h W
  have H := Lib.hid h
  obtain ⟨b, hb⟩ : ∃ b, isP ts st W.data.toList = b := ⟨_, rfl⟩
  unfold takeP
  rw [hb] at HI ⊢
  cases b
  · clear h hb
    go_enter Try.func27, Try.ntmps27
    go_wp2_with (go_at_call 17; refine HI.mono ?_; rintro e w1 ⟨rfl, hb1⟩)
    go_ret
    exact ⟨rfl, RdPost.of H.out hb1⟩
  · have hi := isP_lt h.hi hE hb
    have e1 : IntKind.i64.wrap ((st.i : Int) + 1) = (st.i : Int) + 1 := IntWalk.i64_in _ (by have := h.hb; omega)
    clear h hb
    go_enter Try.func27, Try.ntmps27
    go_wp2_with (go_at_call 17; refine HI.mono ?_; rintro e w1 ⟨rfl, hb1⟩; have H1 := Lib.hid (H.out.below hb1); have c1 := H1.out.c1; have f1 := H1.out.fz 1)
    go_ret
    exact ⟨rfl, (RdPost.of H.out hb1).trans (RdPost.step H1.out hi)⟩
set_option maxHeartbeats 1600000 in
theorem rd_want_c {p g n c : Nat} {ts : List Tok} {st : Rd} {w : World} (h : RdAt p g n c ts st w) (hE : (tkP ts (n - 1)).k = 0) (W : ByteArray) :
    Calls Try.prog 19 #[.pointer (some ⟨p, 0, none⟩), .string W] w fun e w' => (∃ v, e = .returned v) ∧ RdPost p g n c ts (wantP ts st W.data.toList) w w' := by
  have HT := rd_take_c h hE W
  unfold takeP at HT
  unfold wantP
  obtain ⟨b, hb⟩ : ∃ b, isP ts st W.data.toList = b := ⟨_, rfl⟩
  rw [hb] at HT ⊢
  cases b
  · simp only [Bool.false_eq_true, if_false] at HT ⊢
    clear h hb
    go_enter Try.func19, Try.ntmps19
    go_wp2_with (first | (go_at_call 27; refine HT.mono ?_; rintro e w1 ⟨rfl, hp1⟩; have HF := rd_fail_c hp1.1 5; have HP := Lib.hid hp1; clear hp1) | (go_at_call 9; refine HF.mono ?_; rintro e w2 ⟨⟨v, rfl⟩, hp2⟩))
    go_end0
    exact ⟨⟨_, rfl⟩, HP.out.trans hp2⟩
  · simp only [if_true] at HT ⊢
    clear h hb
    go_enter Try.func19, Try.ntmps19
    go_wp2_with (go_at_call 27; refine HT.mono ?_; rintro e w1 ⟨rfl, hp1⟩)
    go_end0
    exact ⟨⟨_, rfl⟩, hp1⟩
set_option maxHeartbeats 1600000 in
theorem rd_open_c {p g n c : Nat} {ts : List Tok} {st : Rd} {w : World} (h : RdAt p g n c ts st w) (hE : (tkP ts (n - 1)).k = 0) (hd : -1000000 ≤ st.deep ∧ st.deep ≤ 1000000) (W : ByteArray) :
    Calls Try.prog 37 #[.pointer (some ⟨p, 0, none⟩), .string W] w fun e w' => (∃ v, e = .returned v) ∧ RdPost p g n c ts (openP ts st W.data.toList) w w' := by
  have HI := rd_is_c h W
  have H := Lib.hid h
  have fdeep : ∀ (s : Rd) (E : Int), (failP ts s E).deep = s.deep := fun s E => by unfold failP; split <;> rfl
  have wdeep : ∀ (s : Rd), (wantP ts s W.data.toList).deep = s.deep := fun s => by unfold wantP; split; rfl; exact fdeep _ _
  have e1 : IntKind.i64.wrap (st.deep + 1) = st.deep + 1 := IntWalk.i64_in _ (by omega)
  have fin : ∀ (s1 : Rd) (w1 w3 : World), s1.deep = st.deep → RdPost p g n c ts s1 w w1 → RdPost p g n c ts (wantP ts s1 W.data.toList) w1 w3 → RdPost p g n c ts { wantP ts s1 W.data.toList with deep := (wantP ts s1 W.data.toList).deep + 1 } w (w3.setCell ⟨p, 2, none⟩ (.int .i64 (st.deep + 1))) := fun s1 w1 w3 hs h1 h3 => by
    have h4 := (h1.trans h3).trans (RdPost.deep h3.1 (st.deep + 1))
    rw [wdeep, hs]
    exact h4
  have HFin := Lib.hid fin
  have hW : ∀ (s1 : Rd) (w1 : World), RdAt p g n c ts s1 w1 → s1.deep = st.deep → Calls Try.prog 19 #[.pointer (some ⟨p, 0, none⟩), .string W] w1 fun e w' => (∃ v, e = .returned v) ∧ RdPost p g n c ts (wantP ts s1 W.data.toList) w1 w' ∧ w'.cell? ⟨p, 2, none⟩ = some (.int .i64 st.deep) ∧ w'.frozen? ⟨p, 2, none⟩ = false := fun s1 w1 h1 hs =>
    (rd_want_c h1 hE W).mono (fun e w' hh => ⟨hh.1, hh.2, by have := hh.2.1.c2; rwa [wdeep, hs] at this, hh.2.1.fz 2⟩)
  have HW := Lib.hid hW
  unfold openP
  obtain ⟨b, hb⟩ : ∃ b, isP ts st W.data.toList = b := ⟨_, rfl⟩
  rw [hb] at HI ⊢
  by_cases hh : b = true ∧ 30 ≤ st.deep
  · obtain ⟨rfl, h30⟩ := hh
    rw [if_pos ⟨rfl, h30⟩]
    clear h hb fin hW wdeep
    have FD := fdeep st 6
    clear fdeep
    go_enter Try.func37, Try.ntmps37
    go_wp2_with (first | (go_at_call 17; refine HI.mono ?_; rintro e w1 ⟨rfl, hb1⟩; have H1 := Lib.hid (H.out.below hb1); have c2 := H1.out.c2; have HF := rd_fail_c H1.out 6) | (go_at_call 9; refine HF.mono ?_; rintro e w2 ⟨⟨v, rfl⟩, hp2⟩; have HP := Lib.hid ((RdPost.of H.out hb1).trans hp2); have HV := HW.out _ _ hp2.1 FD; clear hp2) | (go_at_call 19; refine HV.mono ?_; rintro e w3 ⟨⟨v, rfl⟩, hp3, k2, kf⟩; have HP3 := Lib.hid hp3; clear hp3))
    go_end0
    exact ⟨⟨_, rfl⟩, HFin.out _ _ _ FD HP.out HP3.out⟩
  · rw [if_neg hh]
    have hx : b = false ∨ (b = true ∧ ¬ 30 ≤ st.deep) := by
      cases b
      · exact .inl rfl
      · exact .inr ⟨rfl, fun h => hh ⟨rfl, h⟩⟩
    clear h hb fin hW wdeep fdeep hh
    rcases hx with rfl | ⟨rfl, h30⟩
    · go_enter Try.func37, Try.ntmps37
      go_wp2_with (first | (go_at_call 17; refine HI.mono ?_; rintro e w1 ⟨rfl, hb1⟩; have H1 := Lib.hid (H.out.below hb1); have HV := HW.out _ _ H1.out rfl) | (go_at_call 19; refine HV.mono ?_; rintro e w3 ⟨⟨v, rfl⟩, hp3, k2, kf⟩; have HP3 := Lib.hid hp3; clear hp3))
      go_end0
      exact ⟨⟨_, rfl⟩, HFin.out _ _ _ rfl (RdPost.of H.out hb1) HP3.out⟩
    · have g30 : decide ((30 : Int) ≤ st.deep) = false := decide_eq_false h30
      go_enter Try.func37, Try.ntmps37
      go_wp2_with (first | (go_at_call 17; refine HI.mono ?_; rintro e w1 ⟨rfl, hb1⟩; have H1 := Lib.hid (H.out.below hb1); have c2 := H1.out.c2; have HV := HW.out _ _ H1.out rfl) | (go_at_call 19; refine HV.mono ?_; rintro e w3 ⟨⟨v, rfl⟩, hp3, k2, kf⟩; have HP3 := Lib.hid hp3; clear hp3))
      go_end0
      exact ⟨⟨_, rfl⟩, HFin.out _ _ _ rfl (RdPost.of H.out hb1) HP3.out⟩
end Go.Proofs.Ytnnhdkchdjddkaa.C
