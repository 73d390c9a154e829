/- The reference's cond and both: walks (printed by gen_cond.py). -/
import Derived.Test.YtnnhdkchdjddkaaCondI
namespace Go.Proofs.Ytnnhdkchdjddkaa.C
open Go.RowKit
set_option linter.unusedSimpArgs false
set_option linter.unusedVariables false
set_option maxRecDepth 100000 in
set_option maxHeartbeats 6400000 in
theorem both_next {B p g n c : Nat} {ts : List Tok} {st : Rd} {A : Option Addr} {l : List Cv} {cc : Nat} {w : World} (h : CIn B p g n c ts st A l cc w)
    (IH0 : Calls Try.prog 26 #[.pointer (some ⟨p, 0, none⟩), .slice A l.length cc] w (COut B p g n c ts (CFs ts 2 st (csOf l)) st A l cc w))
    (IH1 : ∀ s1 A1 l1 cc1 W, st.i + e1P st < s1.i + e1P s1 → CIn B p g n c ts s1 A1 l1 cc1 W → Calls Try.prog 26 #[.pointer (some ⟨p, 0, none⟩), .slice A1 l1.length cc1] W (COut B p g n c ts (CFs ts 2 s1 (csOf l1)) s1 A1 l1 cc1 W)) :
    Calls Try.prog 16 #[.pointer (some ⟨p, 0, none⟩), .slice A l.length cc] w (COut B p g n c ts (CFs ts 1 st (csOf l)) st A l cc w) := by
  have H := Lib.hid h
  have HI := Lib.hid IH1
  clear h IH1
  go_enter Try.func16, Try.ntmps16
  go_wp2_with (go_at_call 26; refine IH0.mono ?_; rintro e w1 ⟨s1, l1, A1, cc1, z1, rfl, z2, z3, z4, z5, z6, z7, z8, z9⟩; have HCL : Hid (CLp B p g n c ts 1 st A l cc w s1 A1 l1 cc1 w1) := Lib.hid ⟨⟨H.out.pB, H.out.gB, H.out.bw, z2, z3, z4, z5⟩, z6, z7, z8, z9, fun r hr => CFs_both z1 hr⟩; clear z1 z2 z3 z4 z5 z6 z7 z8 z9 IH0)
  go_loopw [1] (fun v wr => ∃ s1 A1 l1 cc1, v = .slice A1 (List.length l1) cc1 ∧ Hid (CLp B p g n c ts 1 st A l cc w s1 A1 l1 cc1 wr)) (fun _ wr => n - posOf p wr)
  case atStart => exact ⟨s1, A1, l1, cc1, rfl, HCL⟩
  case round =>
    clear HCL
    obtain ⟨s1, A1, l1, cc1, rfl, HR⟩ := hrel
    obtain ⟨wo, rfl⟩ : ∃ wo : World, wo = wr := ⟨_, rfl⟩
    have c3 := HR.out.mid.rd.c3
    by_cases h0 : s1.e = 0
    rotate_left
    · have g0 : (s1.e == 0) = false := by rw [beq_eq_false_iff_ne]; exact h0
      have HF : Hid (COut B p g n c ts (CFs ts 1 st (csOf l)) st A l cc w (.returned (.slice A1 l1.length cc1)) wo) := Lib.hid (HR.out.fin (CFs_end4 (by unfold isP; rw [decide_eq_false h0]; rfl)) (RdPost.of HR.out.mid.rd (Below.refl _ _)))
      clear h0 HR
      go_wp2_with fail
      go_ret
      exact HF.out
    rw [h0] at c3
    have HH0 := Lib.hid h0
    obtain ⟨b, hb⟩ : ∃ b, isP ts s1 [97, 110, 100] = b := ⟨_, rfl⟩
    have IS := rd_is_c HR.out.mid.rd ⟨#[97, 110, 100]⟩
    rw [show isP ts s1 (⟨#[97, 110, 100]⟩ : ByteArray).data.toList = b from hb] at IS
    have HB := Lib.hid hb
    clear hb h0
    cases b
    · have HF : Hid (∀ W', Below wo.heap.size wo W' → COut B p g n c ts (CFs ts 1 st (csOf l)) st A l cc w (.returned (.slice A1 l1.length cc1)) W') := Lib.hid (fun W' hw => HR.out.fin (CFs_end4 HB.out) (RdPost.of HR.out.mid.rd hw))
      clear HR
      go_wp2_with (go_at_call 17; refine IS.mono ?_; rintro e w3 ⟨rfl, hb3⟩; have HF2 := Lib.hid (HF.out _ hb3); clear hb3 IS)
      go_ret
      exact HF2.out
    · have hln : l1.length ≤ 300000 := by
        have a1 := HR.out.ll
        have a2 := H.out.ll
        have a3 := HR.out.mid.rd.hi
        have a4 := HR.out.mid.rd.hb
        have a5 : e1P s1 ≤ 1 := by unfold e1P; split <;> omega
        have a6 : e1P st ≤ 1 := by unfold e1P; split <;> omega
        omega
      have el1 : IntKind.i64.wrap ((l1.length : Int) - 1) = (l1.length : Int) - 1 := IntWalk.i64_in _ (by omega)
      have hW : wantP ts s1 [97, 110, 100] = { s1 with i := s1.i + 1 } := by unfold wantP; rw [if_pos HB.out]
      have HWANT : ∀ W, RdAt p g n c ts s1 W → Calls Try.prog 19 #[.pointer (some ⟨p, 0, none⟩), .string ⟨#[97, 110, 100]⟩] W fun e w' => (∃ v, e = .returned v) ∧ RdPost p g n c ts { s1 with i := s1.i + 1 } W w' := fun W hW' => by
        have := rd_want_c hW' H.out.hE ⟨#[97, 110, 100]⟩
        rw [show wantP ts s1 (⟨#[97, 110, 100]⟩ : ByteArray).data.toList = { s1 with i := s1.i + 1 } from hW] at this
        exact this
      have HC : Hid (∀ W1, RdPost p g n c ts { s1 with i := s1.i + 1 } wo W1 → Calls Try.prog 26 #[.pointer (some ⟨p, 0, none⟩), .slice A1 l1.length cc1] W1 (COut B p g n c ts (CFs ts 2 { s1 with i := s1.i + 1 } (csOf l1)) { s1 with i := s1.i + 1 } A1 l1 cc1 W1)) := Lib.hid (fun W1 hp => HI.out _ A1 l1 cc1 W1 (HR.out.cin H.out HH0.out hp).2 (HR.out.cin H.out HH0.out hp).1)
      have HLN : Hid (l1.length ≤ s1.i + 1) := Lib.hid (by
        have a1 := HR.out.ll
        have a2 := H.out.ll
        have a3 : e1P s1 = 0 := e1P_0 HH0.out
        have hst : st.e = 0 := Classical.byContradiction (fun x => by have := (HR.out.er x).1; have h0 := HH0.out; rw [this] at h0; exact x h0)
        have a4 : e1P st = 0 := e1P_0 hst
        omega)
      have HB0 : B ≤ w.heap.size := H.out.bw
      have HR0 := Lib.hid HR.out.mid.rd
      clear hW
      go_wp2_with (first | (go_at_call 17; refine IS.mono ?_; rintro e w3 ⟨rfl, hb3⟩; have P := Lib.hid (RdPost.of HR0.out hb3); clear hb3 IS) | (go_at_call 18; refine (rd_here_c P.out.1).mono ?_; rintro e w3 ⟨rfl, hb3⟩; have P := Lib.hid (P.out.trans (RdPost.of P.out.1 hb3)); clear hb3) | (go_at_call 19; refine (HWANT _ P.out.1).mono ?_; rintro e w4 ⟨⟨v, rfl⟩, hp4⟩; have P4 := Lib.hid (P.out.trans hp4); clear hp4 HWANT) | (go_at_call 26; refine (HC.out _ P4.out).mono ?_; rintro e w5 ⟨s2, l2, A2, cc2, x1, rfl, x2, x3, x4, x5, x6, x7, x8, x9⟩; have hl2 : l2.length ≤ 200000 := (by have y1 := HLN.out; have y2 := x2.hb; have y3 := x2.hi; have y4 : e1P s2 ≤ 1 := (by unfold e1P; split <;> omega); simp only at x7 x8; omega); have el2 : IntKind.i64.wrap ((l2.length : Int) - 1) = (l2.length : Int) - 1 := IntWalk.i64_in _ (by omega); have hB5 : B ≤ w5.heap.size := (by have y1 := HR.out.mid.fr.size; have y2 := P4.out.2.size; have y3 := x4.size; omega); have OCH := Lib.hid x3; have X := Lib.hid (And.intro x1 (And.intro x2 (And.intro x3 (And.intro x4 (And.intro x5 (And.intro x6 (And.intro x7 x8))))))); clear x1 x2 x3 x4 x5 x6 x7 x8 x9 HC) | (at_builtin; refine wpList_append_cd (by rfl) _ _ rfl (cvP 3 ((l1.length : Int) - 1) ((l2.length : Int) - 1) (tkP ts s1.i).at_) (by rfl) (by rfl) OCH.out hB5 (OE.nil _ _) (OE.nil _ _) (fun k hk => hk.elim (fun x => absurd x (blk_none k)) (fun x => absurd x (blk_none k))) (by rfl) (by first | rfl | (simp; done)) (Nat.le_trans hl2 (by omega)) ?_; intro A3 c3 n3 w6 hn ho hf hk2; have V := Lib.hid (And.intro hn (And.intro ho (And.intro hf hk2))); clear hn ho hf hk2))
      have HX := HR.out.next (K := 3) HH0.out P4.out (fun h1 h2 => CFs_on4 HB.out h1 h2) X.out.1 X.out.2.1 X.out.2.2.1 X.out.2.2.2.1 X.out.2.2.2.2.1 X.out.2.2.2.2.2.1 X.out.2.2.2.2.2.2.1 X.out.2.2.2.2.2.2.2 V.out.2.1 V.out.2.2.1 V.out.2.2.2
      have hp5 := HX.mid.rd.pos
      have hx7 : s1.i + 1 ≤ s2.i := X.out.2.2.2.2.2.2.1
      have h5 := HR0.out.pos
      have h6 := HR0.out.hi
      have hn3 := V.out.1
      refine ⟨⟨s2, A3, _, c3, by rw [hn3], Lib.hid HX⟩, ?_⟩
      rw [hp5, h5]
      omega
set_option maxRecDepth 100000 in
set_option maxHeartbeats 6400000 in
theorem cond_next {B p g n c : Nat} {ts : List Tok} {st : Rd} {A : Option Addr} {l : List Cv} {cc : Nat} {w : World} (h : CIn B p g n c ts st A l cc w)
    (IH0 : Calls Try.prog 16 #[.pointer (some ⟨p, 0, none⟩), .slice A l.length cc] w (COut B p g n c ts (CFs ts 1 st (csOf l)) st A l cc w))
    (IH1 : ∀ s1 A1 l1 cc1 W, st.i + e1P st < s1.i + e1P s1 → CIn B p g n c ts s1 A1 l1 cc1 W → Calls Try.prog 16 #[.pointer (some ⟨p, 0, none⟩), .slice A1 l1.length cc1] W (COut B p g n c ts (CFs ts 1 s1 (csOf l1)) s1 A1 l1 cc1 W)) :
    Calls Try.prog 8 #[.pointer (some ⟨p, 0, none⟩), .slice A l.length cc] w (COut B p g n c ts (CFs ts 0 st (csOf l)) st A l cc w) := by
  have H := Lib.hid h
  have HI := Lib.hid IH1
  clear h IH1
  go_enter Try.func8, Try.ntmps8
  go_wp2_with (go_at_call 16; refine IH0.mono ?_; rintro e w1 ⟨s1, l1, A1, cc1, z1, rfl, z2, z3, z4, z5, z6, z7, z8, z9⟩; have HCL : Hid (CLp B p g n c ts 0 st A l cc w s1 A1 l1 cc1 w1) := Lib.hid ⟨⟨H.out.pB, H.out.gB, H.out.bw, z2, z3, z4, z5⟩, z6, z7, z8, z9, fun r hr => CFs_cond z1 hr⟩; clear z1 z2 z3 z4 z5 z6 z7 z8 z9 IH0)
  go_loopw [1] (fun v wr => ∃ s1 A1 l1 cc1, v = .slice A1 (List.length l1) cc1 ∧ Hid (CLp B p g n c ts 0 st A l cc w s1 A1 l1 cc1 wr)) (fun _ wr => n - posOf p wr)
  case atStart => exact ⟨s1, A1, l1, cc1, rfl, HCL⟩
  case round =>
    clear HCL
    obtain ⟨s1, A1, l1, cc1, rfl, HR⟩ := hrel
    obtain ⟨wo, rfl⟩ : ∃ wo : World, wo = wr := ⟨_, rfl⟩
    have c3 := HR.out.mid.rd.c3
    by_cases h0 : s1.e = 0
    rotate_left
    · have g0 : (s1.e == 0) = false := by rw [beq_eq_false_iff_ne]; exact h0
      have HF : Hid (COut B p g n c ts (CFs ts 0 st (csOf l)) st A l cc w (.returned (.slice A1 l1.length cc1)) wo) := Lib.hid (HR.out.fin (CFs_end3 (by unfold isP; rw [decide_eq_false h0]; rfl)) (RdPost.of HR.out.mid.rd (Below.refl _ _)))
      clear h0 HR
      go_wp2_with fail
      go_ret
      exact HF.out
    rw [h0] at c3
    have HH0 := Lib.hid h0
    obtain ⟨b, hb⟩ : ∃ b, isP ts s1 [111, 114] = b := ⟨_, rfl⟩
    have IS := rd_is_c HR.out.mid.rd ⟨#[111, 114]⟩
    rw [show isP ts s1 (⟨#[111, 114]⟩ : ByteArray).data.toList = b from hb] at IS
    have HB := Lib.hid hb
    clear hb h0
    cases b
    · have HF : Hid (∀ W', Below wo.heap.size wo W' → COut B p g n c ts (CFs ts 0 st (csOf l)) st A l cc w (.returned (.slice A1 l1.length cc1)) W') := Lib.hid (fun W' hw => HR.out.fin (CFs_end3 HB.out) (RdPost.of HR.out.mid.rd hw))
      clear HR
      go_wp2_with (go_at_call 17; refine IS.mono ?_; rintro e w3 ⟨rfl, hb3⟩; have HF2 := Lib.hid (HF.out _ hb3); clear hb3 IS)
      go_ret
      exact HF2.out
    · have hln : l1.length ≤ 300000 := by
        have a1 := HR.out.ll
        have a2 := H.out.ll
        have a3 := HR.out.mid.rd.hi
        have a4 := HR.out.mid.rd.hb
        have a5 : e1P s1 ≤ 1 := by unfold e1P; split <;> omega
        have a6 : e1P st ≤ 1 := by unfold e1P; split <;> omega
        omega
      have el1 : IntKind.i64.wrap ((l1.length : Int) - 1) = (l1.length : Int) - 1 := IntWalk.i64_in _ (by omega)
      have hW : wantP ts s1 [111, 114] = { s1 with i := s1.i + 1 } := by unfold wantP; rw [if_pos HB.out]
      have HWANT : ∀ W, RdAt p g n c ts s1 W → Calls Try.prog 19 #[.pointer (some ⟨p, 0, none⟩), .string ⟨#[111, 114]⟩] W fun e w' => (∃ v, e = .returned v) ∧ RdPost p g n c ts { s1 with i := s1.i + 1 } W w' := fun W hW' => by
        have := rd_want_c hW' H.out.hE ⟨#[111, 114]⟩
        rw [show wantP ts s1 (⟨#[111, 114]⟩ : ByteArray).data.toList = { s1 with i := s1.i + 1 } from hW] at this
        exact this
      have HC : Hid (∀ W1, RdPost p g n c ts { s1 with i := s1.i + 1 } wo W1 → Calls Try.prog 16 #[.pointer (some ⟨p, 0, none⟩), .slice A1 l1.length cc1] W1 (COut B p g n c ts (CFs ts 1 { s1 with i := s1.i + 1 } (csOf l1)) { s1 with i := s1.i + 1 } A1 l1 cc1 W1)) := Lib.hid (fun W1 hp => HI.out _ A1 l1 cc1 W1 (HR.out.cin H.out HH0.out hp).2 (HR.out.cin H.out HH0.out hp).1)
      have HLN : Hid (l1.length ≤ s1.i + 1) := Lib.hid (by
        have a1 := HR.out.ll
        have a2 := H.out.ll
        have a3 : e1P s1 = 0 := e1P_0 HH0.out
        have hst : st.e = 0 := Classical.byContradiction (fun x => by have := (HR.out.er x).1; have h0 := HH0.out; rw [this] at h0; exact x h0)
        have a4 : e1P st = 0 := e1P_0 hst
        omega)
      have HB0 : B ≤ w.heap.size := H.out.bw
      have HR0 := Lib.hid HR.out.mid.rd
      clear hW
      go_wp2_with (first | (go_at_call 17; refine IS.mono ?_; rintro e w3 ⟨rfl, hb3⟩; have P := Lib.hid (RdPost.of HR0.out hb3); clear hb3 IS) | (go_at_call 18; refine (rd_here_c P.out.1).mono ?_; rintro e w3 ⟨rfl, hb3⟩; have P := Lib.hid (P.out.trans (RdPost.of P.out.1 hb3)); clear hb3) | (go_at_call 19; refine (HWANT _ P.out.1).mono ?_; rintro e w4 ⟨⟨v, rfl⟩, hp4⟩; have P4 := Lib.hid (P.out.trans hp4); clear hp4 HWANT) | (go_at_call 16; refine (HC.out _ P4.out).mono ?_; rintro e w5 ⟨s2, l2, A2, cc2, x1, rfl, x2, x3, x4, x5, x6, x7, x8, x9⟩; have hl2 : l2.length ≤ 200000 := (by have y1 := HLN.out; have y2 := x2.hb; have y3 := x2.hi; have y4 : e1P s2 ≤ 1 := (by unfold e1P; split <;> omega); simp only at x7 x8; omega); have el2 : IntKind.i64.wrap ((l2.length : Int) - 1) = (l2.length : Int) - 1 := IntWalk.i64_in _ (by omega); have hB5 : B ≤ w5.heap.size := (by have y1 := HR.out.mid.fr.size; have y2 := P4.out.2.size; have y3 := x4.size; omega); have OCH := Lib.hid x3; have X := Lib.hid (And.intro x1 (And.intro x2 (And.intro x3 (And.intro x4 (And.intro x5 (And.intro x6 (And.intro x7 x8))))))); clear x1 x2 x3 x4 x5 x6 x7 x8 x9 HC) | (at_builtin; refine wpList_append_cd (by rfl) _ _ rfl (cvP 4 ((l1.length : Int) - 1) ((l2.length : Int) - 1) (tkP ts s1.i).at_) (by rfl) (by rfl) OCH.out hB5 (OE.nil _ _) (OE.nil _ _) (fun k hk => hk.elim (fun x => absurd x (blk_none k)) (fun x => absurd x (blk_none k))) (by rfl) (by first | rfl | (simp; done)) (Nat.le_trans hl2 (by omega)) ?_; intro A3 c3 n3 w6 hn ho hf hk2; have V := Lib.hid (And.intro hn (And.intro ho (And.intro hf hk2))); clear hn ho hf hk2))
      have HX := HR.out.next (K := 4) HH0.out P4.out (fun h1 h2 => CFs_on3 HB.out h1 h2) X.out.1 X.out.2.1 X.out.2.2.1 X.out.2.2.2.1 X.out.2.2.2.2.1 X.out.2.2.2.2.2.1 X.out.2.2.2.2.2.2.1 X.out.2.2.2.2.2.2.2 V.out.2.1 V.out.2.2.1 V.out.2.2.2
      have hp5 := HX.mid.rd.pos
      have hx7 : s1.i + 1 ≤ s2.i := X.out.2.2.2.2.2.2.1
      have h5 := HR0.out.pos
      have h6 := HR0.out.hi
      have hn3 := V.out.1
      refine ⟨⟨s2, A3, _, c3, by rw [hn3], Lib.hid HX⟩, ?_⟩
      rw [hp5, h5]
      omega
end Go.Proofs.Ytnnhdkchdjddkaa.C
