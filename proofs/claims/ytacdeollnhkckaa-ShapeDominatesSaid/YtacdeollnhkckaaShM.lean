/- The closure meet of shape.Dominators: walk (printed by gen_shm.py). -/
import Derived.Test.YtacdeollnhkckaaShK2
namespace Go.Proofs.Ytacdeollnhkckaa.C
open Go.Shelf Go.RowKit Go.Lib Go.Sort
set_option linter.unusedSimpArgs false
set_option linter.unusedVariables false
set_option maxRecDepth 100000 in
set_option maxHeartbeats 6400000 in
theorem meet_c {E : Nat → Nat → Prop} {r n : Nat} {rank f : Nat → Nat} {pr : Nat → Prop} (B gR gI Dr Di a0 b0 : Nat) (rl il : List Int) (w : World) (hI : Sh.Inv E r rank f pr) (hinj : ∀ a b, Sh.Rc E r a → Sh.Rc E r b → rank a = rank b → a = b) (hz : rank r = 0) (hn : n ≤ 2000) (hlt : ∀ x, pr x → x < n)
    (hr : IL w B (.slice (some ⟨gR, 0, none⟩) n n) rl) (hrl : ∀ x, Sh.Rc E r x → rl[x]? = some (rank x : Int)) (hi : IL w B (.slice (some ⟨gI, 0, none⟩) n n) il) (hil : ∀ x, pr x → il[x]? = some (f x : Int))
    (d1 : w.cell? ⟨Dr, 0, none⟩ = some (.slice (some ⟨gR, 0, none⟩) n n)) (d2 : w.cell? ⟨Di, 0, none⟩ = some (.slice (some ⟨gI, 0, none⟩) n n)) (ha : pr a0) (hb : pr b0) :
    Calls Try.prog 25 #[.int .i64 a0, .int .i64 b0, .pointer (some ⟨Dr, 0, none⟩), .pointer (some ⟨Di, 0, none⟩)] w fun e w' => ∃ c q : Nat, Sh.Meet f pr a0 b0 c c ∧ e = .returned (.int .i64 c) ∧ w' = w.drewN q := by
  have HI := Lib.hid hI
  have HJ := Lib.hid hinj
  have HZ := Lib.hid hz
  have HB := Lib.hid (And.intro hn hlt)
  have HR := Lib.hid (And.intro hr hrl)
  have HL := Lib.hid (And.intro hi hil)
  have HA : Hid (Sh.Meet f pr a0 b0 a0 b0) := Lib.hid (Sh.Meet.start ha hb)
  clear hI hinj hz hlt hr hrl hi hil ha hb
  go_enter Try.func25, Try.ntmps25
  go_wp2_with fail
  refine at_world (fun W => W = w.drewN 0) rfl ?_
  intro W hW
  go_loopw [0, 1] (fun u v wr => ∃ (a b q : Nat), u = .int .i64 a ∧ v = .int .i64 b ∧ wr = w.drewN q ∧ Hid (Sh.Meet f pr a0 b0 a b)) (fun u v _ => rank (intOf u).toNat + rank (intOf v).toNat)
  case atStart => exact ⟨a0, b0, 0, rfl, rfl, hW, HA⟩
  case round =>
    clear hW HA
    obtain ⟨a1, b1, q, rfl, rfl, rfl, HM⟩ := hrel
    by_cases hab : a1 = b1
    · subst hab
      have e1 : ((a1 : Int) != (a1 : Int)) = false := by simp
      go_wp2_with fail
      go_ret
      exact ⟨a1, q, HM.out, rfl, rfl⟩
    · have e1 : ((a1 : Int) != (b1 : Int)) = true := by rw [bne_iff_ne]; omega
      have e2 : ((a1 : Int) == (b1 : Int)) = false := by rw [beq_eq_false_iff_ne]; omega
      have HAB := Lib.hid hab
      clear hab
      go_wp2_with fail
      · skip
        go_loopw [0] (fun u wr => ∃ (a2 q' : Nat), u = .int .i64 a2 ∧ wr = w.drewN q' ∧ Hid (Sh.Meet f pr a0 b0 a2 b1 ∧ (a2 = a1 ∨ rank a2 < rank a1))) (fun u _ => rank (intOf u).toNat)
        case atStart => exact ⟨a1, _, rfl, rfl, Lib.hid ⟨HM.out, .inl rfl⟩⟩
        case round =>
          obtain ⟨a2, q', rfl, rfl, HX⟩ := hrel
          have hxp : pr a2 := HX.out.1.pa
          have hop : pr b1 := HM.out.pb
          have hxn := HB.out.2 a2 hxp
          have hon := HB.out.2 b1 hop
          have hxd : decide (a2 < n) = true := decide_eq_true hxn
          have hod : decide (b1 < n) = true := decide_eq_true hon
          have cx := HR.out.1.at_ (HR.out.2 a2 (HI.out.rc a2 hxp))
          have co := HR.out.1.at_ (HR.out.2 b1 (HI.out.rc b1 hop))
          have ci := HL.out.1.at_ (HL.out.2 a2 hxp)
          by_cases hlt : rank b1 < rank a2
          · have hltd : decide (rank b1 < rank a2) = true := decide_eq_true hlt
            have hltd2 : decide ((rank b1 : Int) < (rank a2 : Int)) = true := decide_eq_true (by omega)
            go_wp2_with fail
            go_quiet (fail)
            go_wp2_with fail
            have hs := HX.out.1.stepA HI.out HZ.out hlt
            have hor := HX.out.2
            refine ⟨⟨f a2, _, rfl, by first | exact World.drewN_drewN _ _ _ | rfl, Lib.hid ⟨hs.1, .inr (by have := hs.2; rcases hor with e | e; (· subst e; exact this); (· omega))⟩⟩, by have := hs.2; simpa [intOf] using this⟩
          · have hltd : decide (rank b1 < rank a2) = false := decide_eq_false hlt
            have hltd2 : decide ((rank b1 : Int) < (rank a2 : Int)) = false := decide_eq_false (by omega)
            go_wp2_with fail
            go_quiet (fail)
            go_wp2_with fail
            have HM2 := Lib.hid HX.out.1
            have HO1 := Lib.hid (And.intro HX.out.2 hlt)
            refine at_world (fun W => ∃ q2 : Nat, W = w.drewN q2) ⟨_, World.drewN_drewN _ _ _⟩ ?_
            clear HX hltd hltd2 hlt cx co ci hxp hop hxn hon hxd hod
            rintro W2 ⟨q2, rfl⟩
            go_loopw [1] (fun u wr => ∃ (b2 q' : Nat), u = .int .i64 b2 ∧ wr = w.drewN q' ∧ Hid (Sh.Meet f pr a0 b0 a2 b2 ∧ (b2 = b1 ∨ rank b2 < rank b1))) (fun u _ => rank (intOf u).toNat)
            case atStart => exact ⟨b1, _, rfl, rfl, Lib.hid ⟨HM2.out, .inl rfl⟩⟩
            case round =>
              obtain ⟨b2, q', rfl, rfl, HX⟩ := hrel
              have hxp : pr b2 := HX.out.1.pb
              have hop : pr a2 := HM2.out.pa
              have hxn := HB.out.2 b2 hxp
              have hon := HB.out.2 a2 hop
              have hxd : decide (b2 < n) = true := decide_eq_true hxn
              have hod : decide (a2 < n) = true := decide_eq_true hon
              have cx := HR.out.1.at_ (HR.out.2 b2 (HI.out.rc b2 hxp))
              have co := HR.out.1.at_ (HR.out.2 a2 (HI.out.rc a2 hop))
              have ci := HL.out.1.at_ (HL.out.2 b2 hxp)
              by_cases hlt : rank a2 < rank b2
              · have hltd : decide (rank a2 < rank b2) = true := decide_eq_true hlt
                have hltd2 : decide ((rank a2 : Int) < (rank b2 : Int)) = true := decide_eq_true (by omega)
                go_wp2_with fail
                go_quiet (fail)
                go_wp2_with fail
                have hs := HX.out.1.symm.stepA HI.out HZ.out hlt
                have hor := HX.out.2
                refine ⟨⟨f b2, _, rfl, by first | exact World.drewN_drewN _ _ _ | rfl, Lib.hid ⟨hs.1.symm, .inr (by have := hs.2; rcases hor with e | e; (· subst e; exact this); (· omega))⟩⟩, by have := hs.2; simpa [intOf] using this⟩
              · have hltd : decide (rank a2 < rank b2) = false := decide_eq_false hlt
                have hltd2 : decide ((rank a2 : Int) < (rank b2 : Int)) = false := decide_eq_false (by omega)
                go_wp2_with fail
                go_quiet (fail)
                go_wp2_with fail
                have h1 := HX.out.2
                have h2 := HO1.out.1
                have h3 := HO1.out.2
                have h4 := HX.out.1
                refine ⟨⟨a2, b2, _, rfl, rfl, by first | exact World.drewN_drewN _ _ _ | rfl, Lib.hid h4⟩, ?_⟩
                have key : rank a2 + rank b2 < rank a1 + rank b1 := by
                  rcases h1 with e | e
                  · rcases h2 with e' | e'
                    · subst e
                      subst e'
                      exact absurd (HJ.out a2 b2 (HI.out.rc _ h4.pa) (HI.out.rc _ h4.pb) (by omega)) HAB.out
                    · subst e; omega
                  · rcases h2 with e' | e'
                    · subst e'; omega
                    · omega
                simpa [intOf] using key
end Go.Proofs.Ytacdeollnhkckaa.C
