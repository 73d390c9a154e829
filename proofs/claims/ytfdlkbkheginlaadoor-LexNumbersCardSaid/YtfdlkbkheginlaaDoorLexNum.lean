/- lex.Number, lex.number: walks. -/
import Derived.Test.YtfdlkbkheginlaaDoorLexVal
namespace Go.Proofs.YtfdlkbkheginlaaDoor.C
open Go.RowKit
set_option linter.unusedSimpArgs false
set_option linter.unusedVariables false
theorem ErrIs.nil_ {aL aW : Addr} {w : World} {v : Value} (h : ErrIs aL aW w v 0) : v = .nilIface := by
  rcases h with ⟨_, h⟩ | ⟨_, _, _, _, ⟨h, _⟩ | ⟨h, _⟩⟩
  · exact h
  · omega
  · omega
theorem ErrIs.some_ {aL aW : Addr} {w : World} {v : Value} {E : Int} (h : ErrIs aL aW w v E) (h0 : E ≠ 0) : ∃ pb, v = .iface 49 (.pointer (some ⟨pb, 0, none⟩)) := by
  rcases h with ⟨h, _⟩ | ⟨pb, _, h, _⟩
  · exact absurd h h0
  · exact ⟨pb, h⟩
theorem eql_nil_nil (w : World) : (binOp .eql 43 .nilIface .nilIface).run Tryd.prog w = .ok (.bool true) w := by kernel_rfl
set_option maxHeartbeats 1000000 in
theorem number1_c (aL aW : Addr) (s : ByteArray) (w : World) (hg : GL aL aW w) (hs : s.size ≤ 4611686018427387904) :
    Calls Tryd.prog 11 #[.string s] w fun e w' => e = .returned (.tuple #[.int .i64 (valueL s.data.toList).1, .int .i64 (valueL s.data.toList).2.1, .bool (decide ((valueL s.data.toList).2.2 = 0))]) ∧ Below w.heap.size w w' := by
  have HV := value_c aL aW s w hg hs
  obtain ⟨r, hr⟩ : ∃ r, valueL s.data.toList = r := ⟨_, rfl⟩
  rw [hr] at HV ⊢
  clear hr
  obtain ⟨v, t, E⟩ := r
  simp only [ValPost] at HV ⊢
  by_cases h0 : E = 0
  · subst h0
    have HV2 := HV.mono (R' := fun e w' => e = .returned (.tuple #[.int .i64 v, .int .i64 t, .nilIface]) ∧ Below w.heap.size w w') (by rintro e w' ⟨ev, rfl, he, hb⟩; rw [he.nil_]; exact ⟨rfl, hb⟩)
    clear HV
    go_enter Tryd.func11, Tryd.ntmps11
    go_wp2_with (go_at_call 17; refine HV2.mono ?_; rintro e w1 ⟨rfl, hb⟩)
    have HB : Hid (Below w.heap.size w w1.drew) := Lib.hid hb.drew
    clear hb
    go_region
    all_goals go_wp2
    all_goals go_ret3
    all_goals exact ⟨rfl, HB.out⟩
  · have HV2 := HV.mono (R' := fun e w' => ∃ pb, e = .returned (.tuple #[.int .i64 v, .int .i64 t, .iface 49 (.pointer (some ⟨pb, 0, none⟩))]) ∧ Below w.heap.size w w') (by rintro e w' ⟨ev, rfl, he, hb⟩; obtain ⟨pb, rfl⟩ := he.some_ h0; exact ⟨pb, rfl, hb⟩)
    clear HV
    go_enter Tryd.func11, Tryd.ntmps11
    go_wp2_with (go_at_call 17; refine HV2.mono ?_; rintro e w1 ⟨pb, rfl, hb⟩)
    have HB : Hid (Below w.heap.size w w1.drew) := Lib.hid hb.drew
    clear hb
    go_region
    all_goals go_wp2
    all_goals go_ret3
    all_goals exact ⟨by rw [decide_eq_false h0]; rfl, HB.out⟩
/-- What number leaves. -/
def NumPost (aL aW : Addr) (r : Nat × Int) (w : World) (e : Ending) (w' : World) : Prop :=
  ∃ ev, e = .returned (.tuple #[.int .i64 (r.1 : Int), ev]) ∧ ErrIs aL aW w' ev r.2 ∧ Below w.heap.size w w'
theorem np {aL aW : Addr} {R : Nat × Int} {m : Nat} {E : Int} {ev : Value} {w w' : World} {e : Ending} (hR : R = (m, E)) (he : e = .returned (.tuple #[.int .i64 (m : Int), ev])) (h2 : ErrIs aL aW w' ev E) (hb : Below w.heap.size w w') : NumPost aL aW R w e w' := by
  subst hR
  exact ⟨ev, he, h2, hb⟩
set_option maxHeartbeats 3200000 in
theorem number_c (aL aW : Addr) (s : ByteArray) (a : Nat) (w : World) (hg : GL aL aW w) (hs : s.size ≤ 4611686018427387904) (ha : a ≤ s.size) :
    Calls Tryd.prog 22 #[.string s, .int .i64 (a : Int)] w (NumPost aL aW (numberL (s.data.toList.drop a)) w) := by
  have hlen : (s.data.toList.drop a).length = s.size - a := by rw [List.length_drop, ← Lib.size_eq]
  have HR := fun W => (runDigit_c s a W hs ha).mono (fun _ _ h => And.intro h.1 h.2.symm)
  obtain ⟨n, hn⟩ : ∃ n, runL digitI (s.data.toList.drop a) = n := ⟨_, rfl⟩
  obtain ⟨C, hC⟩ : ∃ C, cntL (s.data.toList.drop a) = C := ⟨_, rfl⟩
  have hle : n ≤ s.size - a := by have := runL_le digitI (s.data.toList.drop a); omega
  have hCle : C ≤ s.size - a := by have := cntL_le (s.data.toList.drop a); omega
  have hCu := hC
  unfold cntL at hCu
  rw [hn, hlen, chI_drop] at hCu
  rw [hn] at HR
  have HV := value_c aL aW (s.extract a (a + C)) w hg (by rw [Lib.size_eq, Lib.extract_data, List.length_take, List.length_drop, ← Lib.size_eq]; omega)
  rw [Lib.extract_data, show a + C - a = C by omega] at HV
  obtain ⟨R, hR⟩ : ∃ R, numberL (s.data.toList.drop a) = R := ⟨_, rfl⟩
  rw [hR]
  unfold numberL at hR
  rw [hC, hlen, chI_drop] at hR
  obtain ⟨r, hr⟩ : ∃ r, valueL ((s.data.toList.drop a).take C) = r := ⟨_, rfl⟩
  rw [hr] at HV hR
  obtain ⟨v, t, E⟩ := r
  simp only at hR
  have HRr := Lib.hid hR.symm
  have HCu := Lib.hid hCu
  have gw := hg.gw
  clear hr hR hCu hC hn
  have HV2 : E = 0 → Calls Tryd.prog 17 #[.string (s.extract a (a + C))] w fun e w' => e = .returned (.tuple #[.int .i64 v, .int .i64 t, .nilIface]) ∧ Below w.heap.size w w' := fun h0 => HV.mono (by rintro e w' ⟨ev, rfl, he, hb⟩; rw [h0] at he; rw [he.nil_]; exact ⟨rfl, hb⟩)
  have HV3 : E ≠ 0 → Calls Tryd.prog 17 #[.string (s.extract a (a + C))] w fun e w' => ∃ pb, e = .returned (.tuple #[.int .i64 v, .int .i64 t, .iface 49 (.pointer (some ⟨pb, 0, none⟩))]) ∧ ErrIs aL aW w' (.iface 49 (.pointer (some ⟨pb, 0, none⟩))) E ∧ Below w.heap.size w w' := fun h0 => HV.mono (by rintro e w' ⟨ev, rfl, he, hb⟩; obtain ⟨pb, rfl⟩ := he.some_ h0; exact ⟨pb, rfl, he, hb⟩)
  clear HV
  have e1 : IntKind.i64.wrap ((a : Int) + n) = (a : Int) + n := IntWalk.i64_in _ (by omega)
  have e2 : IntKind.i64.wrap ((a : Int) + C) = (a : Int) + C := IntWalk.i64_in _ (by omega)
  have e3 : ((a : Int) + C).toNat = a + C := by omega
  have e4 : ((a : Int) + n).toNat = a + n := by omega
  have b1 : (a : Int) ≤ (a : Int) + C := by omega
  have b2 : (a : Int) + C ≤ (s.size : Int) := by omega
  have b0 : (0 : Int) ≤ (a : Int) + C := by omega
  have HG := Lib.hid hg
  clear hg hlen
  by_cases h1 : a + n < s.size
  · have g1 : decide ((a : Int) + n < (s.size : Int)) = true := decide_eq_true (by omega)
    have hx := chI_get s (a + n) h1
    by_cases h2 : chI s.data.toList (a + n) = 117
    · have g2 : (((s[a + n]'h1).toNat : Int) == 117) = true := by rw [← hx, h2]; rfl
      have e5 : IntKind.i64.wrap ((n : Int) + 1) = (C : Int) := by rw [← HCu.out, if_pos ⟨by omega, h2⟩, IntWalk.i64_in _ (by omega)]; omega
      clear h2 hx
      by_cases h0 : E = 0
      · have HV := HV2 h0
        have HRr2 : Hid (R = if C < s.size - a ∧ withinI (chI s.data.toList (a + C)) = true then (0, 4) else (C, 0)) := Lib.hid (by rw [HRr.out, if_neg (by omega)])
        clear HV2 HV3 HRr h0 HCu
        by_cases h3 : a + C < s.size
        · have g3 : decide ((a : Int) + C < (s.size : Int)) = true := decide_eq_true (by omega)
          have HW := fun W => (within_c ((s[a + C]'h3).toNat : Int) W).mono (fun _ _ h => And.intro h.1 h.2.symm)
          rw [← chI_get s (a + C) h3] at HW
          obtain ⟨q, hq⟩ : ∃ q, withinI (chI s.data.toList (a + C)) = q := ⟨_, rfl⟩
          rw [hq] at HW HRr2
          rw [chI_get s (a + C) h3] at HW
          clear hq
          cases q
          · go_enter Tryd.func22, Tryd.ntmps22
            go_wp2_with (first | (go_at_call 13; refine (HR _).mono ?_; rintro e w' ⟨rfl, rfl⟩) | (go_at_call 17; refine HV.mono ?_; rintro e w1 ⟨rfl, hb⟩) | (go_at_call 19; refine (HW _).mono ?_; rintro e w' ⟨rfl, rfl⟩))
            go_ret2
            exact np (by rw [HRr2.out, if_neg (by simp)]) rfl (.inl ⟨rfl, rfl⟩) hb
          · go_enter Tryd.func22, Tryd.ntmps22
            go_wp2_with (first | (go_at_call 13; refine (HR _).mono ?_; rintro e w' ⟨rfl, rfl⟩) | (go_at_call 17; refine HV.mono ?_; rintro e w1 ⟨rfl, hb⟩; have gw1 := (HG.out.below hb).gw) | (go_at_call 19; refine (HW _).mono ?_; rintro e w' ⟨rfl, rfl⟩))
            have HB := Lib.hid hb
            have hs1 := hb.size
            clear hb gw
            go_region
            all_goals go_wp2
            all_goals go_ret2
            all_goals exact np (m := 0) (by rw [HRr2.out, if_pos (by simp; omega)]) rfl (ErrIs.word (w := w1.drew) _ _) ((HB.out.drew).alloc hs1 _)
        · have g3 : decide ((a : Int) + C < (s.size : Int)) = false := decide_eq_false (by omega)
          go_enter Tryd.func22, Tryd.ntmps22
          go_wp2_with (first | (go_at_call 13; refine (HR _).mono ?_; rintro e w' ⟨rfl, rfl⟩) | (go_at_call 17; refine HV.mono ?_; rintro e w1 ⟨rfl, hb⟩))
          go_ret2
          exact np (by rw [HRr2.out, if_neg (by omega)]) rfl (.inl ⟨rfl, rfl⟩) hb
      · have HV := HV3 h0
        have HRr2 : Hid (R = (0, E)) := Lib.hid (by rw [HRr.out, if_pos h0])
        clear HV2 HV3 HRr h0 HCu
        go_enter Tryd.func22, Tryd.ntmps22
        go_wp2_with (first | (go_at_call 13; refine (HR _).mono ?_; rintro e w' ⟨rfl, rfl⟩) | (go_at_call 17; refine HV.mono ?_; rintro e w1 ⟨pb, rfl, he, hb⟩))
        go_ret2
        exact np (m := 0) HRr2.out rfl he hb
    · have g2 : (((s[a + n]'h1).toNat : Int) == 117) = false := by rw [← hx, beq_eq_false_iff_ne]; exact h2
      obtain rfl : C = n := by symm; rw [← HCu.out, if_neg (fun h => h2 h.2)]
      clear h2 hx
      by_cases h0 : E = 0
      · have HV := HV2 h0
        have HRr2 : Hid (R = if C < s.size - a ∧ withinI (chI s.data.toList (a + C)) = true then (0, 4) else (C, 0)) := Lib.hid (by rw [HRr.out, if_neg (by omega)])
        clear HV2 HV3 HRr h0 HCu
        by_cases h3 : a + C < s.size
        · have g3 : decide ((a : Int) + C < (s.size : Int)) = true := decide_eq_true (by omega)
          have HW := fun W => (within_c ((s[a + C]'h3).toNat : Int) W).mono (fun _ _ h => And.intro h.1 h.2.symm)
          rw [← chI_get s (a + C) h3] at HW
          obtain ⟨q, hq⟩ : ∃ q, withinI (chI s.data.toList (a + C)) = q := ⟨_, rfl⟩
          rw [hq] at HW HRr2
          rw [chI_get s (a + C) h3] at HW
          clear hq
          cases q
          · go_enter Tryd.func22, Tryd.ntmps22
            go_wp2_with (first | (go_at_call 13; refine (HR _).mono ?_; rintro e w' ⟨rfl, rfl⟩) | (go_at_call 17; refine HV.mono ?_; rintro e w1 ⟨rfl, hb⟩) | (go_at_call 19; refine (HW _).mono ?_; rintro e w' ⟨rfl, rfl⟩))
            go_ret2
            exact np (by rw [HRr2.out, if_neg (by simp)]) rfl (.inl ⟨rfl, rfl⟩) hb
          · go_enter Tryd.func22, Tryd.ntmps22
            go_wp2_with (first | (go_at_call 13; refine (HR _).mono ?_; rintro e w' ⟨rfl, rfl⟩) | (go_at_call 17; refine HV.mono ?_; rintro e w1 ⟨rfl, hb⟩; have gw1 := (HG.out.below hb).gw) | (go_at_call 19; refine (HW _).mono ?_; rintro e w' ⟨rfl, rfl⟩))
            have HB := Lib.hid hb
            have hs1 := hb.size
            clear hb gw
            go_region
            all_goals go_wp2
            all_goals go_ret2
            all_goals exact np (m := 0) (by rw [HRr2.out, if_pos (by simp; omega)]) rfl (ErrIs.word (w := w1.drew) _ _) ((HB.out.drew).alloc hs1 _)
        · exact absurd h1 (by omega)
      · have HV := HV3 h0
        have HRr2 : Hid (R = (0, E)) := Lib.hid (by rw [HRr.out, if_pos h0])
        clear HV2 HV3 HRr h0 HCu
        go_enter Tryd.func22, Tryd.ntmps22
        go_wp2_with (first | (go_at_call 13; refine (HR _).mono ?_; rintro e w' ⟨rfl, rfl⟩) | (go_at_call 17; refine HV.mono ?_; rintro e w1 ⟨pb, rfl, he, hb⟩))
        go_ret2
        exact np (m := 0) HRr2.out rfl he hb
  · have g1 : decide ((a : Int) + n < (s.size : Int)) = false := decide_eq_false (by omega)
    obtain rfl : C = n := by symm; rw [← HCu.out, if_neg (by omega)]
    by_cases h0 : E = 0
    · have HV := HV2 h0
      have HRr2 : Hid (R = if C < s.size - a ∧ withinI (chI s.data.toList (a + C)) = true then (0, 4) else (C, 0)) := Lib.hid (by rw [HRr.out, if_neg (by omega)])
      clear HV2 HV3 HRr h0 HCu
      by_cases h3 : a + C < s.size
      · exact absurd h3 (by omega)
      · have g3 : decide ((a : Int) + C < (s.size : Int)) = false := decide_eq_false (by omega)
        go_enter Tryd.func22, Tryd.ntmps22
        go_wp2_with (first | (go_at_call 13; refine (HR _).mono ?_; rintro e w' ⟨rfl, rfl⟩) | (go_at_call 17; refine HV.mono ?_; rintro e w1 ⟨rfl, hb⟩))
        go_ret2
        exact np (by rw [HRr2.out, if_neg (by omega)]) rfl (.inl ⟨rfl, rfl⟩) hb
    · have HV := HV3 h0
      have HRr2 : Hid (R = (0, E)) := Lib.hid (by rw [HRr.out, if_pos h0])
      clear HV2 HV3 HRr h0 HCu
      go_enter Tryd.func22, Tryd.ntmps22
      go_wp2_with (first | (go_at_call 13; refine (HR _).mono ?_; rintro e w' ⟨rfl, rfl⟩) | (go_at_call 17; refine HV.mono ?_; rintro e w1 ⟨pb, rfl, he, hb⟩))
      go_ret2
      exact np (m := 0) HRr2.out rfl he hb
end Go.Proofs.YtfdlkbkheginlaaDoor.C
