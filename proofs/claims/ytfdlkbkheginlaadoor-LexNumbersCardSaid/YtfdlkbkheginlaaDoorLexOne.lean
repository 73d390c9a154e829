/- lex.one and Lex's skip: walks. -/
import Derived.Test.YtfdlkbkheginlaaDoorLexNum
import Derived.Deep.RegionHeld3
namespace Go.Proofs.YtfdlkbkheginlaaDoor.C
open Go.RowKit
set_option linter.unusedSimpArgs false
set_option linter.unusedVariables false
/-- What one leaves. -/
def OnePost (aL aW : Addr) (r : Int × Nat × Int) (w : World) (e : Ending) (w' : World) : Prop :=
  ∃ ev, e = .returned (.tuple #[.int .i64 r.1, .int .i64 (r.2.1 : Int), ev]) ∧ ErrIs aL aW w' ev r.2.2 ∧ Below w.heap.size w w'
theorem op1 {aL aW : Addr} {R : Int × Nat × Int} {k : Int} {m : Nat} {E : Int} {ev : Value} {w w' : World} {e : Ending} (hR : R = (k, m, E)) (he : e = .returned (.tuple #[.int .i64 k, .int .i64 (m : Int), ev])) (h2 : ErrIs aL aW w' ev E) (hb : Below w.heap.size w w') : OnePost aL aW R w e w' := by
  subst hR
  exact ⟨ev, he, h2, hb⟩
set_option maxHeartbeats 3200000 in
theorem one_c (aL aW : Addr) (s : ByteArray) (a : Nat) (w : World) (hg : GL aL aW w) (hs : s.size ≤ 4611686018427387904) (ha : a < s.size) :
    Calls Tryd.prog 15 #[.string s, .int .i64 (a : Int)] w (OnePost aL aW (oneL (s.data.toList.drop a)) w) := by
  have hlen : (s.data.toList.drop a).length = s.size - a := by rw [List.length_drop, ← Lib.size_eq]
  have HS := fun W => (small_c (chI s.data.toList a) W).mono (fun _ _ h => And.intro h.1 h.2.symm)
  have HD := fun W => (digit_c (chI s.data.toList a) W).mono (fun _ _ h => And.intro h.1 h.2.symm)
  have HR := fun W => (runWithin_c s a W hs (by omega)).mono (fun _ _ h => And.intro h.1 h.2.symm)
  have HN := number_c aL aW s a w hg hs (by omega)
  have HG := sign_c s a w hs ha
  obtain ⟨n, hn⟩ : ∃ n, runL withinI (s.data.toList.drop a) = n := ⟨_, rfl⟩
  have hle : n ≤ s.size - a := by have := runL_le withinI (s.data.toList.drop a); omega
  rw [hn] at HR
  have HK := fun W => key_c (s.extract a (a + n)) W
  rw [Lib.extract_data, show a + n - a = n by omega] at HK
  obtain ⟨R, hR⟩ : ∃ R, oneL (s.data.toList.drop a) = R := ⟨_, rfl⟩
  rw [hR]
  unfold oneL at hR
  simp only [chI_drop, Nat.add_zero] at hR
  rw [hn] at hR
  obtain ⟨q, hq⟩ : ∃ q, keyL ((s.data.toList.drop a).take n) = q := ⟨_, rfl⟩
  rw [hq] at HK hR
  obtain ⟨nm, hnm⟩ : ∃ nm, numberL (s.data.toList.drop a) = nm := ⟨_, rfl⟩
  rw [hnm] at HN hR
  obtain ⟨m, E⟩ := nm
  obtain ⟨g, hgn⟩ : ∃ g, signL (s.data.toList.drop a) = g := ⟨_, rfl⟩
  rw [hgn] at HG hR
  have hx := chI_get s a ha
  obtain ⟨b1, hb1⟩ : ∃ b, smallI (chI s.data.toList a) = b := ⟨_, rfl⟩
  obtain ⟨b2, hb2⟩ : ∃ b, digitI (chI s.data.toList a) = b := ⟨_, rfl⟩
  rw [hb1] at HS hR
  rw [hb2] at HD hR
  rw [hx] at HS HD
  have HRr := Lib.hid hR.symm
  have gl := hg.gl
  have gw := hg.gw
  have HGL := Lib.hid hg
  clear hR hq hnm hgn hn hb1 hb2 hx hg hlen
  have e1 : IntKind.i64.wrap ((a : Int) + n) = (a : Int) + n := IntWalk.i64_in _ (by omega)
  have e3 : ((a : Int) + n).toNat = a + n := by omega
  have c1 : (a : Int) ≤ (a : Int) + n := by omega
  have c2 : (a : Int) + n ≤ (s.size : Int) := by omega
  have c0 : (0 : Int) ≤ (a : Int) + n := by omega
  have c3 : (a : Int) < (s.size : Int) := by omega
  cases b1
  · cases b2
    · by_cases h0 : g = 0
      · subst h0
        have HR2 : Hid (R = (0, 0, 4)) := Lib.hid (by rw [HRr.out]; rfl)
        clear HRr HR HK HN
        go_enter Tryd.func15, Tryd.ntmps15
        go_wp2_with (first | (go_at_call 18; refine (HS _).mono ?_; rintro e w' ⟨rfl, rfl⟩) | (go_at_call 21; refine (HD _).mono ?_; rintro e w' ⟨rfl, rfl⟩) | (go_at_call 23; refine HG.mono ?_; rintro e w1 ⟨rfl, hb⟩; have gw1 := (HGL.out.below hb).gw))
        have HB := Lib.hid hb
        have hs1 := hb.size
        clear hb gw gl
        go_region
        all_goals go_wp2
        all_goals go_ret3
        all_goals exact op1 (m := 0) HR2.out rfl (ErrIs.word (w := w1.drew) _ _) ((HB.out.drew).alloc hs1 _)
      · have HR2 : Hid (R = (4, g, 0)) := Lib.hid (by rw [HRr.out, if_neg (by simp), if_neg (by simp), if_neg h0])
        have g0 : ((g : Int) == 0) = false := by rw [beq_eq_false_iff_ne]; omega
        clear HRr HR HK HN
        go_enter Tryd.func15, Tryd.ntmps15
        go_wp2_with (first | (go_at_call 18; refine (HS _).mono ?_; rintro e w' ⟨rfl, rfl⟩) | (go_at_call 21; refine (HD _).mono ?_; rintro e w' ⟨rfl, rfl⟩) | (go_at_call 23; refine HG.mono ?_; rintro e w1 ⟨rfl, hb⟩))
        go_ret3
        exact op1 HR2.out rfl (.inl ⟨rfl, rfl⟩) hb
    · have HR2 : Hid (R = (2, m, E)) := Lib.hid (by rw [HRr.out, if_neg (by simp), if_pos rfl])
      clear HRr HR HK HG
      go_enter Tryd.func15, Tryd.ntmps15
      go_wp2_with (first | (go_at_call 18; refine (HS _).mono ?_; rintro e w' ⟨rfl, rfl⟩) | (go_at_call 21; refine (HD _).mono ?_; rintro e w' ⟨rfl, rfl⟩) | (go_at_call 22; refine HN.mono ?_; rintro e w1 ⟨ev, rfl, he, hb⟩))
      go_ret3
      exact op1 HR2.out rfl he hb
  · cases q
    · by_cases h20 : 20 < n
      · have HR2 : Hid (R = (0, 0, 3)) := Lib.hid (by rw [HRr.out, if_pos rfl, if_neg (by simp), if_pos h20])
        have g20 : (20 : Int) < (n : Int) := by omega
        clear HRr HN HG
        go_enter Tryd.func15, Tryd.ntmps15
        go_wp2_with (first | (go_at_call 18; refine (HS _).mono ?_; rintro e w' ⟨rfl, rfl⟩) | (go_at_call 13; refine (HR _).mono ?_; rintro e w' ⟨rfl, rfl⟩) | (go_at_call 20; refine (HK _).mono ?_; rintro e w1 ⟨rfl, hb⟩; have gl1 := (HGL.out.below hb).gl))
        have HB := Lib.hid hb
        have hs1 := hb.size
        clear hb gw gl
        go_region
        all_goals go_wp2
        all_goals go_ret3
        all_goals exact op1 (m := 0) HR2.out rfl (ErrIs.long (w := w1.drew) _ _ gl1) ((HB.out.drew).alloc hs1 _)
      · have HR2 : Hid (R = (1, n, 0)) := Lib.hid (by rw [HRr.out, if_pos rfl, if_neg (by simp), if_neg h20])
        have g20 : ¬ (20 : Int) < (n : Int) := by omega
        clear HRr HN HG
        go_enter Tryd.func15, Tryd.ntmps15
        go_wp2_with (first | (go_at_call 18; refine (HS _).mono ?_; rintro e w' ⟨rfl, rfl⟩) | (go_at_call 13; refine (HR _).mono ?_; rintro e w' ⟨rfl, rfl⟩) | (go_at_call 20; refine (HK _).mono ?_; rintro e w1 ⟨rfl, hb⟩))
        go_ret3
        exact op1 HR2.out rfl (.inl ⟨rfl, rfl⟩) hb
    · have HR2 : Hid (R = (3, n, 0)) := Lib.hid (by rw [HRr.out, if_pos rfl, if_pos rfl])
      clear HRr HN HG
      go_enter Tryd.func15, Tryd.ntmps15
      go_wp2_with (first | (go_at_call 18; refine (HS _).mono ?_; rintro e w' ⟨rfl, rfl⟩) | (go_at_call 13; refine (HR _).mono ?_; rintro e w' ⟨rfl, rfl⟩) | (go_at_call 20; refine (HK _).mono ?_; rintro e w1 ⟨rfl, hb⟩))
      go_ret3
      exact op1 HR2.out rfl (.inl ⟨rfl, rfl⟩) hb
/-- Nothing is passed over. -/
theorem skip0_c (bs ba : Nat) (s : ByteArray) (a : Nat) (w : World) (hc : w.cell? ⟨bs, 0, none⟩ = some (.string s)) (hca : w.cell? ⟨ba, 0, none⟩ = some (.int .i64 (a : Int))) (ha : a < s.size) (hk : skipL (s.data.toList.drop a) = 0) :
    Calls Tryd.prog 12 #[.pointer (some ⟨bs, 0, none⟩), .pointer (some ⟨ba, 0, none⟩)] w fun e w' => e = .returned (.bool false) ∧ w' = w := by
  have hx := chI_get s a ha
  unfold skipL at hk
  simp only [chI_drop, Nat.add_zero] at hk
  rw [hx] at hk
  obtain ⟨c, hc'⟩ : ∃ c : Int, ((s[a]'ha).toNat : Int) = c := ⟨_, rfl⟩
  rw [hc'] at hk
  split at hk
  · omega
  · rename_i hb
    split at hk
    · rename_i hc35
      cases hd : s.data.toList.drop a with
      | nil =>
        have : (s.data.toList.drop a).length = 0 := by rw [hd]; rfl
        rw [List.length_drop, ← Lib.size_eq] at this
        omega
      | cons x r =>
        rw [hd, runL_cons] at hk
        have hx0 : chI s.data.toList a = (x.toNat : Int) := by
          have := chI_drop s.data.toList a 0
          rw [hd] at this
          simp only [Nat.add_zero] at this
          rw [← this]
          rfl
        rw [if_pos] at hk
        · omega
        · rw [← hx0, hx, hc', hc35]
          rfl
    · rename_i h35
      have g1 : (((s[a]'ha).toNat : Int) == 32) = false := by rw [hc', beq_eq_false_iff_ne]; omega
      have g2 : (((s[a]'ha).toNat : Int) == 9) = false := by rw [hc', beq_eq_false_iff_ne]; omega
      have g3 : (((s[a]'ha).toNat : Int) == 10) = false := by rw [hc', beq_eq_false_iff_ne]; omega
      have g4 : (((s[a]'ha).toNat : Int) == 13) = false := by rw [hc', beq_eq_false_iff_ne]; omega
      have g5 : (((s[a]'ha).toNat : Int) == 35) = false := by rw [hc', beq_eq_false_iff_ne]; omega
      have c3 : (a : Int) < (s.size : Int) := by omega
      clear hk hb h35 hc' hx
      go_enter Tryd.func12, Tryd.ntmps12
      go_wp2_with fail
      go_ret
      exact ⟨rfl, rfl⟩
set_option maxHeartbeats 1600000 in
/-- Some bytes are passed over. -/
theorem skip1_c (bs ba : Nat) (s : ByteArray) (a : Nat) (w : World) (hne : bs ≠ ba) (hc : w.cell? ⟨bs, 0, none⟩ = some (.string s)) (hca : w.cell? ⟨ba, 0, none⟩ = some (.int .i64 (a : Int))) (hf : w.frozen? ⟨ba, 0, none⟩ = false) (hs : s.size ≤ 4611686018427387904) (ha : a < s.size) (hk : 0 < skipL (s.data.toList.drop a)) :
    Calls Tryd.prog 12 #[.pointer (some ⟨bs, 0, none⟩), .pointer (some ⟨ba, 0, none⟩)] w fun e w' => e = .returned (.bool true) ∧ ∃ W1, Below w.heap.size w W1 ∧ w' = W1.setCell ⟨ba, 0, none⟩ (.int .i64 ((a + skipL (s.data.toList.drop a) : Nat) : Int)) := by
  have hx := chI_get s a ha
  have hlen : (s.data.toList.drop a).length = s.size - a := by rw [List.length_drop, ← Lib.size_eq]
  have HR := fun W => (runBody_c s a W hs (by omega)).mono (fun _ _ h => And.intro h.1 h.2.symm)
  obtain ⟨n, hn⟩ : ∃ n, runL bodyI (s.data.toList.drop a) = n := ⟨_, rfl⟩
  have hle : n ≤ s.size - a := by have := runL_le bodyI (s.data.toList.drop a); omega
  rw [hn] at HR
  obtain ⟨k, hk'⟩ : ∃ k, skipL (s.data.toList.drop a) = k := ⟨_, rfl⟩
  rw [hk'] at hk ⊢
  unfold skipL at hk'
  simp only [chI_drop, Nat.add_zero] at hk'
  rw [hx, hn] at hk'
  obtain ⟨c, hc'⟩ : ∃ c : Int, ((s[a]'ha).toNat : Int) = c := ⟨_, rfl⟩
  rw [hc'] at hk'
  have c3 : (a : Int) < (s.size : Int) := by omega
  clear hx hn hlen
  by_cases hb : c = 32 ∨ c = 9 ∨ c = 10 ∨ c = 13
  · rw [if_pos hb] at hk'
    subst hk'
    have e1 : IntKind.i64.wrap ((a : Int) + 1) = (a : Int) + 1 := IntWalk.i64_in _ (by omega)
    have g1 : (((s[a]'ha).toNat : Int) == 32) = decide (c = 32) := by rw [hc']; rfl
    have g2 : (((s[a]'ha).toNat : Int) == 9) = decide (c = 9) := by rw [hc']; rfl
    have g3 : (((s[a]'ha).toNat : Int) == 10) = decide (c = 10) := by rw [hc']; rfl
    have g4 : (((s[a]'ha).toNat : Int) == 13) = decide (c = 13) := by rw [hc']; rfl
    have HE : Hid (∃ W1, Below w.heap.size w W1 ∧ w.setCell ⟨ba, 0, none⟩ (.int .i64 ((a : Int) + 1)) = W1.setCell ⟨ba, 0, none⟩ (.int .i64 ((a + 1 : Nat) : Int))) := Lib.hid ⟨w, Below.refl _ _, by rfl⟩
    clear HR hk hle
    rcases hb with hb | hb | hb | hb
    all_goals rw [hb] at g1 g2 g3 g4
    all_goals clear hb hc'
    all_goals (go_enter Tryd.func12, Tryd.ntmps12; go_wp2_with fail; go_ret; exact ⟨rfl, HE.out⟩)
  · rw [if_neg hb] at hk'
    have h35 : c = 35 := by
      by_cases h : c = 35
      · exact h
      · rw [if_neg h] at hk'
        omega
    rw [if_pos h35] at hk'
    subst hk'
    have e1 : IntKind.i64.wrap ((a : Int) + n) = (a : Int) + n := IntWalk.i64_in _ (by omega)
    have g1 : (((s[a]'ha).toNat : Int) == 32) = false := by rw [hc', beq_eq_false_iff_ne]; omega
    have g2 : (((s[a]'ha).toNat : Int) == 9) = false := by rw [hc', beq_eq_false_iff_ne]; omega
    have g3 : (((s[a]'ha).toNat : Int) == 10) = false := by rw [hc', beq_eq_false_iff_ne]; omega
    have g4 : (((s[a]'ha).toNat : Int) == 13) = false := by rw [hc', beq_eq_false_iff_ne]; omega
    have g5 : (((s[a]'ha).toNat : Int) == 35) = true := by rw [hc', h35]; rfl
    have HE : Hid (∃ W1, Below w.heap.size w W1 ∧ w.drew.setCell ⟨ba, 0, none⟩ (.int .i64 ((a : Int) + n)) = W1.setCell ⟨ba, 0, none⟩ (.int .i64 ((a + n : Nat) : Int))) := Lib.hid ⟨w.drew, (Below.refl _ _).drew, by rfl⟩
    clear hk hle hb hc' h35
    go_enter Tryd.func12, Tryd.ntmps12
    go_wp2_with fail
    go_region_with (go_at_call 13; refine (HR _).mono ?_; rintro e w' ⟨rfl, rfl⟩)
    all_goals go_wp2
    all_goals go_ret
    all_goals exact ⟨rfl, HE.out⟩
end Go.Proofs.YtfdlkbkheginlaaDoor.C
