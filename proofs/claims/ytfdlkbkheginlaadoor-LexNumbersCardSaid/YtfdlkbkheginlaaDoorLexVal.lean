/- lex.value, lex.Number, lex.number: walks. -/
import Derived.Test.YtfdlkbkheginlaaDoorLexKey
import Derived.Test.YtfdlkbkheginlaaDoorLexIs
import Derived.OwnWalk
import Derived.BigGuard
namespace Go.Proofs.YtfdlkbkheginlaaDoor.C
open Go.RowKit
set_option linter.unusedSimpArgs false
set_option linter.unusedVariables false
theorem foldV_snoc (v : Int) (l : List UInt8) (c : UInt8) : foldV v (l ++ [c]) = 10 * foldV v l + ((c.toNat : Int) - 48) := by
  induction l generalizing v with
  | nil => rfl
  | cons a r ih => exact ih _
theorem take_snoc (l : List UInt8) (k : Nat) (h : k < l.length) : l.take (k + 1) = l.take k ++ [l.getD k 0] := by
  rw [List.take_succ_eq_append_getElem h]
  simp [List.getD, h]
theorem foldV_step (l : List UInt8) (k : Nat) (h : k < l.length) : foldV 0 (l.take (k + 1)) = 10 * foldV 0 (l.take k) + (chI l k - 48) := by
  rw [take_snoc l k h, foldV_snoc]
  rfl
theorem digitI_range {c : Int} (h : digitI c = true) : 48 ≤ c ∧ c ≤ 57 := by
  unfold digitI at h
  simp at h
  exact h
theorem foldV_bound (l : List UInt8) : ∀ k, k ≤ runL digitI l → 0 ≤ foldV 0 (l.take k) ∧ foldV 0 (l.take k) < 10 ^ k
  | 0, _ => by simp [foldV]
  | k + 1, h => by
    have ih := foldV_bound l k (by omega)
    obtain ⟨h1, h2⟩ := runL_lt digitI l k (by omega)
    have h3 := digitI_range h2
    rw [foldV_step l k h1, Int.pow_succ]
    omega
theorem pow_le10 {k : Nat} (h : k ≤ 10) : (10 : Int) ^ k ≤ 10000000000 := by
  rcases (by omega : k = 0 ∨ k = 1 ∨ k = 2 ∨ k = 3 ∨ k = 4 ∨ k = 5 ∨ k = 6 ∨ k = 7 ∨ k = 8 ∨ k = 9 ∨ k = 10) with rfl | rfl | rfl | rfl | rfl | rfl | rfl | rfl | rfl | rfl | rfl <;> decide
/-- What value leaves. -/
def ValPost (aL aW : Addr) (r : Int × Int × Int) (w : World) (e : Ending) (w' : World) : Prop :=
  ∃ ev, e = .returned (.tuple #[.int .i64 r.1, .int .i64 r.2.1, ev]) ∧ ErrIs aL aW w' ev r.2.2 ∧ Below w.heap.size w w'
theorem ErrIs.long {aL aW : Addr} {w : World} (t : ByteArray) (ty : TypeId) (h : w.cell? ⟨0, 0, none⟩ = some (.iface 80 (.pointer (some aL)))) :
    ErrIs aL aW (w.alloc (.cells #[.string t, .iface 80 (.pointer (some aL))] ty)) (.iface 49 (.pointer (some ⟨w.heap.size, 0, none⟩))) 3 :=
  .inr ⟨_, aL, rfl, by rw [cell_of_row _ _ _ _ _ _ (heap_alloc_new w _)]; rfl, .inl ⟨rfl, rfl⟩⟩
theorem ErrIs.word {aL aW : Addr} {w : World} (t : ByteArray) (ty : TypeId) :
    ErrIs aL aW (w.alloc (.cells #[.string t, .iface 80 (.pointer (some aW))] ty)) (.iface 49 (.pointer (some ⟨w.heap.size, 0, none⟩))) 4 :=
  .inr ⟨_, aW, rfl, by rw [cell_of_row _ _ _ _ _ _ (heap_alloc_new w _)]; rfl, .inr ⟨rfl, rfl⟩⟩
/-- The part of value behind the cut. -/
def valueT (D : List UInt8) (t : Int) : Int × Int × Int :=
  if 10 < runL digitI D then (0, 0, 3)
  else if maxL t < foldV 0 (D.take (runL digitI D)) then (0, 0, 3)
  else if runL digitI D = 0 ∨ runL digitI D < D.length ∨ (1 < runL digitI D ∧ chI D 0 = 48) then (0, 0, 4)
  else (foldV 0 (D.take (runL digitI D)), t, 0)
theorem valueL_eq (d : List UInt8) : valueL d = valueT (Lib.trimSuffix d [117]) (if Lib.hasSuffix d [117] = true then 6 else 5) := by
  unfold valueL valueT
  simp only
set_option maxHeartbeats 3200000 in
theorem value_c (aL aW : Addr) (s : ByteArray) (w : World) (hg : GL aL aW w) (hs : s.size ≤ 4611686018427387904) :
    Calls Tryd.prog 17 #[.string s] w (ValPost aL aW (valueL s.data.toList) w) := by
  have gl := hg.gl
  have gw := hg.gw
  rw [valueL_eq]
  have HC := fun W => (sCutSuffix_c s ⟨#[117]⟩ W (by omega)).mono (fun _ _ h => And.intro h.1 h.2.symm)
  have e0 : (ByteArray.mk #[117]).data.toList = [117] := rfl
  rw [e0] at HC
  obtain ⟨S, t, u, hS, hu, htt, hSs, hut⟩ : ∃ (S : ByteArray) (t : Int) (u : Bool), (⟨(Lib.trimSuffix s.data.toList [117]).toArray⟩ : ByteArray) = S ∧ Lib.hasSuffix s.data.toList [117] = u ∧ (if Lib.hasSuffix s.data.toList [117] = true then (6 : Int) else 5) = t ∧ (u = false → S = s) ∧ (t = if u then 6 else 5) := by
    refine ⟨_, _, _, rfl, rfl, rfl, fun h => ?_, rfl⟩
    unfold Lib.trimSuffix
    rw [h]
    exact Lib.mk_data s
  have hD : Lib.trimSuffix s.data.toList [117] = S.data.toList := by rw [← hS]
  have hsz : S.size ≤ s.size := by
    have := Lib.trimSuffix_le s.data.toList [117]
    rw [hD, ← Lib.size_eq, ← Lib.size_eq] at this
    exact this
  rw [htt, hD]
  rw [hu, hS] at HC
  have HR := fun W => (runDigit_c S 0 W (by omega) (by omega)).mono (fun _ _ h => And.intro h.1 h.2.symm)
  rw [List.drop_zero] at HR
  obtain ⟨n, hn⟩ : ∃ n, runL digitI S.data.toList = n := ⟨_, rfl⟩
  have hnl : n ≤ S.size := by have := runL_le digitI S.data.toList; rw [Lib.size_eq]; omega
  have hbd : ∀ k, k ≤ n → 0 ≤ foldV 0 (S.data.toList.take k) ∧ foldV 0 (S.data.toList.take k) < 10 ^ k := fun k hk => foldV_bound _ k (by omega)
  have hdg : ∀ k, (h : k < n) → 48 ≤ ((S[k]'(by omega)).toNat : Int) ∧ ((S[k]'(by omega)).toNat : Int) ≤ 57 ∧ foldV 0 (S.data.toList.take (k + 1)) = 10 * foldV 0 (S.data.toList.take k) + (((S[k]'(by omega)).toNat : Int) - 48) := fun k hk => by
    obtain ⟨h1, h2⟩ := runL_lt digitI S.data.toList k (by omega)
    have h3 := digitI_range h2
    have h4 := foldV_step S.data.toList k h1
    rw [chI_get S k (by omega)] at h3 h4
    exact ⟨h3.1, h3.2, h4⟩
  rw [hn] at HR
  obtain ⟨r, hr⟩ : ∃ r, valueT S.data.toList t = r := ⟨_, rfl⟩
  rw [hr]
  unfold valueT at hr
  rw [hn, ← Lib.size_eq] at hr
  obtain ⟨V, hV⟩ : ∃ V : Nat → Int, ∀ k, foldV 0 (S.data.toList.take k) = V k := ⟨_, fun _ => rfl⟩
  have hV0 : V 0 = 0 := (hV 0).symm
  simp only [hV] at hbd hdg hr
  have hc0 : ∀ h : 0 < S.size, chI S.data.toList 0 = ((S[0]'h).toNat : Int) := fun h => chI_get S 0 h
  obtain ⟨c0, hc0'⟩ : ∃ c, chI S.data.toList 0 = c := ⟨_, rfl⟩
  rw [hc0'] at hc0 hr
  have HBD := Lib.hid hbd
  have HDG := Lib.hid hdg
  have HC0 := Lib.hid hc0
  have HV0 := Lib.hid hV0
  have HM := fun W => max_c t W
  have hm : maxT t = maxL t := by rw [hut]; cases u <;> rfl
  rw [hm] at HM
  have hml : maxL t ≤ 4294967295 := by rw [hut]; cases u <;> decide
  obtain ⟨mx, hmx⟩ : ∃ m, maxL t = m := ⟨_, rfl⟩
  rw [hmx] at HM hml hr
  have HRr := Lib.hid hr.symm
  clear hr
  have HL : Hid (∀ W : World, Below w.heap.size w W → GL aL aW W) := Lib.hid fun W hb => hg.below hb
  have HE : Hid (∀ (r : Int × Int × Int) (tx : ByteArray), r = (0, 0, 3) → ValPost aL aW r w (.returned (.tuple #[.int .i64 0, .int .i64 0, .iface 49 (.pointer (some ⟨w.heap.size, 0, none⟩))])) (w.drew.alloc (.cells #[.string tx, .iface 80 (.pointer (some aL))] 51))) := Lib.hid (by
    rintro r tx rfl
    exact ⟨_, rfl, ErrIs.long (w := w.drew) tx _ gl, ((Below.refl _ _).drew).alloc (Nat.le_refl _) _⟩)
  have HF : Hid (∀ (r : Int × Int × Int) (tx : ByteArray), r = (0, 0, 4) → ValPost aL aW r w (.returned (.tuple #[.int .i64 0, .int .i64 0, .iface 49 (.pointer (some ⟨w.heap.size, 0, none⟩))])) (w.drew.alloc (.cells #[.string tx, .iface 80 (.pointer (some aW))] 51))) := Lib.hid (by
    rintro r tx rfl
    exact ⟨_, rfl, ErrIs.word (w := w.drew) tx _, ((Below.refl _ _).drew).alloc (Nat.le_refl _) _⟩)
  have HK : Hid (∀ (v t : Int), r = (v, t, 0) → ValPost aL aW r w (.returned (.tuple #[.int .i64 v, .int .i64 t, .nilIface])) w) := Lib.hid (by
    rintro v t rfl
    exact ⟨_, rfl, .inl ⟨rfl, rfl⟩, Below.refl _ _⟩)
  clear hbd hdg hc0 hc0' hV hV0 hmx hm hn hD hS hu htt hg e0
  have hu2 := hut
  clear hut
  cases u
  all_goals simp only [Bool.false_eq_true, if_false, if_true] at hu2
  all_goals subst hu2
  · obtain rfl := hSs rfl
    clear hSs
    go_enter Tryd.func17, Tryd.ntmps17
    by_cases h10 : 10 < n
    · have g10 : (10 : Int) < (n : Int) := by omega
      have HE2 := Lib.hid (HE.out r ⟨#[110, 117, 109, 98, 101, 114]⟩ (by rw [HRr.out, if_pos h10]))
      clear HE HF HK HBD HDG HC0 h10
      go_wp2_with (first | (go_at_call 25; refine (HC _).mono ?_; rintro e w' ⟨rfl, rfl⟩) | (go_at_call 13; refine (HR _).mono ?_; rintro e w' ⟨rfl, rfl⟩))
      go_region
      all_goals go_wp2
      all_goals go_ret3
      all_goals exact HE2.out
    · have g10 : ¬ (10 : Int) < (n : Int) := by omega
      have h10' : n ≤ 10 := by omega
      clear h10
      go_wp2_with (first | (go_at_call 25; refine (HC _).mono ?_; rintro e w' ⟨rfl, rfl⟩) | (go_at_call 13; refine (HR _).mono ?_; rintro e w' ⟨rfl, rfl⟩))
      go_loop [2, 8, 25] (fun v i k => ∃ j : Nat, j ≤ n ∧ v = .int .i64 (V j) ∧ k = .int .i64 j) (fun _ _ k => n - (intOf k).toNat)
      case atStart => exact ⟨0, Nat.zero_le _, by rw [HV0.out], rfl⟩
      case round =>
        obtain ⟨j, hj, rfl, rfl⟩ := hrel
        by_cases hlt : j < n
        · have hlt' : (j : Int) < (n : Int) := by omega
          have hb := HBD.out j hj
          have hp := pow_le10 (k := j) (by omega)
          obtain ⟨d1, d2, d3⟩ := HDG.out j hlt
          have hb1 := HBD.out (j + 1) (by omega)
          have hp1 := pow_le10 (k := j + 1) (by omega)
          have e1 : IntKind.u8.wrap (((S[j]'(by omega)).toNat : Int) - 48) = ((S[j]'(by omega)).toNat : Int) - 48 := by
            obtain ⟨c, hc⟩ : ∃ c : Int, ((S[j]'(by omega)).toNat : Int) = c := ⟨_, rfl⟩
            rw [hc] at d1 d2 ⊢
            rw [(show ∀ x : Int, IntKind.u8.wrap x = x % 256 from fun _ => rfl)]
            omega
          have e2 : IntKind.i64.wrap (10 * V j) = 10 * V j := IntWalk.i64_in _ (by omega)
          have e3 : IntKind.i64.wrap (10 * V j + (((S[j]'(by omega)).toNat : Int) - 48)) = V (j + 1) := by rw [d3]; exact IntWalk.i64_in _ (by omega)
          have hjs : (j : Int) < (S.size : Int) := by omega
          clear HE HF HK HC0 hb hp hb1 hp1 d3 HBD
          go_wp2_with fail
          exact ⟨⟨j + 1, by omega, rfl, by go_num⟩, by simp [intOf]; omega⟩
        · obtain rfl : j = n := by omega
          clear hlt hj
          have hb := HBD.out j (Nat.le_refl _)
          clear HBD HDG
          by_cases hx : mx < V j
          · have HE2 := Lib.hid (HE.out r ⟨#[110, 117, 109, 98, 101, 114]⟩ (by rw [HRr.out, if_neg (by omega), if_pos hx]))
            clear HE HF HK HC0
            go_wp2_with (go_at_call 26; refine (HM _).mono ?_; rintro e w' ⟨rfl, rfl⟩)
            go_region
            all_goals go_wp2
            all_goals go_ret3
            all_goals exact HE2.out
          · by_cases h0 : j = 0
            · subst h0
              have HF3 := Lib.hid (HF.out r ⟨#[110, 117, 109, 98, 101, 114]⟩ (by rw [HRr.out, if_neg (by omega), if_neg hx, if_pos (show (0 = 0 ∨ 0 < S.size ∨ 1 < 0 ∧ c0 = 48) from .inl rfl)]))
              clear HE HF HK HC0
              go_wp2_with (go_at_call 26; refine (HM _).mono ?_; rintro e w' ⟨rfl, rfl⟩)
              go_region
              all_goals go_wp2
              all_goals go_ret3
              all_goals exact HF3.out
            · have g0 : decide ((j : Int) = 0) = false := decide_eq_false (by omega)
              have g0' : ((j : Int) == 0) = false := by rw [beq_eq_false_iff_ne]; omega
              by_cases h1 : j < S.size
              · have HF3 := Lib.hid (HF.out r ⟨#[110, 117, 109, 98, 101, 114]⟩ (by rw [HRr.out, if_neg (by omega), if_neg hx, if_pos (show (j = 0 ∨ j < S.size ∨ 1 < j ∧ c0 = 48) from .inr (.inl h1))]))
                have g1 : decide ((j : Int) < (S.size : Int)) = true := decide_eq_true (by omega)
                clear HE HF HK HC0
                go_wp2_with (go_at_call 26; refine (HM _).mono ?_; rintro e w' ⟨rfl, rfl⟩)
                go_region
                all_goals go_wp2
                all_goals go_ret3
                all_goals exact HF3.out
              · have g1 : decide ((j : Int) < (S.size : Int)) = false := decide_eq_false (by omega)
                have hpos : 0 < S.size := by omega
                have hc := HC0.out hpos
                by_cases h2 : 1 < j
                · have g2 : decide ((1 : Int) < (j : Int)) = true := decide_eq_true (by omega)
                  by_cases h3 : c0 = 48
                  · have HF3 := Lib.hid (HF.out r ⟨#[110, 117, 109, 98, 101, 114]⟩ (by rw [HRr.out, if_neg (by omega), if_neg hx, if_pos (show (j = 0 ∨ j < S.size ∨ 1 < j ∧ c0 = 48) from .inr (.inr ⟨h2, h3⟩))]))
                    have g3 : (((S[0]'hpos).toNat : Int) == 48) = true := by rw [← hc, h3]; rfl
                    clear HE HF HK HC0 hc h3
                    go_wp2_with (go_at_call 26; refine (HM _).mono ?_; rintro e w' ⟨rfl, rfl⟩)
                    go_region
                    all_goals go_wp2
                    all_goals go_ret3
                    all_goals exact HF3.out
                  · have HK2 := Lib.hid (HK.out (V j) 5 (by rw [HRr.out, if_neg (by omega), if_neg hx, if_neg (by omega)]))
                    have g3 : (((S[0]'hpos).toNat : Int) == 48) = false := by rw [← hc, beq_eq_false_iff_ne]; exact h3
                    clear HE HF HK HC0 hc h3
                    go_wp2_with (go_at_call 26; refine (HM _).mono ?_; rintro e w' ⟨rfl, rfl⟩)
                    go_ret3
                    exact HK2.out
                · have g2 : decide ((1 : Int) < (j : Int)) = false := decide_eq_false (by omega)
                  have HK2 := Lib.hid (HK.out (V j) 5 (by rw [HRr.out, if_neg (by omega), if_neg hx, if_neg (by omega)]))
                  clear HE HF HK HC0 hc
                  go_wp2_with (go_at_call 26; refine (HM _).mono ?_; rintro e w' ⟨rfl, rfl⟩)
                  go_ret3
                  exact HK2.out
  · clear hSs
    go_enter Tryd.func17, Tryd.ntmps17
    by_cases h10 : 10 < n
    · have g10 : (10 : Int) < (n : Int) := by omega
      have HE2 := Lib.hid (HE.out r ⟨#[110, 117, 109, 98, 101, 114]⟩ (by rw [HRr.out, if_pos h10]))
      clear HE HF HK HBD HDG HC0 h10
      go_wp2_with (first | (go_at_call 25; refine (HC _).mono ?_; rintro e w' ⟨rfl, rfl⟩) | (go_at_call 13; refine (HR _).mono ?_; rintro e w' ⟨rfl, rfl⟩))
      go_region
      all_goals go_wp2
      all_goals go_ret3
      all_goals exact HE2.out
    · have g10 : ¬ (10 : Int) < (n : Int) := by omega
      have h10' : n ≤ 10 := by omega
      clear h10
      go_wp2_with (first | (go_at_call 25; refine (HC _).mono ?_; rintro e w' ⟨rfl, rfl⟩) | (go_at_call 13; refine (HR _).mono ?_; rintro e w' ⟨rfl, rfl⟩))
      go_loop [2, 8, 25] (fun v i k => ∃ j : Nat, j ≤ n ∧ v = .int .i64 (V j) ∧ k = .int .i64 j) (fun _ _ k => n - (intOf k).toNat)
      case atStart => exact ⟨0, Nat.zero_le _, by rw [HV0.out], rfl⟩
      case round =>
        obtain ⟨j, hj, rfl, rfl⟩ := hrel
        by_cases hlt : j < n
        · have hlt' : (j : Int) < (n : Int) := by omega
          have hb := HBD.out j hj
          have hp := pow_le10 (k := j) (by omega)
          obtain ⟨d1, d2, d3⟩ := HDG.out j hlt
          have hb1 := HBD.out (j + 1) (by omega)
          have hp1 := pow_le10 (k := j + 1) (by omega)
          have e1 : IntKind.u8.wrap (((S[j]'(by omega)).toNat : Int) - 48) = ((S[j]'(by omega)).toNat : Int) - 48 := by
            obtain ⟨c, hc⟩ : ∃ c : Int, ((S[j]'(by omega)).toNat : Int) = c := ⟨_, rfl⟩
            rw [hc] at d1 d2 ⊢
            rw [(show ∀ x : Int, IntKind.u8.wrap x = x % 256 from fun _ => rfl)]
            omega
          have e2 : IntKind.i64.wrap (10 * V j) = 10 * V j := IntWalk.i64_in _ (by omega)
          have e3 : IntKind.i64.wrap (10 * V j + (((S[j]'(by omega)).toNat : Int) - 48)) = V (j + 1) := by rw [d3]; exact IntWalk.i64_in _ (by omega)
          have hjs : (j : Int) < (S.size : Int) := by omega
          clear HE HF HK HC0 hb hp hb1 hp1 d3 HBD
          go_wp2_with fail
          exact ⟨⟨j + 1, by omega, rfl, by go_num⟩, by simp [intOf]; omega⟩
        · obtain rfl : j = n := by omega
          clear hlt hj
          have hb := HBD.out j (Nat.le_refl _)
          clear HBD HDG
          by_cases hx : mx < V j
          · have HE2 := Lib.hid (HE.out r ⟨#[110, 117, 109, 98, 101, 114]⟩ (by rw [HRr.out, if_neg (by omega), if_pos hx]))
            clear HE HF HK HC0
            go_wp2_with (go_at_call 26; refine (HM _).mono ?_; rintro e w' ⟨rfl, rfl⟩)
            go_region
            all_goals go_wp2
            all_goals go_ret3
            all_goals exact HE2.out
          · by_cases h0 : j = 0
            · subst h0
              have HF3 := Lib.hid (HF.out r ⟨#[110, 117, 109, 98, 101, 114]⟩ (by rw [HRr.out, if_neg (by omega), if_neg hx, if_pos (show (0 = 0 ∨ 0 < S.size ∨ 1 < 0 ∧ c0 = 48) from .inl rfl)]))
              clear HE HF HK HC0
              go_wp2_with (go_at_call 26; refine (HM _).mono ?_; rintro e w' ⟨rfl, rfl⟩)
              go_region
              all_goals go_wp2
              all_goals go_ret3
              all_goals exact HF3.out
            · have g0 : decide ((j : Int) = 0) = false := decide_eq_false (by omega)
              have g0' : ((j : Int) == 0) = false := by rw [beq_eq_false_iff_ne]; omega
              by_cases h1 : j < S.size
              · have HF3 := Lib.hid (HF.out r ⟨#[110, 117, 109, 98, 101, 114]⟩ (by rw [HRr.out, if_neg (by omega), if_neg hx, if_pos (show (j = 0 ∨ j < S.size ∨ 1 < j ∧ c0 = 48) from .inr (.inl h1))]))
                have g1 : decide ((j : Int) < (S.size : Int)) = true := decide_eq_true (by omega)
                clear HE HF HK HC0
                go_wp2_with (go_at_call 26; refine (HM _).mono ?_; rintro e w' ⟨rfl, rfl⟩)
                go_region
                all_goals go_wp2
                all_goals go_ret3
                all_goals exact HF3.out
              · have g1 : decide ((j : Int) < (S.size : Int)) = false := decide_eq_false (by omega)
                have hpos : 0 < S.size := by omega
                have hc := HC0.out hpos
                by_cases h2 : 1 < j
                · have g2 : decide ((1 : Int) < (j : Int)) = true := decide_eq_true (by omega)
                  by_cases h3 : c0 = 48
                  · have HF3 := Lib.hid (HF.out r ⟨#[110, 117, 109, 98, 101, 114]⟩ (by rw [HRr.out, if_neg (by omega), if_neg hx, if_pos (show (j = 0 ∨ j < S.size ∨ 1 < j ∧ c0 = 48) from .inr (.inr ⟨h2, h3⟩))]))
                    have g3 : (((S[0]'hpos).toNat : Int) == 48) = true := by rw [← hc, h3]; rfl
                    clear HE HF HK HC0 hc h3
                    go_wp2_with (go_at_call 26; refine (HM _).mono ?_; rintro e w' ⟨rfl, rfl⟩)
                    go_region
                    all_goals go_wp2
                    all_goals go_ret3
                    all_goals exact HF3.out
                  · have HK2 := Lib.hid (HK.out (V j) 6 (by rw [HRr.out, if_neg (by omega), if_neg hx, if_neg (by omega)]))
                    have g3 : (((S[0]'hpos).toNat : Int) == 48) = false := by rw [← hc, beq_eq_false_iff_ne]; exact h3
                    clear HE HF HK HC0 hc h3
                    go_wp2_with (go_at_call 26; refine (HM _).mono ?_; rintro e w' ⟨rfl, rfl⟩)
                    go_ret3
                    exact HK2.out
                · have g2 : decide ((1 : Int) < (j : Int)) = false := decide_eq_false (by omega)
                  have HK2 := Lib.hid (HK.out (V j) 6 (by rw [HRr.out, if_neg (by omega), if_neg hx, if_neg (by omega)]))
                  clear HE HF HK HC0 hc
                  go_wp2_with (go_at_call 26; refine (HM _).mono ?_; rintro e w' ⟨rfl, rfl⟩)
                  go_ret3
                  exact HK2.out
end Go.Proofs.YtfdlkbkheginlaaDoor.C
