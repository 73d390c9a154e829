/- Great and awake: walks (printed by gen_sha.py). -/
import Derived.Test.YtacdeollnhkckaaShHd
namespace Go.Proofs.Ytacdeollnhkckaa.C
open Go.Shelf Go.RowKit Go.Lib Go.Sort
set_option linter.unusedSimpArgs false
set_option linter.unusedVariables false
noncomputable def greatB (n : Nat) (L : Nat → Nat) : Bool := Sh.dc (30 < n ∨ ∃ a, a < n ∧ a < 40 ∧ 30 < L a)
theorem greatB_no {n : Nat} {L : Nat → Nat} (h : greatB n L = false) : n ≤ 30 ∧ ∀ a, a < n → L a ≤ 30 := by
  have h1 := Sh.dc_no.1 h
  refine ⟨?_, fun a ha => ?_⟩
  · rcases Nat.lt_or_ge 30 n with q | q
    · exact absurd (.inl q) h1
    · exact q
  · rcases Nat.lt_or_ge 30 n with q | q
    · exact absurd (.inl q) h1
    · rcases Nat.lt_or_ge 30 (L a) with p | p
      · exact absurd (.inr ⟨a, ha, by omega, p⟩) h1
      · exact p
def GreatPost (n : Nat) (L : Nat → Nat) (w : World) (e : Ending) (w' : World) : Prop := e = .returned (.bool (greatB n L)) ∧ w = w'
set_option maxHeartbeats 3200000 in
theorem great_c (A : Option Addr) (n cap : Nat) (L : Nat → Nat) (m : Nat → Nat → Int) (w : World) (hG : GR w A n L m) :
    Calls Try.prog 7 #[.slice A n cap] w (GreatPost n L w) := by
  have hnm := hG.1
  have HG : Hid (∀ i, i < n → ∃ (a : Addr) (R : Option Addr) (C : Nat), A = some a ∧ w.cell? (a.add i) = some (.slice R (L i) C) ∧ L i ≤ 9223372036854775807) := Lib.hid (fun i hi => by
    obtain ⟨a, R, C, e, h1, h2, h3⟩ := hG.2 (by omega)
    exact ⟨a, R i, C i, e, (h1 i hi).1, by have := (h1 i hi).2; omega⟩)
  clear hG
  go_enter Try.func7, Try.ntmps7
  go_wp2_with fail
  go_loop [3] (fun v => ∃ i : Nat, i ≤ n ∧ i ≤ 40 ∧ v = .int .i64 i ∧ Hid (∀ a, a < i → L a ≤ 30)) (fun v => n - (intOf v).toNat)
  case atStart => exact ⟨0, by omega, by omega, rfl, Lib.hid (fun a h => by omega)⟩
  case round =>
    obtain ⟨i, hi, hi4, rfl, HS⟩ := hrel
    have ei : IntKind.i64.wrap ((i : Int) + 1) = (i : Int) + 1 := IntWalk.i64_in _ (by omega)
    by_cases hlt : i < n
    · have hltd : decide (i < n) = true := decide_eq_true hlt
      by_cases h4 : i < 40
      · have h4d : decide (i < 40) = true := decide_eq_true h4
        have h4e : decide ((i : Int) < 40) = true := decide_eq_true (by omega)
        obtain ⟨a, R, C, rfl, hc, hLi⟩ := HG.out i hlt
        obtain ⟨M, hM⟩ : ∃ M, L i = M := ⟨_, rfl⟩
        rw [hM] at hc hLi
        have HM := Lib.hid hM
        clear hM
        by_cases h3 : 30 < M
        · have h3d : decide (30 < M) = true := decide_eq_true h3
          have h3e : decide ((30 : Int) < (M : Int)) = true := decide_eq_true (by omega)
          go_wp2_with fail
          go_ret
          exact ⟨by rw [show greatB n L = true from Sh.dc_iff.2 (.inr ⟨i, hlt, h4, by rw [HM.out]; exact h3⟩)]; rfl, rfl⟩
        · have h3d : decide (30 < M) = false := decide_eq_false h3
          have h3e : decide ((30 : Int) < (M : Int)) = false := decide_eq_false (by omega)
          go_wp2_with fail
          exact ⟨⟨i + 1, by omega, by omega, by go_num, Lib.hid (fun b hb => by
            rcases Nat.lt_or_ge b i with q | q
            · exact HS.out b q
            · obtain rfl : b = i := by omega
              rw [HM.out]; omega)⟩, by simp [intOf]; omega⟩
      · have h4d : decide (i < 40) = false := decide_eq_false h4
        have h4e : decide ((i : Int) < 40) = false := decide_eq_false (by omega)
        have hnd : decide (30 < n) = true := decide_eq_true (by omega)
        have hne : decide ((30 : Int) < (n : Int)) = true := decide_eq_true (by omega)
        go_wp2_with fail
        go_ret
        exact ⟨by rw [show greatB n L = true from Sh.dc_iff.2 (.inl (by omega))]; rfl, rfl⟩
    · have hltd : decide (i < n) = false := decide_eq_false hlt
      obtain rfl : n = i := by omega
      by_cases h3 : 30 < n
      · have hnd : decide (30 < n) = true := decide_eq_true (by omega)
        have hne : decide ((30 : Int) < (n : Int)) = true := decide_eq_true (by omega)
        go_wp2_with fail
        go_ret
        exact ⟨by rw [show greatB n L = true from Sh.dc_iff.2 (.inl (by omega))]; rfl, rfl⟩
      · have hnd : decide (30 < n) = false := decide_eq_false (by omega)
        have hne : decide ((30 : Int) < (n : Int)) = false := decide_eq_false (by omega)
        go_wp2_with fail
        go_ret
        exact ⟨by rw [show greatB n L = false from Sh.dc_no.2 (fun g => by rcases g with q | ⟨a, q1, q2, q3⟩; (· omega); (· have := HS.out a q1; omega))]; rfl, rfl⟩
theorem hdL_one : hdL 1 (fun _ => 1) (fun _ _ => 0) 0 = [0] := by
  have h1 : (rcL 1 (EG 1 (fun _ => 1) (fun _ _ => 0)) (fun _ => True) 0)[0]? = some true := by
    rw [rcL_at (by omega)]
    congr 1
    exact Sh.dc_iff.2 ⟨by omega, by omega, .refl trivial⟩
  have h2 : toN 1 (fun _ => 1) (fun _ _ => 0) 0 = [0] := by decide
  have h3 : edL 1 (fun _ => 1) (fun _ _ => 0) 0 true 1 = [(0, 0)] := by
    rw [edL_yes (i := 0) h1]
    unfold edP
    rw [h2]
    simp [edL, Sh.domB, domR_len]
  unfold hdL
  rw [h3]
  have h4 : msort (nI ([((0 : Nat), (0 : Nat))].map Prod.snd)) = [0] := by simp [msort, nI]
  rw [h4]
  decide
def AwPost (w : World) (e : Ending) (w' : World) : Prop := e = .returned (.bool true) ∧ Below w.heap.size w w'
set_option maxHeartbeats 3200000 in
theorem awake_c (w : World) : Calls Try.prog 8 #[] w (AwPost w) := by
  obtain ⟨W, hW⟩ : ∃ W, (w.alloc (.cells #[.int .i64 0] 3)).alloc (.cells #[.slice (some ⟨w.heap.size, 0, none⟩) 1 1] 25) = W := ⟨_, rfl⟩
  have HB : Hid (Below w.heap.size w W) := Lib.hid (by rw [← hW]; exact ((Below.refl _ _).alloc (Nat.le_refl _) _).alloc (by simp) _)
  have hG : GR W (some ⟨w.heap.size + 1, 0, none⟩) 1 (fun _ => 1) (fun _ _ => 0) := by
    refine ⟨by omega, fun _ => ⟨_, fun _ => some ⟨w.heap.size, 0, none⟩, fun _ => 1, rfl, fun i hi => ⟨?_, Nat.le_refl _, (by show (1 : Nat) ≤ 9223372036854775807; omega)⟩, ⟨fun i hi h => (by cases h), fun i j hi hj => ⟨_, rfl, ?_⟩⟩⟩⟩
    · obtain rfl : i = 0 := by omega
      rw [add_plain, ← hW]
      simp [go_sem]
    · have hj1 : j < 1 := hj
      obtain rfl : j = 0 := by omega
      rw [add_plain, ← hW]
      exact cell?_alloc_some _ (by simp [go_sem])
  have HH := heads_c (some ⟨w.heap.size + 1, 0, none⟩) 1 1 (fun _ => 1) (fun _ _ => 0) 0 W hG (by omega) (fun _ _ => by omega)
  rw [hdL_one] at HH
  have HW := Lib.hid hW
  clear hW hG
  go_enter Try.func8, Try.ntmps8
  go_upto_region 2 with (go_at_call 13; rw [HW.out]; refine HH.mono ?_; rintro e w2 ⟨A, rfl, h1, h2⟩; have HR := Lib.hid (And.intro h1 h2); clear h1 h2 HH)
  obtain ⟨ad, rfl, hc⟩ := HR.out.1.2.2 (by simp)
  have c0 := hc 0 0 rfl
  have e0 : ad.add 0 = ad := by obtain ⟨b, o, sp⟩ := ad; cases sp <;> simp [Addr.add]
  rw [e0] at c0
  clear hc e0
  go_wp2_with fail
  go_ret
  exact ⟨rfl, below_next HB.out HB.out.size HR.out.2⟩
end Go.Proofs.Ytacdeollnhkckaa.C
