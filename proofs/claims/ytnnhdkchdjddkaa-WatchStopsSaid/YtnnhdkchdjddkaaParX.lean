/- The reference's reader of expressions: one induction. -/
import Derived.Test.YtnnhdkchdjddkaaParU6
import Derived.Test.YtnnhdkchdjddkaaParW
namespace Go.Proofs.Ytnnhdkchdjddkaa.C
open Go.RowKit
set_option linter.unusedSimpArgs false
set_option linter.unusedVariables false
set_option maxHeartbeats 1600000 in
theorem row_four {B p g n c : Nat} {ts : List Tok} {st : Rd} {A : Option Addr} {l : List Ex} {cc : Nat} {w : World}
    (HU : Calls Try.prog 53 #[.pointer (some ⟨p, 0, none⟩), .slice A l.length cc] w (POut B p g n c ts (PFs ts 4 st l) st A l cc w)) :
    Calls Try.prog 45 #[.pointer (some ⟨p, 0, none⟩), .slice A l.length cc, .int .i64 4] w (POut B p g n c ts (PFs ts 4 st l) st A l cc w) := by
  go_enter Try.func45, Try.ntmps45
  go_wp2_with (go_at_call 53; refine HU.mono ?_; rintro e w1 ⟨st', l', A', cc', h1, rfl, h2⟩; have H2 := Lib.hid (And.intro h1 h2); clear h1 h2)
  go_ret
  exact ⟨st', l', A', cc', H2.out.1, rfl, H2.out.2⟩
theorem rows_c {B p g n c : Nat} {ts : List Tok} (hT : ∀ i, (tkP ts i).t.length ≤ 4611686018427387904) : ∀ (k : Nat) (st : Rd) (A : Option Addr) (l : List Ex) (cc : Nat) (w : World), n + 1 - (st.i + e1P st) ≤ k → PIn B p g n c ts st A l cc w →
    (∀ m : Nat, m ≤ 4 → Calls Try.prog 45 #[.pointer (some ⟨p, 0, none⟩), .slice A l.length cc, .int .i64 (m : Int)] w (POut B p g n c ts (PFs ts m st l) st A l cc w)) ∧
      Calls Try.prog 53 #[.pointer (some ⟨p, 0, none⟩), .slice A l.length cc] w (POut B p g n c ts (PFs ts 4 st l) st A l cc w) := by
  intro k
  induction k with
  | zero =>
    intro st A l cc w hk h
    have h1 := h.rd.hi
    have h2 : e1P st ≤ 1 := by unfold e1P; split <;> omega
    omega
  | succ k ih =>
    intro st A l cc w hk h
    have h1 := h.rd.hi
    have HU := unary_c h hT (fun st1 W hlt hp => (ih st1 A l cc W (by omega) hp).1 0 (by omega)) (fun st1 W hlt hp => (ih st1 A l cc W (by omega) hp).2)
    have step : ∀ m : Nat, m < 4 → Calls Try.prog 45 #[.pointer (some ⟨p, 0, none⟩), .slice A l.length cc, .int .i64 ((m + 1 : Nat) : Int)] w (POut B p g n c ts (PFs ts (m + 1) st l) st A l cc w) → Calls Try.prog 45 #[.pointer (some ⟨p, 0, none⟩), .slice A l.length cc, .int .i64 (m : Int)] w (POut B p g n c ts (PFs ts m st l) st A l cc w) := fun m hm H1 =>
      row_next m hm h H1 (fun s1 A1 l1 cc1 W hlt hp => (ih s1 A1 l1 cc1 W (by omega) hp).1 (m + 1) (by omega))
    have H4 := row_four HU
    have H3 := step 3 (by omega) H4
    have H2 := step 2 (by omega) H3
    have H1 := step 1 (by omega) H2
    have H0 := step 0 (by omega) H1
    refine ⟨fun m hm => ?_, HU⟩
    rcases (by omega : m = 0 ∨ m = 1 ∨ m = 2 ∨ m = 3 ∨ m = 4) with rfl | rfl | rfl | rfl | rfl
    · exact H0
    · exact H1
    · exact H2
    · exact H3
    · exact H4
/-- What an expression read anew leaves. -/
def EOut (p g n c : Nat) (ts : List Tok) (st : Rd) (w : World) (e : Ending) (w' : World) : Prop :=
  ∃ st' x ax cx, PFs ts 0 st [] (st', x) ∧ e = .returned (.slice ax x.length cx) ∧ RdAt p g n c ts st' w' ∧ OE w' w.heap.size ax x cx ∧ Fr (fun k => k = p) w w' ∧ st'.deep = st.deep ∧ st.i ≤ st'.i ∧ (st.e ≠ 0 → st' = st)
theorem blk_none (k : Nat) : ¬ Blk none 0 0 k := fun h => by
  unfold Blk at h
  simp [Value.ownBlock] at h
theorem expr_new {p g n c : Nat} {ts : List Tok} {st : Rd} {w : World} (hT : ∀ i, (tkP ts i).t.length ≤ 4611686018427387904) (h : RdAt p g n c ts st w) (hE : (tkP ts (n - 1)).k = 0) (d0 : 0 ≤ st.deep) (d1 : st.deep ≤ ((st.i + e1P st : Nat) : Int)) :
    Calls Try.prog 38 #[.pointer (some ⟨p, 0, none⟩), .slice none 0 0] w (EOut p g n c ts st w) := by
  have hin : PIn w.heap.size p g n c ts st none [] 0 w := ⟨h, OE.nil _ _, h.lt, h.glt, Nat.le_refl _, hE, d0, d1, Nat.zero_le _⟩
  refine (expr_c ((rows_c hT _ st none [] 0 w (Nat.le_refl _) hin).1 0 (by omega))).mono ?_
  rintro e w' ⟨st', l', A', cc', z1, rfl, z2, z3, z4, z5, z6, z7, z8, z9⟩
  refine ⟨st', l', A', cc', z1, rfl, z2, z3, ⟨z4.os, z4.tape, z4.output, z4.size, fun k hk hn => z4.block k hk (fun x => x.elim hn (blk_none k))⟩, z6, z7, fun x => (z9 x).1⟩
end Go.Proofs.Ytnnhdkchdjddkaa.C
