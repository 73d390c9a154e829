/- The reference's unary: its cases joined. -/
import Derived.Test.YtnnhdkchdjddkaaParU2
import Derived.Test.YtnnhdkchdjddkaaParU3
import Derived.Test.YtnnhdkchdjddkaaParU4
import Derived.Test.YtnnhdkchdjddkaaParU5
namespace Go.Proofs.Ytnnhdkchdjddkaa.C
open Go.RowKit
set_option linter.unusedSimpArgs false
set_option linter.unusedVariables false
theorem isP_t {ts : List Tok} {st : Rd} {W : List UInt8} (h : isP ts st W = true) : (tkP ts st.i).t = W := by
  unfold isP at h
  rw [Bool.and_eq_true, Bool.and_eq_true, decide_eq_true_eq (p := (tkP ts st.i).t = W)] at h
  exact h.2.2
theorem unary_c {B p g n c : Nat} {ts : List Tok} {st : Rd} {A : Option Addr} {l : List Ex} {cc : Nat} {w : World} (h : PIn B p g n c ts st A l cc w) (hT : ∀ i, (tkP ts i).t.length ≤ 4611686018427387904)
    (IHr : ∀ st1 W, st.i + e1P st < st1.i + e1P st1 → PIn B p g n c ts st1 A l cc W → Calls Try.prog 45 #[.pointer (some ⟨p, 0, none⟩), .slice A l.length cc, .int .i64 0] W (POut B p g n c ts (PFs ts 0 st1 l) st1 A l cc W))
    (IHu : ∀ st1 W, st.i + e1P st < st1.i + e1P st1 → PIn B p g n c ts st1 A l cc W → Calls Try.prog 53 #[.pointer (some ⟨p, 0, none⟩), .slice A l.length cc] W (POut B p g n c ts (PFs ts 4 st1 l) st1 A l cc W)) :
    Calls Try.prog 53 #[.pointer (some ⟨p, 0, none⟩), .slice A l.length cc] w (POut B p g n c ts (PFs ts 4 st l) st A l cc w) := by
  by_cases h0 : st.e = 0
  rotate_left
  · exact u_err h h0
  have nf : ∀ {W}, ¬ isP ts st W = true → isP ts st W = false := fun {W} hx => by cases hh : isP ts st W; rfl; exact absurd hh hx
  by_cases q1 : isP ts st [45] = true
  · exact u_minus h h0 45 (.inl rfl) (isP_t q1) q1 (fun e => absurd e (by decide)) IHu
  have q1 := nf q1
  by_cases q2 : isP ts st [126] = true
  · exact u_minus h h0 126 (.inr rfl) (isP_t q2) q2 (fun _ => q1) IHu
  have q2 := nf q2
  by_cases q3 : isP ts st [40] = true
  · exact u_paren h h0 _ rfl q1 q2 q3 IHr
  have q3 := nf q3
  by_cases k2 : (tkP ts st.i).k = 2
  · exact u_num h h0 _ rfl q1 q2 q3 k2 (hT _)
  by_cases k1 : (tkP ts st.i).k = 1
  · by_cases q4 : isP ts { st with i := st.i + 1 } [91] = true
    · exact u_elem h h0 _ rfl q1 q2 q3 k1 q4 IHr
    · exact u_name h h0 _ rfl q1 q2 q3 k1 (by cases hh : isP ts { st with i := st.i + 1 } [91]; rfl; exact absurd hh q4)
  by_cases q5 : isP ts st [111, 108, 100] = true
  · exact u_old h h0 _ rfl q1 q2 q3 k2 k1 q5 IHr
  have q5 := nf q5
  by_cases q6 : isP ts st [114, 101, 115, 117, 108, 116] = true
  · exact u_res h h0 _ rfl q1 q2 q3 k2 k1 q5 q6
  have q6 := nf q6
  by_cases k3 : (tkP ts st.i).k = 3
  · by_cases hr : 0 < readTL (tkP ts st.i).t
    · exact u_cast h h0 _ rfl q1 q2 q3 k2 k1 q5 q6 k3 hr IHr
    · exact u_fail2 h h0 _ rfl q1 q2 q3 k2 k1 q5 q6 k3 hr
  · exact u_fail1 h h0 _ rfl q1 q2 q3 k2 k1 q5 q6 k3
end Go.Proofs.Ytnnhdkchdjddkaa.C
