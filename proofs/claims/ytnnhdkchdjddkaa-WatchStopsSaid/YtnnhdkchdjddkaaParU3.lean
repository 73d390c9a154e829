/- The reference's unary, its cases: walks (printed by gen_paru3.py). -/
import Derived.Test.YtnnhdkchdjddkaaParU
namespace Go.Proofs.Ytnnhdkchdjddkaa.C
open Go.RowKit
set_option linter.unusedSimpArgs false
set_option linter.unusedVariables false
set_option maxRecDepth 100000 in
set_option maxHeartbeats 6400000 in
theorem u_paren {B p g n c : Nat} {ts : List Tok} {st : Rd} {A : Option Addr} {l : List Ex} {cc : Nat} {w : World} (h : PIn B p g n c ts st A l cc w) (h0 : st.e = 0) (tk : Tok) (htk : tkP ts st.i = tk) (qI45 : isP ts st [45] = false) (qI126 : isP ts st [126] = false) (qI40 : isP ts st [40] = true)
    (IHr : ∀ st1 W, st.i + e1P st < st1.i + e1P st1 → PIn B p g n c ts st1 A l cc W → Calls Try.prog 45 #[.pointer (some ⟨p, 0, none⟩), .slice A l.length cc, .int .i64 0] W (POut B p g n c ts (PFs ts 0 st1 l) st1 A l cc W)) :
    Calls Try.prog 53 #[.pointer (some ⟨p, 0, none⟩), .slice A l.length cc] w (POut B p g n c ts (PFs ts 4 st l) st A l cc w) := by
  have H := Lib.hid h
  have H0 := Lib.hid h0
  have c0 := h.rd.c0
  have c1 := h.rd.c1
  have c3 := h.rd.c3
  rw [h0] at c3
  obtain ⟨t0, t1, t2⟩ := h.rd.toks _ _ h.rd.tok
  rw [htk] at t0 t1 t2
  have hi0 : (0 : Int) ≤ (st.i : Int) := by omega
  have hi1 : (st.i : Int) < (n : Int) := by have := h.rd.hi; omega
  have hi2 : st.i < n := h.rd.hi
  have hlt := h.rd.lt
  have hglt := h.rd.glt
  have hlt2 : p ≠ w.heap.size := by omega
  have hlt3 : g ≠ w.heap.size := by omega
  have e1 : IntKind.i64.wrap ((st.i : Int) + 1) = (st.i : Int) + 1 := IntWalk.i64_in _ (by have := h.rd.hb; omega)
  have I45 : ∀ W, RdAt p g n c ts st W → Calls Try.prog 17 #[.pointer (some ⟨p, 0, none⟩), .string ⟨#[45]⟩] W fun e w' => e = .returned (.bool false) ∧ Below W.heap.size W w' := fun W hW => (rd_is_c hW ⟨#[45]⟩).mono (fun e w' hh => ⟨by rw [hh.1]; exact congrArg (fun b => Ending.returned (.bool b)) qI45, hh.2⟩)
  have I126 : ∀ W, RdAt p g n c ts st W → Calls Try.prog 17 #[.pointer (some ⟨p, 0, none⟩), .string ⟨#[126]⟩] W fun e w' => e = .returned (.bool false) ∧ Below W.heap.size W w' := fun W hW => (rd_is_c hW ⟨#[126]⟩).mono (fun e w' hh => ⟨by rw [hh.1]; exact congrArg (fun b => Ending.returned (.bool b)) qI126, hh.2⟩)
  have I40 : ∀ W, RdAt p g n c ts st W → Calls Try.prog 17 #[.pointer (some ⟨p, 0, none⟩), .string ⟨#[40]⟩] W fun e w' => e = .returned (.bool true) ∧ Below W.heap.size W w' := fun W hW => (rd_is_c hW ⟨#[40]⟩).mono (fun e w' hh => ⟨by rw [hh.1]; exact congrArg (fun b => Ending.returned (.bool b)) qI40, hh.2⟩)
  have HR : Hid (∀ st2 l', PFs ts 0 (openP ts st [40]) l (st2, l') → PFs ts 4 st l (upP (wantP ts st2 [41]), l')) := Lib.hid (fun st2 l' ⟨f, hf⟩ => ⟨f + 1, by
    rw [pF4 ts f st l h0]
    simp only [htk]
    rw [if_neg (by rw [qI45, qI126]; simp), if_pos qI40, hf]
    simp [Option.bind, *]⟩)
  have HX : Hid (∀ W, UIn B p g n c ts st A l cc w tk.k ⟨tk.t.toArray⟩ (tk.at_ : Int) W → Calls Try.prog 58 #[.pointer (some ⟨p, 0, none⟩), .slice A l.length cc, .string ⟨#[40]⟩, .string ⟨#[41]⟩] W fun e w3 => ∃ st2 l' A' cc', e = .returned (.slice A' l'.length cc') ∧ PFs ts 0 (openP ts st [40]) l (st2, l') ∧
      Mid B p g n c ts (upP (wantP ts st2 [41])) l' A' cc' A l cc W w3 ∧ (upP (wantP ts st2 [41])).deep = st.deep ∧ st.i ≤ (upP (wantP ts st2 [41])).i ∧ l'.length + st.i + 1 ≤ l.length + (upP (wantP ts st2 [41])).i + e1P (upP (wantP ts st2 [41])) ∧ l'.length ≤ 1000000) := Lib.hid (fun W hU => inner_u hU h0 (by rw [e1P_0 h0]; omega) ⟨#[40]⟩ ⟨#[41]⟩ IHr)
  have HU : Hid (∀ W, Below w.heap.size w W → w.heap.size < W.heap.size → W.cell? ⟨w.heap.size, 0, none⟩ = some (.int .i64 tk.k) → W.cell? ⟨w.heap.size, 1, none⟩ = some (.string ⟨tk.t.toArray⟩) → W.cell? ⟨w.heap.size, 2, none⟩ = some (.int .i64 (tk.at_ : Int)) → UIn B p g n c ts st A l cc w tk.k ⟨tk.t.toArray⟩ (tk.at_ : Int) W) := Lib.hid (fun W hb hz a0 a1 a2 => ⟨h.below hb, Fr.of hb, hz, a0, a1, a2, fun k hk => (h.oe.ge hk).2, h.bw⟩)
  clear h h0 htk qI45 qI126 qI40 IHr
  go_enter Try.func53, Try.ntmps53
  go_upto_region 3 with fail
  go_region
  go_upto_region 4 with fail
  refine at_world (fun W => UIn B p g n c ts st A l cc w tk.k ⟨tk.t.toArray⟩ (tk.at_ : Int) W) ?_ ?_
  · exact HU.out _ (by repeat' (first | exact Below.refl _ _ | (refine Below.alloc ?_ ?_ _) | (refine Below.setCell ?_ ?_ _) | (refine Below.drew ?_) | (refine below_next ?_ ?_ (by assumption)) | omega | (simp; done) | (simp; omega))) (by first | (simp; done) | (simp; omega)) (by simp [go_sem]) (by simp [go_sem]) (by simp [go_sem])
  intro W0 U0
  have U := Lib.hid U0
  clear U0 HU
  have d0 := U.out.d0
  have d1 := U.out.d1
  have d2 := U.out.d2
  have k1 := U.out.pin.rd.c1
  have kf1 := U.out.pin.rd.fz 1
  go_wp2_with (first | (go_at_call 17; refine (I45 _ U.out.pin.rd).mono ?_; rintro e w1 ⟨rfl, hb1⟩; have U := Lib.hid (U.out.below hb1); have d0 := U.out.d0; have d1 := U.out.d1; have d2 := U.out.d2; have k1 := U.out.pin.rd.c1; have kf1 := U.out.pin.rd.fz 1; clear hb1 I45) | (go_at_call 17; refine (I126 _ U.out.pin.rd).mono ?_; rintro e w1 ⟨rfl, hb1⟩; have U := Lib.hid (U.out.below hb1); have d0 := U.out.d0; have d1 := U.out.d1; have d2 := U.out.d2; have k1 := U.out.pin.rd.c1; have kf1 := U.out.pin.rd.fz 1; clear hb1 I126) | (go_at_call 17; refine (I40 _ U.out.pin.rd).mono ?_; rintro e w1 ⟨rfl, hb1⟩; have U := Lib.hid (U.out.below hb1); have d0 := U.out.d0; have d1 := U.out.d1; have d2 := U.out.d2; have k1 := U.out.pin.rd.c1; have kf1 := U.out.pin.rd.fz 1; clear hb1 I40) | (go_at_call 58; refine (HX.out _ U.out).mono ?_; rintro e w3 ⟨st2, l', A', cc', rfl, z1, z2, z3, z4, z5, z6⟩; obtain ⟨d0, d1, d2⟩ := Mid.box U.out z2; have el : IntKind.i64.wrap ((l'.length : Int) - 1) = (l'.length : Int) - 1 := IntWalk.i64_in _ (by omega); have M := Lib.hid z2; have Z1 := Lib.hid z1; have Z3 := Lib.hid z3; clear z1 z2 z3 HX))
  go_ret
  exact fin_row H0.out U.out.fr M.out (HR.out _ _ Z1.out) Z3.out (by omega) (by omega)
set_option maxRecDepth 100000 in
set_option maxHeartbeats 6400000 in
theorem u_num {B p g n c : Nat} {ts : List Tok} {st : Rd} {A : Option Addr} {l : List Ex} {cc : Nat} {w : World} (h : PIn B p g n c ts st A l cc w) (h0 : st.e = 0) (tk : Tok) (htk : tkP ts st.i = tk) (qI45 : isP ts st [45] = false) (qI126 : isP ts st [126] = false) (qI40 : isP ts st [40] = false) (hk : tk.k = 2) (hsz : tk.t.length ≤ 4611686018427387904) :
    Calls Try.prog 53 #[.pointer (some ⟨p, 0, none⟩), .slice A l.length cc] w (POut B p g n c ts (PFs ts 4 st l) st A l cc w) := by
  have H := Lib.hid h
  have H0 := Lib.hid h0
  have c0 := h.rd.c0
  have c1 := h.rd.c1
  have c3 := h.rd.c3
  rw [h0] at c3
  obtain ⟨t0, t1, t2⟩ := h.rd.toks _ _ h.rd.tok
  rw [htk] at t0 t1 t2
  have hi0 : (0 : Int) ≤ (st.i : Int) := by omega
  have hi1 : (st.i : Int) < (n : Int) := by have := h.rd.hi; omega
  have hi2 : st.i < n := h.rd.hi
  have hlt := h.rd.lt
  have hglt := h.rd.glt
  have hlt2 : p ≠ w.heap.size := by omega
  have hlt3 : g ≠ w.heap.size := by omega
  have e1 : IntKind.i64.wrap ((st.i : Int) + 1) = (st.i : Int) + 1 := IntWalk.i64_in _ (by have := h.rd.hb; omega)
  have I45 : ∀ W, RdAt p g n c ts st W → Calls Try.prog 17 #[.pointer (some ⟨p, 0, none⟩), .string ⟨#[45]⟩] W fun e w' => e = .returned (.bool false) ∧ Below W.heap.size W w' := fun W hW => (rd_is_c hW ⟨#[45]⟩).mono (fun e w' hh => ⟨by rw [hh.1]; exact congrArg (fun b => Ending.returned (.bool b)) qI45, hh.2⟩)
  have I126 : ∀ W, RdAt p g n c ts st W → Calls Try.prog 17 #[.pointer (some ⟨p, 0, none⟩), .string ⟨#[126]⟩] W fun e w' => e = .returned (.bool false) ∧ Below W.heap.size W w' := fun W hW => (rd_is_c hW ⟨#[126]⟩).mono (fun e w' hh => ⟨by rw [hh.1]; exact congrArg (fun b => Ending.returned (.bool b)) qI126, hh.2⟩)
  have I40 : ∀ W, RdAt p g n c ts st W → Calls Try.prog 17 #[.pointer (some ⟨p, 0, none⟩), .string ⟨#[40]⟩] W fun e w' => e = .returned (.bool false) ∧ Below W.heap.size W w' := fun W hW => (rd_is_c hW ⟨#[40]⟩).mono (fun e w' hh => ⟨by rw [hh.1]; exact congrArg (fun b => Ending.returned (.bool b)) qI40, hh.2⟩)
  rw [hk] at t0
  have hl1 := tok_lt h (by rw [htk, hk]; decide)
  have HN := fun W => r_number1_c ⟨tk.t.toArray⟩ W (by rw [Lib.size_eq]; exact hsz)
  have HR : Hid (PFs ts 4 st l ({ st with i := st.i + 1 }, l ++ [⟨1, (rnumberL tk.t).1, (rnumberL tk.t).2.1, [], -1, -1, tk.at_⟩])) := Lib.hid ⟨1, by
    rw [pF4 ts 0 st l h0]
    simp only [htk]
    rw [if_neg (by rw [qI45, qI126]; simp), if_neg (by rw [qI40]; simp), if_pos hk]⟩
  obtain ⟨rn, hrn⟩ : ∃ x, rnumberL tk.t = x := ⟨_, rfl⟩
  have hrn2 : rnumberL (⟨tk.t.toArray⟩ : ByteArray).data.toList = rn := hrn
  rw [hrn2] at HN
  rw [hrn] at HR
  have HU : Hid (∀ W, Below w.heap.size w W → w.heap.size < W.heap.size → W.cell? ⟨w.heap.size, 0, none⟩ = some (.int .i64 2) → W.cell? ⟨w.heap.size, 1, none⟩ = some (.string ⟨tk.t.toArray⟩) → W.cell? ⟨w.heap.size, 2, none⟩ = some (.int .i64 (tk.at_ : Int)) → UIn B p g n c ts st A l cc w 2 ⟨tk.t.toArray⟩ (tk.at_ : Int) W) := Lib.hid (fun W hb hz a0 a1 a2 => ⟨h.below hb, Fr.of hb, hz, a0, a1, a2, fun k hk => (h.oe.ge hk).2, h.bw⟩)
  clear h h0 htk qI45 qI126 qI40 hk hsz hrn hrn2
  go_enter Try.func53, Try.ntmps53
  go_upto_region 3 with fail
  go_region
  go_upto_region 4 with fail
  refine at_world (fun W => UIn B p g n c ts st A l cc w 2 ⟨tk.t.toArray⟩ (tk.at_ : Int) W) ?_ ?_
  · exact HU.out _ (by repeat' (first | exact Below.refl _ _ | (refine Below.alloc ?_ ?_ _) | (refine Below.setCell ?_ ?_ _) | (refine Below.drew ?_) | (refine below_next ?_ ?_ (by assumption)) | omega | (simp; done) | (simp; omega))) (by first | (simp; done) | (simp; omega)) (by simp [go_sem]) (by simp [go_sem]) (by simp [go_sem])
  intro W0 U0
  have U := Lib.hid U0
  clear U0 HU
  have d0 := U.out.d0
  have d1 := U.out.d1
  have d2 := U.out.d2
  have k1 := U.out.pin.rd.c1
  have kf1 := U.out.pin.rd.fz 1
  go_wp2_with (first | (go_at_call 17; refine (I45 _ U.out.pin.rd).mono ?_; rintro e w1 ⟨rfl, hb1⟩; have U := Lib.hid (U.out.below hb1); have d0 := U.out.d0; have d1 := U.out.d1; have d2 := U.out.d2; have k1 := U.out.pin.rd.c1; have kf1 := U.out.pin.rd.fz 1; clear hb1 I45) | (go_at_call 17; refine (I126 _ U.out.pin.rd).mono ?_; rintro e w1 ⟨rfl, hb1⟩; have U := Lib.hid (U.out.below hb1); have d0 := U.out.d0; have d1 := U.out.d1; have d2 := U.out.d2; have k1 := U.out.pin.rd.c1; have kf1 := U.out.pin.rd.fz 1; clear hb1 I126) | (go_at_call 17; refine (I40 _ U.out.pin.rd).mono ?_; rintro e w1 ⟨rfl, hb1⟩; have U := Lib.hid (U.out.below hb1); have d0 := U.out.d0; have d1 := U.out.d1; have d2 := U.out.d2; have k1 := U.out.pin.rd.c1; have kf1 := U.out.pin.rd.fz 1; clear hb1 I40) | (go_at_call 25; refine (HN _).mono ?_; rintro e w1 ⟨rfl, rfl⟩; have U := Lib.hid (U.out.step (RdPost.step U.out.pin.rd hl1)); have M := Lib.hid (Mid.refl U.out); clear HN) | (at_builtin; refine wpList_append_ex (by rfl) _ _ rfl ⟨1, rn.1, rn.2.1, [], -1, -1, tk.at_⟩ (by rfl) (by rfl) M.out.oe (MidB M.out U.out) (by rfl) (by first | rfl | (simp; done)) (U.out.len) ?_; intro A2 c2 n2 w4 hn ho hf hk2; have HE := Lib.hid (And.intro hn (And.intro ho (And.intro hf hk2))); clear hn ho hf hk2))
  go_ret
  exact fin_node H.out H0.out U.out.fr M.out HR.out HE.out.2.1 HE.out.2.2.1 HE.out.2.2.2 HE.out.1 rfl (by show st.i ≤ st.i + 1; omega) (by show l.length + st.i + 1 ≤ l.length + (st.i + 1) + _; omega)
set_option maxRecDepth 100000 in
set_option maxHeartbeats 6400000 in
theorem u_name {B p g n c : Nat} {ts : List Tok} {st : Rd} {A : Option Addr} {l : List Ex} {cc : Nat} {w : World} (h : PIn B p g n c ts st A l cc w) (h0 : st.e = 0) (tk : Tok) (htk : tkP ts st.i = tk) (qI45 : isP ts st [45] = false) (qI126 : isP ts st [126] = false) (qI40 : isP ts st [40] = false) (hk : tk.k = 1) (qI91 : isP ts { st with i := st.i + 1 } [91] = false) :
    Calls Try.prog 53 #[.pointer (some ⟨p, 0, none⟩), .slice A l.length cc] w (POut B p g n c ts (PFs ts 4 st l) st A l cc w) := by
  have H := Lib.hid h
  have H0 := Lib.hid h0
  have c0 := h.rd.c0
  have c1 := h.rd.c1
  have c3 := h.rd.c3
  rw [h0] at c3
  obtain ⟨t0, t1, t2⟩ := h.rd.toks _ _ h.rd.tok
  rw [htk] at t0 t1 t2
  have hi0 : (0 : Int) ≤ (st.i : Int) := by omega
  have hi1 : (st.i : Int) < (n : Int) := by have := h.rd.hi; omega
  have hi2 : st.i < n := h.rd.hi
  have hlt := h.rd.lt
  have hglt := h.rd.glt
  have hlt2 : p ≠ w.heap.size := by omega
  have hlt3 : g ≠ w.heap.size := by omega
  have e1 : IntKind.i64.wrap ((st.i : Int) + 1) = (st.i : Int) + 1 := IntWalk.i64_in _ (by have := h.rd.hb; omega)
  have I45 : ∀ W, RdAt p g n c ts st W → Calls Try.prog 17 #[.pointer (some ⟨p, 0, none⟩), .string ⟨#[45]⟩] W fun e w' => e = .returned (.bool false) ∧ Below W.heap.size W w' := fun W hW => (rd_is_c hW ⟨#[45]⟩).mono (fun e w' hh => ⟨by rw [hh.1]; exact congrArg (fun b => Ending.returned (.bool b)) qI45, hh.2⟩)
  have I126 : ∀ W, RdAt p g n c ts st W → Calls Try.prog 17 #[.pointer (some ⟨p, 0, none⟩), .string ⟨#[126]⟩] W fun e w' => e = .returned (.bool false) ∧ Below W.heap.size W w' := fun W hW => (rd_is_c hW ⟨#[126]⟩).mono (fun e w' hh => ⟨by rw [hh.1]; exact congrArg (fun b => Ending.returned (.bool b)) qI126, hh.2⟩)
  have I40 : ∀ W, RdAt p g n c ts st W → Calls Try.prog 17 #[.pointer (some ⟨p, 0, none⟩), .string ⟨#[40]⟩] W fun e w' => e = .returned (.bool false) ∧ Below W.heap.size W w' := fun W hW => (rd_is_c hW ⟨#[40]⟩).mono (fun e w' hh => ⟨by rw [hh.1]; exact congrArg (fun b => Ending.returned (.bool b)) qI40, hh.2⟩)
  have I91 : ∀ W, RdAt p g n c ts { st with i := st.i + 1 } W → Calls Try.prog 17 #[.pointer (some ⟨p, 0, none⟩), .string ⟨#[91]⟩] W fun e w' => e = .returned (.bool false) ∧ Below W.heap.size W w' := fun W hW => (rd_is_c hW ⟨#[91]⟩).mono (fun e w' hh => ⟨by rw [hh.1]; exact congrArg (fun b => Ending.returned (.bool b)) qI91, hh.2⟩)
  rw [hk] at t0
  have hl1 := tok_lt h (by rw [htk, hk]; decide)
  have HR : Hid (PFs ts 4 st l ({ st with i := st.i + 1 }, l ++ [⟨2, 0, 0, tk.t, -1, -1, tk.at_⟩])) := Lib.hid ⟨1, by
    rw [pF4 ts 0 st l h0]
    simp only [htk]
    rw [if_neg (by rw [qI45, qI126]; simp), if_neg (by rw [qI40]; simp), if_neg (by omega), if_pos hk, if_neg (by rw [qI91]; simp)]⟩
  have HU : Hid (∀ W, Below w.heap.size w W → w.heap.size < W.heap.size → W.cell? ⟨w.heap.size, 0, none⟩ = some (.int .i64 1) → W.cell? ⟨w.heap.size, 1, none⟩ = some (.string ⟨tk.t.toArray⟩) → W.cell? ⟨w.heap.size, 2, none⟩ = some (.int .i64 (tk.at_ : Int)) → UIn B p g n c ts st A l cc w 1 ⟨tk.t.toArray⟩ (tk.at_ : Int) W) := Lib.hid (fun W hb hz a0 a1 a2 => ⟨h.below hb, Fr.of hb, hz, a0, a1, a2, fun k hk => (h.oe.ge hk).2, h.bw⟩)
  clear h h0 htk qI45 qI126 qI40 qI91 hk
  go_enter Try.func53, Try.ntmps53
  go_upto_region 3 with fail
  go_region
  go_upto_region 4 with fail
  refine at_world (fun W => UIn B p g n c ts st A l cc w 1 ⟨tk.t.toArray⟩ (tk.at_ : Int) W) ?_ ?_
  · exact HU.out _ (by repeat' (first | exact Below.refl _ _ | (refine Below.alloc ?_ ?_ _) | (refine Below.setCell ?_ ?_ _) | (refine Below.drew ?_) | (refine below_next ?_ ?_ (by assumption)) | omega | (simp; done) | (simp; omega))) (by first | (simp; done) | (simp; omega)) (by simp [go_sem]) (by simp [go_sem]) (by simp [go_sem])
  intro W0 U0
  have U := Lib.hid U0
  clear U0 HU
  have d0 := U.out.d0
  have d1 := U.out.d1
  have d2 := U.out.d2
  have k1 := U.out.pin.rd.c1
  have kf1 := U.out.pin.rd.fz 1
  go_wp2_with (first | (go_at_call 17; refine (I45 _ U.out.pin.rd).mono ?_; rintro e w1 ⟨rfl, hb1⟩; have U := Lib.hid (U.out.below hb1); have d0 := U.out.d0; have d1 := U.out.d1; have d2 := U.out.d2; have k1 := U.out.pin.rd.c1; have kf1 := U.out.pin.rd.fz 1; clear hb1 I45) | (go_at_call 17; refine (I126 _ U.out.pin.rd).mono ?_; rintro e w1 ⟨rfl, hb1⟩; have U := Lib.hid (U.out.below hb1); have d0 := U.out.d0; have d1 := U.out.d1; have d2 := U.out.d2; have k1 := U.out.pin.rd.c1; have kf1 := U.out.pin.rd.fz 1; clear hb1 I126) | (go_at_call 17; refine (I40 _ U.out.pin.rd).mono ?_; rintro e w1 ⟨rfl, hb1⟩; have U := Lib.hid (U.out.below hb1); have d0 := U.out.d0; have d1 := U.out.d1; have d2 := U.out.d2; have k1 := U.out.pin.rd.c1; have kf1 := U.out.pin.rd.fz 1; clear hb1 I40) | (go_at_call 17; have U := Lib.hid (U.out.step (RdPost.step U.out.pin.rd hl1)); refine (I91 _ U.out.pin.rd).mono ?_; rintro e w1 ⟨rfl, hb1⟩; have U := Lib.hid (U.out.below hb1); have d0 := U.out.d0; have d1 := U.out.d1; have d2 := U.out.d2; have k1 := U.out.pin.rd.c1; have kf1 := U.out.pin.rd.fz 1; clear hb1 I91) | (at_builtin; have M := Lib.hid (Mid.refl U.out); refine wpList_append_ex (by rfl) _ _ rfl ⟨2, 0, 0, tk.t, -1, -1, tk.at_⟩ (by rfl) (by rfl) M.out.oe (MidB M.out U.out) (by rfl) (by first | rfl | (simp; done)) U.out.len ?_; intro A2 c2 n2 w4 hn ho hf hk2; have HE := Lib.hid (And.intro hn (And.intro ho (And.intro hf hk2))); clear hn ho hf hk2))
  go_ret
  exact fin_node H.out H0.out U.out.fr M.out HR.out HE.out.2.1 HE.out.2.2.1 HE.out.2.2.2 HE.out.1 rfl (by show st.i ≤ st.i + 1; omega) (by show l.length + st.i + 1 ≤ l.length + (st.i + 1) + _; omega)
set_option maxRecDepth 100000 in
set_option maxHeartbeats 6400000 in
theorem u_elem {B p g n c : Nat} {ts : List Tok} {st : Rd} {A : Option Addr} {l : List Ex} {cc : Nat} {w : World} (h : PIn B p g n c ts st A l cc w) (h0 : st.e = 0) (tk : Tok) (htk : tkP ts st.i = tk) (qI45 : isP ts st [45] = false) (qI126 : isP ts st [126] = false) (qI40 : isP ts st [40] = false) (hk : tk.k = 1) (qI91 : isP ts { st with i := st.i + 1 } [91] = true)
    (IHr : ∀ st1 W, st.i + e1P st < st1.i + e1P st1 → PIn B p g n c ts st1 A l cc W → Calls Try.prog 45 #[.pointer (some ⟨p, 0, none⟩), .slice A l.length cc, .int .i64 0] W (POut B p g n c ts (PFs ts 0 st1 l) st1 A l cc W)) :
    Calls Try.prog 53 #[.pointer (some ⟨p, 0, none⟩), .slice A l.length cc] w (POut B p g n c ts (PFs ts 4 st l) st A l cc w) := by
  have H := Lib.hid h
  have H0 := Lib.hid h0
  have c0 := h.rd.c0
  have c1 := h.rd.c1
  have c3 := h.rd.c3
  rw [h0] at c3
  obtain ⟨t0, t1, t2⟩ := h.rd.toks _ _ h.rd.tok
  rw [htk] at t0 t1 t2
  have hi0 : (0 : Int) ≤ (st.i : Int) := by omega
  have hi1 : (st.i : Int) < (n : Int) := by have := h.rd.hi; omega
  have hi2 : st.i < n := h.rd.hi
  have hlt := h.rd.lt
  have hglt := h.rd.glt
  have hlt2 : p ≠ w.heap.size := by omega
  have hlt3 : g ≠ w.heap.size := by omega
  have e1 : IntKind.i64.wrap ((st.i : Int) + 1) = (st.i : Int) + 1 := IntWalk.i64_in _ (by have := h.rd.hb; omega)
  have I45 : ∀ W, RdAt p g n c ts st W → Calls Try.prog 17 #[.pointer (some ⟨p, 0, none⟩), .string ⟨#[45]⟩] W fun e w' => e = .returned (.bool false) ∧ Below W.heap.size W w' := fun W hW => (rd_is_c hW ⟨#[45]⟩).mono (fun e w' hh => ⟨by rw [hh.1]; exact congrArg (fun b => Ending.returned (.bool b)) qI45, hh.2⟩)
  have I126 : ∀ W, RdAt p g n c ts st W → Calls Try.prog 17 #[.pointer (some ⟨p, 0, none⟩), .string ⟨#[126]⟩] W fun e w' => e = .returned (.bool false) ∧ Below W.heap.size W w' := fun W hW => (rd_is_c hW ⟨#[126]⟩).mono (fun e w' hh => ⟨by rw [hh.1]; exact congrArg (fun b => Ending.returned (.bool b)) qI126, hh.2⟩)
  have I40 : ∀ W, RdAt p g n c ts st W → Calls Try.prog 17 #[.pointer (some ⟨p, 0, none⟩), .string ⟨#[40]⟩] W fun e w' => e = .returned (.bool false) ∧ Below W.heap.size W w' := fun W hW => (rd_is_c hW ⟨#[40]⟩).mono (fun e w' hh => ⟨by rw [hh.1]; exact congrArg (fun b => Ending.returned (.bool b)) qI40, hh.2⟩)
  have I91 : ∀ W, RdAt p g n c ts { st with i := st.i + 1 } W → Calls Try.prog 17 #[.pointer (some ⟨p, 0, none⟩), .string ⟨#[91]⟩] W fun e w' => e = .returned (.bool true) ∧ Below W.heap.size W w' := fun W hW => (rd_is_c hW ⟨#[91]⟩).mono (fun e w' hh => ⟨by rw [hh.1]; exact congrArg (fun b => Ending.returned (.bool b)) qI91, hh.2⟩)
  rw [hk] at t0
  have hl1 := tok_lt h (by rw [htk, hk]; decide)
  have HR : Hid (∀ st2 l', PFs ts 0 (openP ts { st with i := st.i + 1 } [91]) l (st2, l') → PFs ts 4 st l (upP (wantP ts st2 [93]), l' ++ [⟨3, 0, 0, tk.t, (l'.length : Int) - 1, -1, tk.at_⟩])) := Lib.hid (fun st2 l' ⟨f, hf⟩ => ⟨f + 1, by
    rw [pF4 ts f st l h0]
    simp only [htk]
    rw [if_neg (by rw [qI45, qI126]; simp), if_neg (by rw [qI40]; simp), if_neg (by omega), if_pos hk, if_pos qI91, hf]
    simp [Option.bind, *]⟩)
  have HX : Hid (∀ W, UIn B p g n c ts { st with i := st.i + 1 } A l cc w 1 ⟨tk.t.toArray⟩ (tk.at_ : Int) W → Calls Try.prog 58 #[.pointer (some ⟨p, 0, none⟩), .slice A l.length cc, .string ⟨#[91]⟩, .string ⟨#[93]⟩] W fun e w3 => ∃ st2 l' A' cc', e = .returned (.slice A' l'.length cc') ∧ PFs ts 0 (openP ts { st with i := st.i + 1 } [91]) l (st2, l') ∧
      Mid B p g n c ts (upP (wantP ts st2 [93])) l' A' cc' A l cc W w3 ∧ (upP (wantP ts st2 [93])).deep = st.deep ∧ st.i + 1 ≤ (upP (wantP ts st2 [93])).i ∧ l'.length + (st.i + 1) + 1 ≤ l.length + (upP (wantP ts st2 [93])).i + e1P (upP (wantP ts st2 [93])) ∧ l'.length ≤ 1000000) := Lib.hid (fun W hU => inner_u hU h0 (by rw [e1P_0 h0]; show _ ≤ st.i + 1; omega) ⟨#[91]⟩ ⟨#[93]⟩ IHr)
  have HU : Hid (∀ W, Below w.heap.size w W → w.heap.size < W.heap.size → W.cell? ⟨w.heap.size, 0, none⟩ = some (.int .i64 1) → W.cell? ⟨w.heap.size, 1, none⟩ = some (.string ⟨tk.t.toArray⟩) → W.cell? ⟨w.heap.size, 2, none⟩ = some (.int .i64 (tk.at_ : Int)) → UIn B p g n c ts st A l cc w 1 ⟨tk.t.toArray⟩ (tk.at_ : Int) W) := Lib.hid (fun W hb hz a0 a1 a2 => ⟨h.below hb, Fr.of hb, hz, a0, a1, a2, fun k hk => (h.oe.ge hk).2, h.bw⟩)
  clear h h0 htk qI45 qI126 qI40 qI91 hk IHr
  go_enter Try.func53, Try.ntmps53
  go_upto_region 3 with fail
  go_region
  go_upto_region 4 with fail
  refine at_world (fun W => UIn B p g n c ts st A l cc w 1 ⟨tk.t.toArray⟩ (tk.at_ : Int) W) ?_ ?_
  · exact HU.out _ (by repeat' (first | exact Below.refl _ _ | (refine Below.alloc ?_ ?_ _) | (refine Below.setCell ?_ ?_ _) | (refine Below.drew ?_) | (refine below_next ?_ ?_ (by assumption)) | omega | (simp; done) | (simp; omega))) (by first | (simp; done) | (simp; omega)) (by simp [go_sem]) (by simp [go_sem]) (by simp [go_sem])
  intro W0 U0
  have U := Lib.hid U0
  clear U0 HU
  have d0 := U.out.d0
  have d1 := U.out.d1
  have d2 := U.out.d2
  have k1 := U.out.pin.rd.c1
  have kf1 := U.out.pin.rd.fz 1
  go_wp2_with (first | (go_at_call 17; refine (I45 _ U.out.pin.rd).mono ?_; rintro e w1 ⟨rfl, hb1⟩; have U := Lib.hid (U.out.below hb1); have d0 := U.out.d0; have d1 := U.out.d1; have d2 := U.out.d2; have k1 := U.out.pin.rd.c1; have kf1 := U.out.pin.rd.fz 1; clear hb1 I45) | (go_at_call 17; refine (I126 _ U.out.pin.rd).mono ?_; rintro e w1 ⟨rfl, hb1⟩; have U := Lib.hid (U.out.below hb1); have d0 := U.out.d0; have d1 := U.out.d1; have d2 := U.out.d2; have k1 := U.out.pin.rd.c1; have kf1 := U.out.pin.rd.fz 1; clear hb1 I126) | (go_at_call 17; refine (I40 _ U.out.pin.rd).mono ?_; rintro e w1 ⟨rfl, hb1⟩; have U := Lib.hid (U.out.below hb1); have d0 := U.out.d0; have d1 := U.out.d1; have d2 := U.out.d2; have k1 := U.out.pin.rd.c1; have kf1 := U.out.pin.rd.fz 1; clear hb1 I40) | (go_at_call 17; have U := Lib.hid (U.out.step (RdPost.step U.out.pin.rd hl1)); refine (I91 _ U.out.pin.rd).mono ?_; rintro e w1 ⟨rfl, hb1⟩; have U := Lib.hid (U.out.below hb1); have d0 := U.out.d0; have d1 := U.out.d1; have d2 := U.out.d2; have k1 := U.out.pin.rd.c1; have kf1 := U.out.pin.rd.fz 1; clear hb1 I91) | (go_at_call 58; refine (HX.out _ U.out).mono ?_; rintro e w3 ⟨st2, l', A', cc', rfl, z1, z2, z3, z4, z5, z6⟩; obtain ⟨d0, d1, d2⟩ := Mid.box U.out z2; have el : IntKind.i64.wrap ((l'.length : Int) - 1) = (l'.length : Int) - 1 := IntWalk.i64_in _ (by omega); have M := Lib.hid z2; have Z1 := Lib.hid z1; have Z3 := Lib.hid z3; clear z1 z2 z3 HX) | (at_builtin; refine wpList_append_ex (by rfl) _ _ rfl ⟨3, 0, 0, tk.t, (l'.length : Int) - 1, -1, tk.at_⟩ (by rfl) (by rfl) M.out.oe (MidB M.out U.out) (by rfl) (by first | rfl | (simp; done)) z6 ?_; intro A2 c2 n2 w4 hn ho hf hk2; have HE := Lib.hid (And.intro hn (And.intro ho (And.intro hf hk2))); clear hn ho hf hk2))
  go_ret
  exact fin_node H.out H0.out U.out.fr M.out (HR.out _ _ Z1.out) HE.out.2.1 HE.out.2.2.1 HE.out.2.2.2 HE.out.1 Z3.out (by omega) (by omega)
end Go.Proofs.Ytnnhdkchdjddkaa.C
