/- The reference's unary, its cases: walks (printed by gen_paru3.py). -/
import Derived.Test.YtnnhdkchdjddkaaParU
import Derived.Deep.RegionLaw
import Derived.Deep.AppendLies
namespace Go.Proofs.Ytnnhdkchdjddkaa.C
open Go.RowKit
set_option linter.unusedSimpArgs false
set_option linter.unusedVariables false
set_option maxRecDepth 100000 in
set_option maxHeartbeats 6400000 in
theorem u_cast {B p g n c : Nat} {ts : List Tok} {st : Rd} {A : Option Addr} {l : List Ex} {cc : Nat} {w : World} (h : PIn B p g n c ts st A l cc w) (h0 : st.e = 0) (tk : Tok) (htk : tkP ts st.i = tk) (qI45 : isP ts st [45] = false) (qI126 : isP ts st [126] = false) (qI40 : isP ts st [40] = false) (hk2 : tk.k ≠ 2) (hk1 : tk.k ≠ 1) (qT1 : isP ts st [111, 108, 100] = false) (qT2 : isP ts st [114, 101, 115, 117, 108, 116] = false) (hk3 : tk.k = 3) (hr : 0 < readTL tk.t)
    (IHr : ∀ st1 W, st.i + e1P st < st1.i + e1P st1 → PIn B p g n c ts st1 A l cc W → Calls Try.prog 45 #[.pointer (some ⟨p, 0, none⟩), .slice A l.length cc, .int .i64 0] W (POut B p g n c ts (PFs ts 0 st1 l) st1 A l cc W)) :
    Calls Try.prog 53 #[.pointer (some ⟨p, 0, none⟩), .slice A l.length cc] w (POut B p g n c ts (PFs ts 4 st l) st A l cc w) := by
  have H := Lib.hid h
  have H0 := Lib.hid h0
  have c0 := h.rd.c0
  have c1 := h.rd.c1
  have c3 := h.rd.c3
  rw [h0] at c3
  obtain ⟨t0, t1, t2⟩ := h.rd.toks _ _ h.rd.tok
  rw [htk] at t0 t1 t2
  have hi0 : (0 : Int) ≤ (st.i : Int) := by omega
  have hi1 : (st.i : Int) < (n : Int) := by have := h.rd.hi; omega
  have hi2 : st.i < n := h.rd.hi
  have hlt := h.rd.lt
  have hglt := h.rd.glt
  have hlt2 : p ≠ w.heap.size := by omega
  have hlt3 : g ≠ w.heap.size := by omega
  have e1 : IntKind.i64.wrap ((st.i : Int) + 1) = (st.i : Int) + 1 := IntWalk.i64_in _ (by have := h.rd.hb; omega)
  have I45 : ∀ W, RdAt p g n c ts st W → Calls Try.prog 17 #[.pointer (some ⟨p, 0, none⟩), .string ⟨#[45]⟩] W fun e w' => e = .returned (.bool false) ∧ Below W.heap.size W w' := fun W hW => (rd_is_c hW ⟨#[45]⟩).mono (fun e w' hh => ⟨by rw [hh.1]; exact congrArg (fun b => Ending.returned (.bool b)) qI45, hh.2⟩)
  have I126 : ∀ W, RdAt p g n c ts st W → Calls Try.prog 17 #[.pointer (some ⟨p, 0, none⟩), .string ⟨#[126]⟩] W fun e w' => e = .returned (.bool false) ∧ Below W.heap.size W w' := fun W hW => (rd_is_c hW ⟨#[126]⟩).mono (fun e w' hh => ⟨by rw [hh.1]; exact congrArg (fun b => Ending.returned (.bool b)) qI126, hh.2⟩)
  have I40 : ∀ W, RdAt p g n c ts st W → Calls Try.prog 17 #[.pointer (some ⟨p, 0, none⟩), .string ⟨#[40]⟩] W fun e w' => e = .returned (.bool false) ∧ Below W.heap.size W w' := fun W hW => (rd_is_c hW ⟨#[40]⟩).mono (fun e w' hh => ⟨by rw [hh.1]; exact congrArg (fun b => Ending.returned (.bool b)) qI40, hh.2⟩)
  have T1 : ∀ W, RdAt p g n c ts st W → Calls Try.prog 27 #[.pointer (some ⟨p, 0, none⟩), .string ⟨#[111, 108, 100]⟩] W fun e w' => e = .returned (.bool false) ∧ RdPost p g n c ts st W w' := fun W hW => (rd_take_c hW h.hE ⟨#[111, 108, 100]⟩).mono (fun e w' hh => ⟨by rw [hh.1]; exact congrArg (fun b => Ending.returned (.bool b)) qT1, by have hx := hh.2; unfold takeP at hx; rw [show isP ts st (⟨#[111, 108, 100]⟩ : ByteArray).data.toList = false from qT1] at hx; simpa using hx⟩)
  have T2 : ∀ W, RdAt p g n c ts st W → Calls Try.prog 27 #[.pointer (some ⟨p, 0, none⟩), .string ⟨#[114, 101, 115, 117, 108, 116]⟩] W fun e w' => e = .returned (.bool false) ∧ RdPost p g n c ts st W w' := fun W hW => (rd_take_c hW h.hE ⟨#[114, 101, 115, 117, 108, 116]⟩).mono (fun e w' hh => ⟨by rw [hh.1]; exact congrArg (fun b => Ending.returned (.bool b)) qT2, by have hx := hh.2; unfold takeP at hx; rw [show isP ts st (⟨#[114, 101, 115, 117, 108, 116]⟩ : ByteArray).data.toList = false from qT2] at hx; simpa using hx⟩)
  rw [hk3] at t0
  have hl1 := tok_lt h (by rw [htk, hk3]; decide)
  have HR : Hid (∀ st2 l', PFs ts 0 (openP ts { st with i := st.i + 1 } [40]) l (st2, l') → PFs ts 4 st l (upP (wantP ts st2 [41]), l' ++ [⟨18, 0, readTL tk.t, [], (l'.length : Int) - 1, -1, tk.at_⟩])) := Lib.hid (fun st2 l' ⟨f, hf⟩ => ⟨f + 1, by
    rw [pF4 ts f st l h0]
    simp only [htk]
    rw [if_neg (by rw [qI45, qI126]; simp), if_neg (by rw [qI40]; simp), if_neg hk2, if_neg hk1, if_neg (by rw [qT1]; simp), if_neg (by rw [qT2]; simp), if_pos ⟨hk3, hr⟩, hf]
    simp [Option.bind, *]⟩)
  have HX : Hid (∀ W, UIn B p g n c ts { st with i := st.i + 1 } A l cc w 3 ⟨tk.t.toArray⟩ (tk.at_ : Int) W → Calls Try.prog 58 #[.pointer (some ⟨p, 0, none⟩), .slice A l.length cc, .string ⟨#[40]⟩, .string ⟨#[41]⟩] W fun e w3 => ∃ st2 l' A' cc', e = .returned (.slice A' l'.length cc') ∧ PFs ts 0 (openP ts { st with i := st.i + 1 } [40]) l (st2, l') ∧
      Mid B p g n c ts (upP (wantP ts st2 [41])) l' A' cc' A l cc W w3 ∧ (upP (wantP ts st2 [41])).deep = st.deep ∧ st.i + 1 ≤ (upP (wantP ts st2 [41])).i ∧ l'.length + (st.i + 1) + 1 ≤ l.length + (upP (wantP ts st2 [41])).i + e1P (upP (wantP ts st2 [41])) ∧ l'.length ≤ 1000000) := Lib.hid (fun W hU => inner_u hU h0 (by rw [e1P_0 h0]; show _ ≤ st.i + 1; omega) ⟨#[40]⟩ ⟨#[41]⟩ IHr)
  have hr2 : decide (0 < readT ⟨tk.t.toArray⟩) = true := decide_eq_true (by rw [readT_L]; exact hr)
  have hr3 : readTL tk.t = readT ⟨tk.t.toArray⟩ := (readT_L ⟨tk.t.toArray⟩).symm
  rw [hr3] at HR
  obtain ⟨rv, hrv⟩ : ∃ x, readT ⟨tk.t.toArray⟩ = x := ⟨_, rfl⟩
  have HRD := fun W => r_read_c ⟨tk.t.toArray⟩ W
  have HRE := HRD
  rw [hrv] at HRD HRE hr2 HR
  have HU : Hid (∀ W, Below w.heap.size w W → w.heap.size < W.heap.size → W.cell? ⟨w.heap.size, 0, none⟩ = some (.int .i64 3) → W.cell? ⟨w.heap.size, 1, none⟩ = some (.string ⟨tk.t.toArray⟩) → W.cell? ⟨w.heap.size, 2, none⟩ = some (.int .i64 (tk.at_ : Int)) → UIn B p g n c ts st A l cc w 3 ⟨tk.t.toArray⟩ (tk.at_ : Int) W) := Lib.hid (fun W hb hz a0 a1 a2 => ⟨h.below hb, Fr.of hb, hz, a0, a1, a2, fun k hk => (h.oe.ge hk).2, h.bw⟩)
  clear h h0 htk qI45 qI126 qI40 qT1 qT2 hk1 hk2 hk3 hr hr3 hrv IHr
  go_enter Try.func53, Try.ntmps53
  go_upto_region 3 with fail
  go_region
  go_upto_region 4 with fail
  refine at_world (fun W => UIn B p g n c ts st A l cc w 3 ⟨tk.t.toArray⟩ (tk.at_ : Int) W) ?_ ?_
  · exact HU.out _ (by repeat' (first | exact Below.refl _ _ | (refine Below.alloc ?_ ?_ _) | (refine Below.setCell ?_ ?_ _) | (refine Below.drew ?_) | (refine below_next ?_ ?_ (by assumption)) | omega | (simp; done) | (simp; omega))) (by first | (simp; done) | (simp; omega)) (by simp [go_sem]) (by simp [go_sem]) (by simp [go_sem])
  intro W0 U0
  have U := Lib.hid U0
  clear U0 HU
  have d0 := U.out.d0
  have d1 := U.out.d1
  have d2 := U.out.d2
  have k1 := U.out.pin.rd.c1
  have kf1 := U.out.pin.rd.fz 1
  go_upto_region 32 with (first | (go_at_call 17; refine (I45 _ U.out.pin.rd).mono ?_; rintro e w1 ⟨rfl, hb1⟩; have U := Lib.hid (U.out.below hb1); have d0 := U.out.d0; have d1 := U.out.d1; have d2 := U.out.d2; have k1 := U.out.pin.rd.c1; have kf1 := U.out.pin.rd.fz 1; clear hb1 I45) | (go_at_call 17; refine (I126 _ U.out.pin.rd).mono ?_; rintro e w1 ⟨rfl, hb1⟩; have U := Lib.hid (U.out.below hb1); have d0 := U.out.d0; have d1 := U.out.d1; have d2 := U.out.d2; have k1 := U.out.pin.rd.c1; have kf1 := U.out.pin.rd.fz 1; clear hb1 I126) | (go_at_call 17; refine (I40 _ U.out.pin.rd).mono ?_; rintro e w1 ⟨rfl, hb1⟩; have U := Lib.hid (U.out.below hb1); have d0 := U.out.d0; have d1 := U.out.d1; have d2 := U.out.d2; have k1 := U.out.pin.rd.c1; have kf1 := U.out.pin.rd.fz 1; clear hb1 I40) | (go_at_call 27; refine (T1 _ U.out.pin.rd).mono ?_; rintro e w1 ⟨rfl, hp1⟩; have U := Lib.hid (U.out.same hp1); have d0 := U.out.d0; have d1 := U.out.d1; have d2 := U.out.d2; have k1 := U.out.pin.rd.c1; have kf1 := U.out.pin.rd.fz 1; clear hp1 T1) | (go_at_call 27; refine (T2 _ U.out.pin.rd).mono ?_; rintro e w1 ⟨rfl, hp1⟩; have U := Lib.hid (U.out.same hp1); have d0 := U.out.d0; have d1 := U.out.d1; have d2 := U.out.d2; have k1 := U.out.pin.rd.c1; have kf1 := U.out.pin.rd.fz 1; clear hp1 T2) | (go_at_call 24; refine (HRD _).mono ?_; rintro e w1 ⟨rfl, hb1⟩; have U := Lib.hid (U.out.below hb1); have d0 := U.out.d0; have d1 := U.out.d1; have d2 := U.out.d2; have k1 := U.out.pin.rd.c1; have kf1 := U.out.pin.rd.fz 1; clear hb1 HRD) | (go_at_call 58; have U := Lib.hid (U.out.step (RdPost.step U.out.pin.rd hl1)); refine (HX.out _ U.out).mono ?_; rintro e w3 ⟨st2, l', A', cc', rfl, z1, z2, z3, z4, z5, z6⟩; obtain ⟨d0, d1, d2⟩ := Mid.box U.out z2; have el : IntKind.i64.wrap ((l'.length : Int) - 1) = (l'.length : Int) - 1 := IntWalk.i64_in _ (by omega); have M := Lib.hid z2; have Z1 := Lib.hid z1; have Z3 := Lib.hid z3; clear z1 z2 z3 HX))
  obtain ⟨i0, hi, hzz⟩ := Option.map_eq_some_iff.1 infoEx
  simp only [Prod.mk.injEq] at hzz
  have HInf := Lib.hid (And.intro hi hzz)
  clear hi hzz
  have D0 := Lib.hid d0
  clear d0
  go_region_law (first | (go_simp; go_at_call 24; refine (HRE _).mono ?_; rintro e w5 ⟨rfl, hb5⟩; have M5 := Lib.hid (M.out.below (((Below.refl w3.heap.size w3).drew).trans hb5)); obtain ⟨y0, y1, y2⟩ := Mid.box U.out M5.out; clear y0 y1; have hdl : w.heap.size < w5.heap.size := Nat.lt_of_lt_of_le U.out.sz M5.out.fr.size; have y2a : ∀ o, (w5.alloc o).cell? ⟨w.heap.size, 2, none⟩ = some (.int .i64 (tk.at_ : Int)) := fun o => (((Below.refl w5.heap.size w5).alloc (Nat.le_refl _) o).cell (p := ⟨w.heap.size, 2, none⟩) hdl).trans y2; clear hb5 hdl) | (refine step_append_lies (w5.alloc (.cells #[.int .i64 18, .int .i64 0, .int .i64 rv, .string ⟨#[]⟩, .int .i64 ((l'.length : Int) - 1), .int .i64 (-1), .int .i64 (tk.at_ : Int)] 73)) (by rfl) (.tmp 172) (.tmp 182) 60 (by rfl) B 73 i0 (.agg #[.int .i64 0, .int .i64 0, .int .i64 0, .string ByteArray.empty, .int .i64 0, .int .i64 0, .int .i64 0]) 7 64 Try.underlying60 HInf.out.1 HInf.out.2.1 HInf.out.2.2.1 HInf.out.2.2.2 rfl (by omega) (.slice A' l'.length cc') l'.length _ (by rfl) (ownT_below M5.out.oe ((Below.refl _ _).alloc (Nat.le_refl _) _)) ⟨w5.heap.size, 0, none⟩ 1 1 (exV ⟨18, 0, rv, [], (l'.length : Int) - 1, -1, tk.at_⟩) (by rfl) rfl (tok_bd w5 _ 73) (by intro u hu; simp only [exV, List.mem_cons, List.not_mem_nil, or_false] at hu; rcases hu with rfl | rfl | rfl | rfl | rfl | rfl | rfl <;> rfl) (by omega) (by unfold maxLen; omega) (by omega) (by have := MidB M5.out U.out; simp; omega) (w5.heap.size + 1) (by simp) ?_; intro g2 cap w4 hown hgrow hat hlt2; obtain ⟨A2, c2, hv, ho, hf, hk2⟩ := M5.out.oe.snoc (x := ⟨18, 0, rv, [], (l'.length : Int) - 1, -1, tk.at_⟩) (Below.refl _ _) hown hgrow (hat.elim (fun x => .inl x.symm) (fun x => .inr (by rw [x]; simp [Value.ownBlock]))); injection hv with v1 v2 v3; subst v1; subst v3; have HE := Lib.hid (And.intro v2 (And.intro ho (And.intro hf hk2))); clear hown hgrow hat hlt2 ho hf hk2 v2))
  all_goals go_wp2
  all_goals go_ret
  all_goals exact fin_node H.out H0.out U.out.fr M5.out (HR.out _ _ Z1.out) HE.out.2.1 HE.out.2.2.1 HE.out.2.2.2 HE.out.1 Z3.out (by omega) (by omega)
end Go.Proofs.Ytnnhdkchdjddkaa.C
