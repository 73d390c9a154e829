/- The reference's unary, its cases: walks (printed by gen_paru2.py). -/
import Derived.Test.YtnnhdkchdjddkaaParU
namespace Go.Proofs.Ytnnhdkchdjddkaa.C
open Go.RowKit
set_option linter.unusedSimpArgs false
set_option linter.unusedVariables false
theorem MidDeep {B p g n c : Nat} {ts : List Tok} {st : Rd} {A : Option Addr} {l : List Ex} {cc : Nat} {w : World} {kk : Int} {TX : ByteArray} {aa : Int} {W w3 : World} {st' : Rd} {l' : List Ex} {A' : Option Addr} {cc' : Nat} (hM : Mid B p g n c ts st' l' A' cc' A l cc W w3) (h : UIn B p g n c ts st A l cc w kk TX aa W) {d : Int} (hd : st'.deep = d + 1) : Mid B p g n c ts (upP st') l' A' cc' A l cc W (w3.setCell ⟨p, 2, none⟩ (.int .i64 d)) := by
  have hp := RdPost.deep hM.rd d
  have e : ({ st' with deep := d } : Rd) = upP st' := by unfold upP; rw [hd]; simp
  rw [e] at hp
  refine ⟨hp.1, hM.oe.fr hp.2 (fun k hk x => by have := (hM.oe.ge hk).1; have := h.pin.pB; omega), hM.fr.trans hp.2 (fun _ _ x => .inl x), hM.bk⟩
set_option maxRecDepth 100000 in
set_option maxHeartbeats 6400000 in
theorem u_err {B p g n c : Nat} {ts : List Tok} {st : Rd} {A : Option Addr} {l : List Ex} {cc : Nat} {w : World} (h : PIn B p g n c ts st A l cc w) (h0 : st.e ≠ 0) :
    Calls Try.prog 53 #[.pointer (some ⟨p, 0, none⟩), .slice A l.length cc] w (POut B p g n c ts (PFs ts 4 st l) st A l cc w) := by
  have c3 := h.rd.c3
  have g0 : (st.e == 0) = false := by rw [beq_eq_false_iff_ne]; exact h0
  have HP : Hid (POut B p g n c ts (PFs ts 4 st l) st A l cc w (.returned (.slice A l.length cc)) w) := Lib.hid ⟨st, l, A, cc, ⟨1, by rw [pF, if_neg (by omega), if_neg (by omega), if_pos h0]⟩, rfl, h.rd, h.oe, Fr.of (Below.refl _ _), fun _ x => .inl x, rfl, Nat.le_refl _, by omega, fun _ => ⟨rfl, rfl⟩⟩
  clear h h0
  go_enter Try.func53, Try.ntmps53
  go_wp2
  go_ret
  exact HP.out
set_option maxRecDepth 100000 in
set_option maxHeartbeats 6400000 in
theorem u_minus {B p g n c : Nat} {ts : List Tok} {st : Rd} {A : Option Addr} {l : List Ex} {cc : Nat} {w : World} (h : PIn B p g n c ts st A l cc w) (h0 : st.e = 0) (m : UInt8) (hm : m = 45 ∨ m = 126) (hk : (tkP ts st.i).t = [m]) (hq : isP ts st [m] = true) (hq2 : m = 126 → isP ts st [45] = false)
    (IHu : ∀ st1 W, st.i + e1P st < st1.i + e1P st1 → PIn B p g n c ts st1 A l cc W → Calls Try.prog 53 #[.pointer (some ⟨p, 0, none⟩), .slice A l.length cc] W (POut B p g n c ts (PFs ts 4 st1 l) st1 A l cc W)) :
    Calls Try.prog 53 #[.pointer (some ⟨p, 0, none⟩), .slice A l.length cc] w (POut B p g n c ts (PFs ts 4 st l) st A l cc w) := by
  have H := Lib.hid h
  have c0 := h.rd.c0
  have c1 := h.rd.c1
  have c3 := h.rd.c3
  rw [h0] at c3
  obtain ⟨t0, t1, t2⟩ := h.rd.toks _ _ h.rd.tok
  have hi0 : (0 : Int) ≤ (st.i : Int) := by omega
  have hi1 : (st.i : Int) < (n : Int) := by have := h.rd.hi; omega
  have hi2 : st.i < n := h.rd.hi
  have hlt := h.rd.lt
  have hglt := h.rd.glt
  have hlt2 : p ≠ w.heap.size := by omega
  have hlt3 : g ≠ w.heap.size := by omega
  have e1 : IntKind.i64.wrap ((st.i : Int) + 1) = (st.i : Int) + 1 := IntWalk.i64_in _ (by have := h.rd.hb; omega)
  have ed2 : IntKind.i64.wrap st.deep = st.deep := IntWalk.i64_in _ (by have := h.d0; have := h.d1; have := h.rd.hb; rw [e1P_0 h0] at *; omega)
  have ed3 : wrap64 st.deep = st.deep := IntWalk.wrap64_in _ (by have := h.d0; have := h.d1; have := h.rd.hb; rw [e1P_0 h0] at *; omega)
  have ed1 : IntKind.i64.wrap (st.deep + 1 - 1) = st.deep := by rw [IntWalk.i64_in _ (by have := h.d0; have := h.d1; have := h.rd.hb; rw [e1P_0 h0] at *; omega)]; omega
  rw [hk] at t1
  obtain ⟨K, hK⟩ : ∃ K, (tkP ts st.i).k = K := ⟨_, rfl⟩
  rw [hK] at t0
  have HO : ∀ W, RdAt p g n c ts st W → Calls Try.prog 37 #[.pointer (some ⟨p, 0, none⟩), .string ⟨#[m]⟩] W fun e w' => (∃ v, e = .returned v) ∧ RdPost p g n c ts (openP ts st [m]) W w' := fun W hW => rd_open_c hW h.hE (by have := h.d0; have := h.d1; have := h.rd.hb; rw [e1P_0 h0] at *; omega) ⟨#[m]⟩
  obtain ⟨a1, a2⟩ := openP_facts ts st [m] h0
  have HR : Hid (∀ st2 l', PFs ts 4 (openP ts st [m]) l (st2, l') → PFs ts 4 st l (upP st2, l' ++ [nodeP (if m = 126 then 7 else 6) ((l'.length : Int) - 1) (-1) (tkP ts st.i).at_])) := Lib.hid (fun st2 l' ⟨f, hf⟩ => ⟨f + 1, by
    rw [pF4 ts f st l h0]
    simp only
    rw [if_pos (by rcases hm with rfl | rfl; exact .inl hq; exact .inr hq), hk, hf]
    simp [Option.bind]⟩)
  have HU : Hid (∀ W, Below w.heap.size w W → w.heap.size < W.heap.size → W.cell? ⟨w.heap.size, 0, none⟩ = some (.int .i64 K) → W.cell? ⟨w.heap.size, 1, none⟩ = some (.string ⟨#[m]⟩) → W.cell? ⟨w.heap.size, 2, none⟩ = some (.int .i64 ((tkP ts st.i).at_ : Int)) → UIn B p g n c ts st A l cc w K ⟨#[m]⟩ ((tkP ts st.i).at_ : Int) W) := Lib.hid (fun W hb hz a0 a1 a2 => ⟨h.below hb, Fr.of hb, hz, a0, a1, a2, fun k hk => (h.oe.ge hk).2, h.bw⟩)
  have HI := Lib.hid IHu
  have HA1 := Lib.hid a1
  have HA2 := Lib.hid a2
  have H0 := Lib.hid h0
  have HOP : Hid (∀ W W1, UIn B p g n c ts st A l cc w K ⟨#[m]⟩ ((tkP ts st.i).at_ : Int) W → RdPost p g n c ts (openP ts st [m]) W W1 → UIn B p g n c ts (openP ts st [m]) A l cc w K ⟨#[m]⟩ ((tkP ts st.i).at_ : Int) W1 ∧ st.i + 1 = (openP ts st [m]).i + e1P (openP ts st [m])) := Lib.hid (fun W W1 hU hp => ⟨hU.fr2 (S := fun _ => False) (hU.pin.opened h0 [m] hp).1 hp.2, (hU.pin.opened h0 [m] hp).2⟩)
  obtain ⟨s1, hs1⟩ : ∃ s1, openP ts st [m] = s1 := ⟨_, rfl⟩
  rw [hs1] at HO HR HOP HA1 HA2
  have HX : Hid (∀ W, UIn B p g n c ts s1 A l cc w K ⟨#[m]⟩ ((tkP ts st.i).at_ : Int) W → st.i + 1 = s1.i + e1P s1 → Calls Try.prog 53 #[.pointer (some ⟨p, 0, none⟩), .slice A l.length cc] W fun e w3 => ∃ st2 l' A' cc', e = .returned (.slice A' l'.length cc') ∧ PFs ts 4 s1 l (st2, l') ∧ Mid B p g n c ts st2 l' A' cc' A l cc W w3 ∧ st2.deep = st.deep + 1 ∧ st.i ≤ st2.i ∧ l'.length + st.i + 1 ≤ l.length + st2.i + e1P st2 ∧ l'.length ≤ 1000000) := Lib.hid (fun W hU hsum => (HI.out s1 W (by rw [e1P_0 H0.out]; omega) hU.pin).mono (by
    rintro e w3 ⟨st2, l', A', cc', z1, rfl, z2, z3, z4, z5, z6, z7, z8, z9⟩
    have hlen := hU.pin.ll
    have hrn := z2.hi
    have hrb := z2.hb
    have he1 : e1P st2 ≤ 1 := by unfold e1P; split <;> omega
    have hsi : st.i ≤ s1.i := by rcases HA2.out with ⟨x, _⟩ | ⟨x, _⟩ <;> omega
    refine ⟨st2, l', A', cc', rfl, z1, ⟨z2, z3, z4, z5⟩, by rw [z6, HA1.out], by omega, ?_, by omega⟩
    rcases HA2.out with ⟨x, y⟩ | ⟨x, y⟩
    · rw [e1P_0 y] at hsum; omega
    · obtain ⟨y1, y2⟩ := z9 y
      rw [y1, y2]
      omega))
  have HFin : Hid (∀ W w3 w4 st2 l' A' cc' A2 c2 n2, UIn B p g n c ts s1 A l cc w K ⟨#[m]⟩ ((tkP ts st.i).at_ : Int) W → Mid B p g n c ts (upP st2) l' A' cc' A l cc W w3 → PFs ts 4 s1 l (st2, l') → st2.deep = st.deep + 1 → st.i ≤ st2.i → l'.length + st.i + 1 ≤ l.length + st2.i + e1P st2 → n2 = (l' ++ [nodeP (if m = 126 then 7 else 6) ((l'.length : Int) - 1) (-1) (tkP ts st.i).at_]).length → OE w4 B A2 (l' ++ [nodeP (if m = 126 then 7 else 6) ((l'.length : Int) - 1) (-1) (tkP ts st.i).at_]) c2 → Fr (Blk A' l'.length cc') w3 w4 → (∀ k, Blk A2 (l' ++ [nodeP (if m = 126 then 7 else 6) ((l'.length : Int) - 1) (-1) (tkP ts st.i).at_]).length c2 k → Blk A' l'.length cc' k ∨ w3.heap.size ≤ k) → POut B p g n c ts (PFs ts 4 st l) st A l cc w (.returned (.slice A2 n2 c2)) w4) := Lib.hid (fun W w3 w4 st2 l' A' cc' A2 c2 n2 hU hM hp x1 x2 x3 hn ho hf hk2 => fin_node H.out H0.out hU.fr hM (HR.out _ _ hp) ho hf hk2 hn (by show st2.deep - 1 = st.deep; omega) x2 x3)
  have hs1' := hs1
  clear h h0 hK hk a1 a2 IHu hs1 hs1' H HR HI
  rcases hm with rfl | rfl
  · have qI45 := hq
    have I45 : ∀ W, RdAt p g n c ts st W → Calls Try.prog 17 #[.pointer (some ⟨p, 0, none⟩), .string ⟨#[45]⟩] W fun e w' => e = .returned (.bool true) ∧ Below W.heap.size W w' := fun W hW => (rd_is_c hW ⟨#[45]⟩).mono (fun e w' hh => ⟨by rw [hh.1]; exact congrArg (fun b => Ending.returned (.bool b)) qI45, hh.2⟩)
    clear hq hq2 qI45
    go_enter Try.func53, Try.ntmps53
    go_upto_region 3 with fail
    go_region
    go_upto_region 4 with fail
    refine at_world (fun W => UIn B p g n c ts st A l cc w K ⟨#[45]⟩ ((tkP ts st.i).at_ : Int) W) ?_ ?_
    · exact HU.out _ (by repeat' (first | exact Below.refl _ _ | (refine Below.alloc ?_ ?_ _) | (refine Below.setCell ?_ ?_ _) | (refine Below.drew ?_) | (refine below_next ?_ ?_ (by assumption)) | omega | (simp; done) | (simp; omega))) (by first | (simp; done) | (simp; omega)) (by simp [go_sem]) (by simp [go_sem]) (by simp [go_sem])
    intro W0 U0
    have U := Lib.hid U0
    have d0 := U0.d0
    have d1 := U0.d1
    have d2 := U0.d2
    clear U0 HU
    go_wp2_with (first | (go_at_call 17; refine (I45 _ U.out.pin.rd).mono ?_; rintro e w1 ⟨rfl, hb1⟩; have U := Lib.hid (U.out.below hb1); have d0 := U.out.d0; have d1 := U.out.d1; have d2 := U.out.d2; clear hb1 I45) | (go_at_call 37; refine (HO _ U.out.pin.rd).mono ?_; rintro e w1 ⟨⟨v1, rfl⟩, hp1⟩; have UU := HOP.out _ _ U.out hp1; have U := Lib.hid UU.1; have HX2 := HX.out _ UU.1 UU.2; clear hp1 UU HO HOP HX) | (go_at_call 53; refine HX2.mono ?_; rintro e w3 ⟨st2, l', A', cc', rfl, z1, z2, z3, z4, z5, z6⟩; obtain ⟨d0, d1, d2⟩ := Mid.box U.out z2; have k2 := z2.rd.c2; have kf := z2.rd.fz 2; rw [z3] at k2; have M3 : Mid B p g n c ts (upP st2) l' A' cc' A l cc _ (w3.setCell ⟨p, 2, none⟩ (.int .i64 st.deep)) := MidDeep z2 U.out z3; have M := Lib.hid M3; have el : IntKind.i64.wrap ((l'.length : Int) - 1) = (l'.length : Int) - 1 := IntWalk.i64_in _ (by omega); have Z1 := Lib.hid z1; have Z3 := Lib.hid z3; clear z1 z2 z3 M3 HX2) | (at_builtin; refine wpList_append_ex (by rfl) _ _ rfl (nodeP 6 ((l'.length : Int) - 1) (-1) (tkP ts st.i).at_) (by rfl) (by rfl) M.out.oe (MidB M.out U.out) (by rfl) (by simp) z6 ?_; intro A2 c2 n2 w4 hn ho hf hk2; have HE := Lib.hid (And.intro hn (And.intro ho (And.intro hf hk2))); clear hn ho hf hk2))
    go_ret
    exact HFin.out _ _ _ _ _ _ _ _ _ _ U.out M.out Z1.out Z3.out z4 z5 HE.out.1 HE.out.2.1 HE.out.2.2.1 HE.out.2.2.2
  · have qI45 := hq2 rfl
    have qI126 := hq
    have I45 : ∀ W, RdAt p g n c ts st W → Calls Try.prog 17 #[.pointer (some ⟨p, 0, none⟩), .string ⟨#[45]⟩] W fun e w' => e = .returned (.bool false) ∧ Below W.heap.size W w' := fun W hW => (rd_is_c hW ⟨#[45]⟩).mono (fun e w' hh => ⟨by rw [hh.1]; exact congrArg (fun b => Ending.returned (.bool b)) qI45, hh.2⟩)
    have I126 : ∀ W, RdAt p g n c ts st W → Calls Try.prog 17 #[.pointer (some ⟨p, 0, none⟩), .string ⟨#[126]⟩] W fun e w' => e = .returned (.bool true) ∧ Below W.heap.size W w' := fun W hW => (rd_is_c hW ⟨#[126]⟩).mono (fun e w' hh => ⟨by rw [hh.1]; exact congrArg (fun b => Ending.returned (.bool b)) qI126, hh.2⟩)
    clear hq hq2 qI45 qI126
    go_enter Try.func53, Try.ntmps53
    go_upto_region 3 with fail
    go_region
    go_upto_region 4 with fail
    refine at_world (fun W => UIn B p g n c ts st A l cc w K ⟨#[126]⟩ ((tkP ts st.i).at_ : Int) W) ?_ ?_
    · exact HU.out _ (by repeat' (first | exact Below.refl _ _ | (refine Below.alloc ?_ ?_ _) | (refine Below.setCell ?_ ?_ _) | (refine Below.drew ?_) | (refine below_next ?_ ?_ (by assumption)) | omega | (simp; done) | (simp; omega))) (by first | (simp; done) | (simp; omega)) (by simp [go_sem]) (by simp [go_sem]) (by simp [go_sem])
    intro W0 U0
    have U := Lib.hid U0
    have d0 := U0.d0
    have d1 := U0.d1
    have d2 := U0.d2
    clear U0 HU
    go_wp2_with (first | (go_at_call 17; refine (I45 _ U.out.pin.rd).mono ?_; rintro e w1 ⟨rfl, hb1⟩; have U := Lib.hid (U.out.below hb1); have d0 := U.out.d0; have d1 := U.out.d1; have d2 := U.out.d2; clear hb1 I45) | (go_at_call 17; refine (I126 _ U.out.pin.rd).mono ?_; rintro e w1 ⟨rfl, hb1⟩; have U := Lib.hid (U.out.below hb1); have d0 := U.out.d0; have d1 := U.out.d1; have d2 := U.out.d2; clear hb1 I126) | (go_at_call 37; refine (HO _ U.out.pin.rd).mono ?_; rintro e w1 ⟨⟨v1, rfl⟩, hp1⟩; have UU := HOP.out _ _ U.out hp1; have U := Lib.hid UU.1; have HX2 := HX.out _ UU.1 UU.2; clear hp1 UU HO HOP HX) | (go_at_call 53; refine HX2.mono ?_; rintro e w3 ⟨st2, l', A', cc', rfl, z1, z2, z3, z4, z5, z6⟩; obtain ⟨d0, d1, d2⟩ := Mid.box U.out z2; have k2 := z2.rd.c2; have kf := z2.rd.fz 2; rw [z3] at k2; have M3 : Mid B p g n c ts (upP st2) l' A' cc' A l cc _ (w3.setCell ⟨p, 2, none⟩ (.int .i64 st.deep)) := MidDeep z2 U.out z3; have M := Lib.hid M3; have el : IntKind.i64.wrap ((l'.length : Int) - 1) = (l'.length : Int) - 1 := IntWalk.i64_in _ (by omega); have Z1 := Lib.hid z1; have Z3 := Lib.hid z3; clear z1 z2 z3 M3 HX2) | (at_builtin; refine wpList_append_ex (by rfl) _ _ rfl (nodeP 7 ((l'.length : Int) - 1) (-1) (tkP ts st.i).at_) (by rfl) (by rfl) M.out.oe (MidB M.out U.out) (by rfl) (by simp) z6 ?_; intro A2 c2 n2 w4 hn ho hf hk2; have HE := Lib.hid (And.intro hn (And.intro ho (And.intro hf hk2))); clear hn ho hf hk2))
    go_ret
    exact HFin.out _ _ _ _ _ _ _ _ _ _ U.out M.out Z1.out Z3.out z4 z5 HE.out.1 HE.out.2.1 HE.out.2.2.1 HE.out.2.2.2
end Go.Proofs.Ytnnhdkchdjddkaa.C
