/- The value of any node of any side of a condition's text, its type, and what is undefined, where, by whatever the names have and had, is the document's: eval.Value and the reference's Value answer alike. For every text, row of numbers, result, type and place. -/
import Derived.Test.YtlhenpocaagbjaaGE
import Derived.Test.YtlhenpocaagbjaaGM
import Derived.Test.YtlhenpocaagbjaaRows
import Derived.WalkKit
import Derived.ProofKit
import Derived.OpenShut
import Derived.ShutString
import Derived.ChangeOld
import Derived.Below
import Derived.SizedLaws
namespace Go.Proofs.Ytlhenpocaagbjaa.C
open Go.RowKit
set_option linter.unusedSimpArgs false
set_option linter.unusedVariables false
theorem IntRow.rowc8 {w : World} {A : Option Addr} {n : Nat} {zs : List Int} (h : IntRow w .i64 A n zs) : RowC w A n (fun j => zs.getD j 0) :=
  ⟨by have := h.2.1; unfold maxLen at this; exact this, fun h0 => by obtain ⟨ad, e, _, hc⟩ := h.2.2.2 h0; exact ⟨ad, e, hc⟩⟩
/-- The binds of the names. -/
def nmBs : List Bd := [⟨⟨#[120]⟩, 5, 0, 0⟩, ⟨⟨#[121]⟩, 2, 0, 1⟩, ⟨⟨#[103, 48]⟩, 6, 0, 2⟩, ⟨⟨#[103, 97]⟩, 3, 4, 3⟩]
theorem names8_c (w : World) : Calls Try.prog 11 #[] w fun e w' => e = .returned (.slice (some ⟨w.heap.size, 0, none⟩) 4 4) ∧ BL w' w.heap.size nmBs ∧ Below w.heap.size w w' := by
  go_enter Try.func11, Try.ntmps11
  go_wp2
  go_ret
  refine ⟨rfl, ⟨by simp, fun j b hj => ?_⟩, (by repeat' (first | exact Below.refl _ _ | (refine Below.alloc ?_ ?_ _) | (refine Below.setCell ?_ ?_ _) | (refine Below.drew ?_) | (refine below_next ?_ ?_ (by assumption)) | omega | (simp; done) | (simp; omega)))⟩
  match j, hj with
  | 0, hj => obtain rfl : (⟨⟨#[120]⟩, 5, 0, 0⟩ : Bd) = b := by simpa [nmBs] using hj
             simp [go_sem]
  | 1, hj => obtain rfl : (⟨⟨#[121]⟩, 2, 0, 1⟩ : Bd) = b := by simpa [nmBs] using hj
             simp [go_sem]
  | 2, hj => obtain rfl : (⟨⟨#[103, 48]⟩, 6, 0, 2⟩ : Bd) = b := by simpa [nmBs] using hj
             simp [go_sem]
  | 3, hj => obtain rfl : (⟨⟨#[103, 97]⟩, 3, 4, 3⟩ : Bd) = b := by simpa [nmBs] using hj
             simp [go_sem]
  | n + 4, hj => simp [nmBs] at hj
/-- Two memories that answer alike. -/
def GetA (w : World) (fn : FuncId) (p : Nat) (get : Int → Int → Int) : Prop := ∀ w', Below w.heap.size w w' → ∀ id at' : Int, Calls Try.prog fn #[.pointer (some ⟨p, 0, none⟩), .int .i64 id, .int .i64 at'] w' fun e' w'' => ∃ b, e' = .returned (.tuple #[.int .i64 (get id at'), .bool b]) ∧ w' = w''
theorem GetA.below {w W : World} {fn : FuncId} {p : Nat} {get : Int → Int → Int} (h : GetA w fn p get) (hb : Below w.heap.size w W) : GetA W fn p get := fun w' hb2 => h w' (hb.trans (hb2.mono hb.size))
theorem TwP.gets {w : World} {B p1 p2 n : Nat} (h : TwP w B p1 p2 n) : ∃ get, GetA w 59 p1 get ∧ GetA w 36 p2 get := by
  obtain ⟨hB, ts, ln, f, L1, L2, ad1, ad2, cp1, cp2, hp⟩ := h
  refine ⟨fun id at' => if hasM n ln id at' = true then f id.toNat at'.toNat else 0, fun w' hb id at' => ?_, fun w' hb id at' => ?_⟩
  · have c := get_s B p1 n L1 ts ad1 ln cp1 f id at' w' (hp.below hb).a
    unfold getM at c
    refine c.mono ?_
    rintro e w'' ⟨he, hw⟩
    dsimp only
    by_cases hh : hasM n ln id at' = true
    · rw [if_pos hh] at he ⊢
      exact ⟨_, he, hw⟩
    · rw [if_neg hh] at he ⊢
      exact ⟨_, he, hw⟩
  · have c := rget_s B p2 n L2 ts ad2 ln cp2 f id at' w' (hp.below hb).b
    unfold getM at c
    refine c.mono ?_
    rintro e w'' ⟨he, hw⟩
    dsimp only
    by_cases hh : hasM n ln id at' = true
    · rw [if_pos hh] at he ⊢
      exact ⟨_, he, hw⟩
    · rw [if_neg hh] at he ⊢
      exact ⟨_, he, hw⟩
def nvOf (p g : Nat) : NV := ⟨some ⟨p, 0, none⟩, some ⟨g, 0, none⟩, 4, 4⟩
def envOf (get : Int → Int → Int) : Env0 := ⟨true, get, nmBs⟩
theorem nok_of {w : World} {p g : Nat} {get : Int → Int → Int} (h : GetA w 59 p get) (hb : BL w g nmBs) : NOK 59 w (nvOf p g) (envOf get) :=
  ⟨.inr ⟨g, 4, rfl, hb⟩, by show (4 : Nat) ≤ 100000; omega, .inr ⟨p, rfl, rfl, h⟩⟩
theorem rok_of {w : World} {p g : Nat} {get : Int → Int → Int} (h : GetA w 36 p get) (hb : BL w g nmBs) : ROK w (nvOf p g) (envOf get) :=
  ⟨⟨g, rfl, rfl, hb⟩, by show (4 : Nat) ≤ 100000; omega, rfl, p, rfl, h⟩
/-- The two environments. -/
structure Env2 (w W : World) (D1 D2 p1 p2 p3 p4 g1 g2 g3 g4 : Nat) (gn go : Int → Int → Int) (res t : Int) : Prop where
  hb : Below w.heap.size w W
  b1 : Bx6 W D1 (nvOf p1 g1) (nvOf p3 g2) res t
  b2 : Bx6 W D2 (nvOf p2 g3) (nvOf p4 g4) res t
  m1 : GetA W 59 p1 gn
  m2 : GetA W 36 p2 gn
  m3 : GetA W 59 p3 go
  m4 : GetA W 36 p4 go
  n1 : BL W g1 nmBs
  n2 : BL W g2 nmBs
  n3 : BL W g3 nmBs
  n4 : BL W g4 nmBs
theorem Env2.below {w W W' : World} {D1 D2 p1 p2 p3 p4 g1 g2 g3 g4 : Nat} {gn go : Int → Int → Int} {res t : Int} (h : Env2 w W D1 D2 p1 p2 p3 p4 g1 g2 g3 g4 gn go res t) (hb : Below W.heap.size W W') : Env2 w W' D1 D2 p1 p2 p3 p4 g1 g2 g3 g4 gn go res t :=
  ⟨below_next h.hb h.hb.size hb, h.b1.below hb, h.b2.below hb, h.m1.below hb, h.m2.below hb, h.m3.below hb, h.m4.below hb, h.n1.below hb, h.n2.below hb, h.n3.below hb, h.n4.below hb⟩
theorem gt_eta (g : Gt) : g = ⟨g.v, g.t, g.ub, g.at_⟩ := rfl
end Go.Proofs.Ytlhenpocaagbjaa.C

namespace Go.Proofs.Ytlhenpocaagbjaa.C
open Go.RowKit
set_option linter.unusedSimpArgs false
set_option linter.unusedVariables false
set_option maxRecDepth 100000 in
set_option maxHeartbeats 12800000 in
theorem evalAll_c (s : ByteArray) (A B : Option Addr) (n c1 m c2 : Nat) (now was : List Int) (result t at_ : Int) (w : World) (h1 : IntRow w .i64 A n now) (h2 : IntRow w .i64 B m was) :
    Calls Try.prog 3 #[.string s, .slice A n c1, .slice B m c2, .int .i64 result, .int .i64 t, .int .i64 at_] w fun e w' => e = .returned (.bool true) ∧ Below w.heap.size w w' := by
  have x1 := h1.rowc8.1
  have x2 := h2.rowc8.1
  have H := Lib.hid (And.intro h1.rowc8 h2.rowc8)
  clear h1 h2
  by_cases l1 : 400 < s.size
  · have q1 : (400 : Int) < (s.size : Int) := by omega
    have q2 : decide (400 < s.size) = true := decide_eq_true l1
    go_enter Try.func3, Try.ntmps3
    go_wp2_with (go_at_call 8; refine (awake8_c _).mono ?_; rintro e w' ⟨rfl, hb⟩)
    go_ret
    exact ⟨rfl, hb⟩
  have q1 : decide (400 < s.size) = false := decide_eq_false l1
  by_cases l2 : 20 < n
  · have q2 : decide (20 < n) = true := decide_eq_true l2
    go_enter Try.func3, Try.ntmps3
    go_wp2_with (go_at_call 8; refine (awake8_c _).mono ?_; rintro e w' ⟨rfl, hb⟩)
    go_ret
    exact ⟨rfl, hb⟩
  have q2 : decide (20 < n) = false := decide_eq_false l2
  by_cases l3 : 20 < m
  · have q3 : decide (20 < m) = true := decide_eq_true l3
    go_enter Try.func3, Try.ntmps3
    go_wp2_with (go_at_call 8; refine (awake8_c _).mono ?_; rintro e w' ⟨rfl, hb⟩)
    go_ret
    exact ⟨rfl, hb⟩
  have q3 : decide (20 < m) = false := decide_eq_false l3
  have hT1 := Int.tmod_lt_of_pos t (show (0 : Int) < 6 by decide)
  have hT0 : -6 < t.tmod 6 := by have := Int.tmod_lt_of_pos (-t) (show (0 : Int) < 6 by decide); rw [Int.neg_tmod] at this; omega
  obtain ⟨T1, hT⟩ : ∃ x, t.tmod 6 = x := ⟨_, rfl⟩
  rw [hT] at hT0 hT1
  have e1 : IntKind.i64.wrap (T1 + 6) = T1 + 6 := IntWalk.i64_in _ (by omega)
  obtain ⟨T2, hT2⟩ : ∃ x, (T1 + 6).tmod 6 = x := ⟨_, rfl⟩
  have hT3 := Int.tmod_lt_of_pos (T1 + 6) (show (0 : Int) < 6 by decide)
  have hT4 : 0 ≤ (T1 + 6).tmod 6 := Int.tmod_nonneg 6 (by omega)
  rw [hT2] at hT3 hT4
  obtain ⟨TT, hTT⟩ : ∃ x, 1 + T2 = x := ⟨_, rfl⟩
  have e2 : IntKind.i64.wrap (1 + T2) = TT := by rw [IntWalk.i64_in _ (by omega)]; exact hTT
  have e3 : IntKind.i64.wrap T1 = T1 := IntWalk.i64_in _ (by omega)
  have e4 : IntKind.i64.wrap T2 = T2 := IntWalk.i64_in _ (by omega)
  have HTT := Lib.hid hTT
  clear hTT
  have HNO := nodes_c s w (by omega)
  go_enter Try.func3, Try.ntmps3
  go_upto_region 4 with (go_at_call 9; refine HNO.mono ?_; rintro e w0 ⟨x, ax, cx, hx, rfl, hE, hb0⟩; have HX := Lib.hid (And.intro hx (And.intro hE hb0)); have HLN := hx.len; have HBO1 := both_c A n c1 _ w0 (H.out.1.below hb0); clear hx hE hb0 HNO)
  go_upto_region 5 with (go_at_call 10; refine HBO1.mono ?_; rintro e w1 ⟨p1, p2, rfl, hb1, ht1⟩; have hb1' := below_next HX.out.2.2 HX.out.2.2.size hb1; have HBO2 := both_c B m c2 _ w1 (H.out.2.below hb1'); have HB1 := Lib.hid (And.intro hb1' (And.intro hb1 ht1.gets)); clear hb1 hb1' ht1 HBO1)
  go_upto_region 8 with (go_at_call 10; refine HBO2.mono ?_; rintro e w2 ⟨p3, p4, rfl, hb2, ht2⟩; have HB2 := Lib.hid (And.intro (below_next HB1.out.1 HB1.out.1.size hb2) (And.intro hb2 ht2.gets)); clear hb2 ht2 HBO2)
  obtain ⟨gn, hgn1, hgn2⟩ := HB1.out.2.2
  obtain ⟨go, hgo1, hgo2⟩ := HB2.out.2.2
  have HM : Hid (Below w.heap.size w w2 ∧ ER w2 ax x ∧ GetA w2 59 p1 gn ∧ GetA w2 36 p2 gn ∧ GetA w2 59 p3 go ∧ GetA w2 36 p4 go) := Lib.hid ⟨HB2.out.1, (HX.out.2.1.below HB1.out.2.1).below HB2.out.2.1, hgn1.below HB2.out.2.1, hgn2.below HB2.out.2.1, hgo1, hgo2⟩
  have HK := Lib.hid HX.out.1.kids
  clear hgn1 hgn2 hgo1 hgo2 HB1 HB2 HX H
  have NM : ∀ W, Calls Try.prog 11 #[] W fun e w' => ∃ g, e = .returned (.slice (some ⟨g, 0, none⟩) 4 4) ∧ BL w' g nmBs ∧ Below W.heap.size W w' := fun W => (names8_c W).mono (fun e w' hh => ⟨_, hh.1, hh.2.1, hh.2.2⟩)
  go_upto_region 9 with (first | (go_at_call 11; refine (NM w2).mono ?_; rintro e w3 ⟨g1, rfl, hg1, hb3⟩; have G1 := Lib.hid (And.intro hg1 hb3); clear hg1 hb3) | (go_at_call 11; refine (NM w3).mono ?_; rintro e w4 ⟨g2, rfl, hg2, hb4⟩; have G2 := Lib.hid (And.intro hg2 hb4); clear hg2 hb4))
  refine at_world (fun W => Below w4.heap.size w4 W ∧ Bx6 W w4.heap.size (nvOf p1 g1) (nvOf p3 g2) result TT) ⟨(by repeat' (first | exact Below.refl _ _ | (refine Below.alloc ?_ ?_ _) | (refine Below.setCell ?_ ?_ _) | (refine Below.drew ?_) | (refine below_next ?_ ?_ (by assumption)) | omega | (simp; done) | (simp; omega))), ⟨by first | (simp; done) | (simp; omega), by simp [go_sem, nvOf], by simp [go_sem, nvOf], by simp [go_sem, nvOf], by simp [go_sem, nvOf], by simp [go_sem, nvOf], by simp [go_sem, nvOf]⟩⟩ ?_
  rintro W5 ⟨hb5, B5⟩
  obtain ⟨D1, hD1⟩ : ∃ x, w4.heap.size = x := ⟨_, rfl⟩
  simp only [hD1] at hb5 B5 ⊢
  have F5 := Lib.hid (And.intro hb5 B5)
  have HD1 := Lib.hid hD1
  clear hb5 B5 hD1
  go_upto_region 10 with (first | (go_at_call 11; refine (NM W5).mono ?_; rintro e w6 ⟨g3, rfl, hg3, hb6⟩; have G3 := Lib.hid (And.intro hg3 hb6); clear hg3 hb6) | (go_at_call 11; refine (NM w6).mono ?_; rintro e w7 ⟨g4, rfl, hg4, hb7⟩; have G4 := Lib.hid (And.intro hg4 hb7); clear hg4 hb7))
  refine at_world (fun W => Below w7.heap.size w7 W ∧ Bx6 W w7.heap.size (nvOf p2 g3) (nvOf p4 g4) result TT) ⟨(by repeat' (first | exact Below.refl _ _ | (refine Below.alloc ?_ ?_ _) | (refine Below.setCell ?_ ?_ _) | (refine Below.drew ?_) | (refine below_next ?_ ?_ (by assumption)) | omega | (simp; done) | (simp; omega))), ⟨by first | (simp; done) | (simp; omega), by simp [go_sem, nvOf], by simp [go_sem, nvOf], by simp [go_sem, nvOf], by simp [go_sem, nvOf], by simp [go_sem, nvOf], by simp [go_sem, nvOf]⟩⟩ ?_
  rintro W8 ⟨hb8, B8⟩
  have HE2 : Hid (Env2 w W8 D1 w7.heap.size p1 p2 p3 p4 g1 g2 g3 g4 gn go result TT ∧ ER W8 ax x) := Lib.hid (by
    have a3 := G1.out.2
    have a4 := G2.out.2
    have a5 := F5.out.1
    rw [← HD1.out] at a5
    have a6 := G3.out.2
    have a7 := G4.out.2
    have c7 : Below w7.heap.size w7 W8 := hb8
    have d6 : Below w6.heap.size w6 W8 := below_next a7 a7.size c7
    have d5 : Below W5.heap.size W5 W8 := below_next a6 a6.size d6
    have d4 : Below w4.heap.size w4 W8 := below_next a5 a5.size d5
    have d3 : Below w3.heap.size w3 W8 := below_next a4 a4.size d4
    have d2 : Below w2.heap.size w2 W8 := below_next a3 a3.size d3
    obtain ⟨m0, mE, m1, m2, m3, m4⟩ := HM.out
    exact ⟨⟨below_next m0 m0.size d2, F5.out.2.below d5, B8, m1.below d2, m2.below d2, m3.below d2, m4.below d2, G1.out.1.below d3, G2.out.1.below d4, G3.out.1.below d6, G4.out.1.below c7⟩, mE.below d2⟩)
  obtain ⟨D2, hD2⟩ : ∃ x, w7.heap.size = x := ⟨_, rfl⟩
  simp only [hD2] at HE2 ⊢
  clear hD2 B8 hb8 F5 HD1 G1 G2 G3 G4 HM NM
  obtain ⟨N, hN⟩ : ∃ k, x.length = k := ⟨_, rfl⟩
  have VC : ∀ W, Env2 w W D1 D2 p1 p2 p3 p4 g1 g2 g3 g4 gn go result TT ∧ ER W ax x → ∀ i : Int, ∀ gv gt gu ga, vF x (envOf go) result TT x.length (envOf gn) i = ⟨gv, gt, gu, ga⟩ → Calls Try.prog 12 #[.slice ax N cx, .int .i64 i, .agg #[.pointer (some ⟨p1, 0, none⟩), .slice (some ⟨g1, 0, none⟩) 4 4, .pointer (some ⟨p3, 0, none⟩), .slice (some ⟨g2, 0, none⟩) 4 4, .int .i64 result, .int .i64 TT]] W fun e w' => e = .returned (.tuple #[.int .i64 gv, .int .i64 gt, .int .i64 gu, .int .i64 ga]) ∧ Below W.heap.size W w' := fun W h i gv gt gu ga hg => by
    have := value_c x HK.out ax cx (nvOf p1 g1) (nvOf p3 g2) (envOf gn) (envOf go) result TT i W h.2 (nok_of h.1.m1 h.1.n1) (nok_of h.1.m3 h.1.n2)
    rw [hg, hN] at this
    exact this
  have RC : ∀ W, Env2 w W D1 D2 p1 p2 p3 p4 g1 g2 g3 g4 gn go result TT ∧ ER W ax x → ∀ i : Int, ∀ gv gt gu ga, vF x (envOf go) result TT x.length (envOf gn) i = ⟨gv, gt, gu, ga⟩ → Calls Try.prog 13 #[.slice ax N cx, .int .i64 i, .agg #[.pointer (some ⟨p2, 0, none⟩), .slice (some ⟨g3, 0, none⟩) 4 4, .pointer (some ⟨p4, 0, none⟩), .slice (some ⟨g4, 0, none⟩) 4 4, .int .i64 result, .int .i64 TT]] W fun e w' => e = .returned (.tuple #[.int .i64 gv, .int .i64 gt, .int .i64 gu, .int .i64 ga]) ∧ Below W.heap.size W w' := fun W h i gv gt gu ga hg => by
    have := rValue_c x HK.out ax cx (nvOf p2 g3) (nvOf p4 g4) (envOf gn) (envOf go) result TT i W h.2 (rok_of h.1.m2 h.1.n3) (rok_of h.1.m4 h.1.n4)
    rw [hg, hN] at this
    exact this
  have VC := Lib.hid VC
  have RC := Lib.hid RC
  have hN2 : N ≤ 300000 := by have := HLN; omega
  simp only [hN]
  go_wp2_with fail
  go_loopw [22] (fun i wr => ∃ k : Nat, k ≤ N + 2 ∧ i = .int .i64 ((k : Int) - 1) ∧ Hid (Env2 w wr D1 D2 p1 p2 p3 p4 g1 g2 g3 g4 gn go result TT ∧ ER wr ax x)) (fun i _ => N + 2 - (intOf i + 1).toNat)
  case atStart => exact ⟨0, by omega, rfl, HE2⟩
  case round =>
    clear HE2
    obtain ⟨k, hk, rfl, HI⟩ := hrel
    obtain ⟨wo, rfl⟩ : ∃ wo : World, wo = wr := ⟨_, rfl⟩
    by_cases hlt : k ≤ N + 1
    · have c1 : (k : Int) - 1 ≤ (N : Int) := by omega
      have ek : IntKind.i64.wrap ((k : Int) - 1 + 1) = (k : Int) := by rw [IntWalk.i64_in _ (by omega)]; omega
      obtain ⟨⟨gv, gt, gu, ga⟩, hg⟩ : ∃ g, vF x (envOf go) result TT x.length (envOf gn) ((k : Int) - 1) = g := ⟨_, rfl⟩
      have V1 := VC.out wo HI.out _ _ _ _ _ hg
      have HG := Lib.hid hg
      clear hg
      have e0' : wo.cell? ⟨D1, 0, none⟩ = some (.pointer (some ⟨p1, 0, none⟩)) := HI.out.1.b1.c0
      have e1' : wo.cell? ⟨D1, 1, none⟩ = some (.slice (some ⟨g1, 0, none⟩) 4 4) := HI.out.1.b1.c1
      have e2' : wo.cell? ⟨D1, 2, none⟩ = some (.pointer (some ⟨p3, 0, none⟩)) := HI.out.1.b1.c2
      have e3' : wo.cell? ⟨D1, 3, none⟩ = some (.slice (some ⟨g2, 0, none⟩) 4 4) := HI.out.1.b1.c3
      have e4' : wo.cell? ⟨D1, 4, none⟩ = some (.int .i64 result) := HI.out.1.b1.c4
      have e5' : wo.cell? ⟨D1, 5, none⟩ = some (.int .i64 TT) := HI.out.1.b1.c5
      have f0' : wo.cell? ⟨D2, 0, none⟩ = some (.pointer (some ⟨p2, 0, none⟩)) := HI.out.1.b2.c0
      have f1' : wo.cell? ⟨D2, 1, none⟩ = some (.slice (some ⟨g3, 0, none⟩) 4 4) := HI.out.1.b2.c1
      have f2' : wo.cell? ⟨D2, 2, none⟩ = some (.pointer (some ⟨p4, 0, none⟩)) := HI.out.1.b2.c2
      have f3' : wo.cell? ⟨D2, 3, none⟩ = some (.slice (some ⟨g4, 0, none⟩) 4 4) := HI.out.1.b2.c3
      have f4' : wo.cell? ⟨D2, 4, none⟩ = some (.int .i64 result) := HI.out.1.b2.c4
      have f5' : wo.cell? ⟨D2, 5, none⟩ = some (.int .i64 TT) := HI.out.1.b2.c5
      go_wp2_with (first | (go_at_call 12; refine V1.mono ?_; rintro e w9 ⟨rfl, hb9⟩; have HI := Lib.hid (And.intro (HI.out.1.below hb9) (HI.out.2.below hb9)); have R1 := RC.out w9 HI.out _ _ _ _ _ HG.out; have e0' : w9.cell? ⟨D1, 0, none⟩ = some (.pointer (some ⟨p1, 0, none⟩)) := HI.out.1.b1.c0; have e1' : w9.cell? ⟨D1, 1, none⟩ = some (.slice (some ⟨g1, 0, none⟩) 4 4) := HI.out.1.b1.c1; have e2' : w9.cell? ⟨D1, 2, none⟩ = some (.pointer (some ⟨p3, 0, none⟩)) := HI.out.1.b1.c2; have e3' : w9.cell? ⟨D1, 3, none⟩ = some (.slice (some ⟨g2, 0, none⟩) 4 4) := HI.out.1.b1.c3; have e4' : w9.cell? ⟨D1, 4, none⟩ = some (.int .i64 result) := HI.out.1.b1.c4; have e5' : w9.cell? ⟨D1, 5, none⟩ = some (.int .i64 TT) := HI.out.1.b1.c5; have f0' : w9.cell? ⟨D2, 0, none⟩ = some (.pointer (some ⟨p2, 0, none⟩)) := HI.out.1.b2.c0; have f1' : w9.cell? ⟨D2, 1, none⟩ = some (.slice (some ⟨g3, 0, none⟩) 4 4) := HI.out.1.b2.c1; have f2' : w9.cell? ⟨D2, 2, none⟩ = some (.pointer (some ⟨p4, 0, none⟩)) := HI.out.1.b2.c2; have f3' : w9.cell? ⟨D2, 3, none⟩ = some (.slice (some ⟨g4, 0, none⟩) 4 4) := HI.out.1.b2.c3; have f4' : w9.cell? ⟨D2, 4, none⟩ = some (.int .i64 result) := HI.out.1.b2.c4; have f5' : w9.cell? ⟨D2, 5, none⟩ = some (.int .i64 TT) := HI.out.1.b2.c5; clear hb9 V1) | (go_at_call 13; refine R1.mono ?_; rintro e wa ⟨rfl, hba⟩; have HI := Lib.hid (And.intro (HI.out.1.below hba) (HI.out.2.below hba)); clear hba R1))
      exact ⟨⟨k + 1, by omega, by first | rfl | go_num | (congr 1; omega), HI⟩, by simp [intOf]; omega⟩
    · have c1 : ¬ (k : Int) - 1 ≤ (N : Int) := by omega
      have c2 : decide ((k : Int) - 1 ≤ (N : Int)) = false := decide_eq_false c1
      obtain ⟨⟨gv, gt, gu, ga⟩, hg⟩ : ∃ g, vF x (envOf go) result TT x.length (envOf gn) at_ = g := ⟨_, rfl⟩
      have V1 := VC.out wo HI.out _ _ _ _ _ hg
      have HG := Lib.hid hg
      clear hg
      have e0' : wo.cell? ⟨D1, 0, none⟩ = some (.pointer (some ⟨p1, 0, none⟩)) := HI.out.1.b1.c0
      have e1' : wo.cell? ⟨D1, 1, none⟩ = some (.slice (some ⟨g1, 0, none⟩) 4 4) := HI.out.1.b1.c1
      have e2' : wo.cell? ⟨D1, 2, none⟩ = some (.pointer (some ⟨p3, 0, none⟩)) := HI.out.1.b1.c2
      have e3' : wo.cell? ⟨D1, 3, none⟩ = some (.slice (some ⟨g2, 0, none⟩) 4 4) := HI.out.1.b1.c3
      have e4' : wo.cell? ⟨D1, 4, none⟩ = some (.int .i64 result) := HI.out.1.b1.c4
      have e5' : wo.cell? ⟨D1, 5, none⟩ = some (.int .i64 TT) := HI.out.1.b1.c5
      have f0' : wo.cell? ⟨D2, 0, none⟩ = some (.pointer (some ⟨p2, 0, none⟩)) := HI.out.1.b2.c0
      have f1' : wo.cell? ⟨D2, 1, none⟩ = some (.slice (some ⟨g3, 0, none⟩) 4 4) := HI.out.1.b2.c1
      have f2' : wo.cell? ⟨D2, 2, none⟩ = some (.pointer (some ⟨p4, 0, none⟩)) := HI.out.1.b2.c2
      have f3' : wo.cell? ⟨D2, 3, none⟩ = some (.slice (some ⟨g4, 0, none⟩) 4 4) := HI.out.1.b2.c3
      have f4' : wo.cell? ⟨D2, 4, none⟩ = some (.int .i64 result) := HI.out.1.b2.c4
      have f5' : wo.cell? ⟨D2, 5, none⟩ = some (.int .i64 TT) := HI.out.1.b2.c5
      go_wp2_with (first | (go_at_call 12; refine V1.mono ?_; rintro e w9 ⟨rfl, hb9⟩; have HI := Lib.hid (And.intro (HI.out.1.below hb9) (HI.out.2.below hb9)); have R1 := RC.out w9 HI.out _ _ _ _ _ HG.out; have e0' : w9.cell? ⟨D1, 0, none⟩ = some (.pointer (some ⟨p1, 0, none⟩)) := HI.out.1.b1.c0; have e1' : w9.cell? ⟨D1, 1, none⟩ = some (.slice (some ⟨g1, 0, none⟩) 4 4) := HI.out.1.b1.c1; have e2' : w9.cell? ⟨D1, 2, none⟩ = some (.pointer (some ⟨p3, 0, none⟩)) := HI.out.1.b1.c2; have e3' : w9.cell? ⟨D1, 3, none⟩ = some (.slice (some ⟨g2, 0, none⟩) 4 4) := HI.out.1.b1.c3; have e4' : w9.cell? ⟨D1, 4, none⟩ = some (.int .i64 result) := HI.out.1.b1.c4; have e5' : w9.cell? ⟨D1, 5, none⟩ = some (.int .i64 TT) := HI.out.1.b1.c5; have f0' : w9.cell? ⟨D2, 0, none⟩ = some (.pointer (some ⟨p2, 0, none⟩)) := HI.out.1.b2.c0; have f1' : w9.cell? ⟨D2, 1, none⟩ = some (.slice (some ⟨g3, 0, none⟩) 4 4) := HI.out.1.b2.c1; have f2' : w9.cell? ⟨D2, 2, none⟩ = some (.pointer (some ⟨p4, 0, none⟩)) := HI.out.1.b2.c2; have f3' : w9.cell? ⟨D2, 3, none⟩ = some (.slice (some ⟨g4, 0, none⟩) 4 4) := HI.out.1.b2.c3; have f4' : w9.cell? ⟨D2, 4, none⟩ = some (.int .i64 result) := HI.out.1.b2.c4; have f5' : w9.cell? ⟨D2, 5, none⟩ = some (.int .i64 TT) := HI.out.1.b2.c5; clear hb9 V1) | (go_at_call 13; refine R1.mono ?_; rintro e wa ⟨rfl, hba⟩; have HI := Lib.hid (And.intro (HI.out.1.below hba) (HI.out.2.below hba)); clear hba R1) | (go_at_call 8; refine (awake8_c _).mono ?_; rintro e wb ⟨rfl, hbb⟩; have HFIN := Lib.hid (below_next HI.out.1.hb HI.out.1.hb.size hbb); clear hbb))
      go_ret
      exact ⟨rfl, HFIN.out⟩
end Go.Proofs.Ytlhenpocaagbjaa.C

namespace Go.Proofs.Ytlhenpocaagbjaa.evalAll
open Go.ChangeShapes Go.WideShapes Go.ChangeAt Go.RowKit
open Go.ChangeMaps (open_string shut_string)
set_option linter.unusedVariables false
set_option linter.unusedSimpArgs false
theorem own : ownKnob Try.prog.godebug = none := by kernel_rfl
theorem laidOut : laidOutB Try.prog = true := by kernel_rfl
set_option maxRecDepth 100000 in
theorem lifted (os : Os) (started : os.Started) (H : Type) (enc : TypeId × Value → H) :
    ReturnsInHanded {} Try.checked os 3 .any (Rows.evalAllSpec.pre6 enc Try.prog Try.f3 Rows.evalAllRow.domain false) (Rows.evalAllSpec.post enc Try.prog Try.f3 false true false false) := by
  refine returnsInHanded_of_change_sized (C := Try.checked) own started (by kernel_rfl) Try.func3
    (ChangeSpec.witness6 (enc := enc) (C := Try.checked) false ⟨#[], #[.string ByteArray.empty, .slice none 0 0, .slice none 0 0, .int .i64 0, .int .i64 0, .int .i64 0], []⟩ 8 (by kernel_rfl) (by kernel_rfl) (by kernel_rfl) (by kernel_rfl)) ?_
  intro W base args ds gs before hval0 hW hcnd hsz0 _
  have hsz : (DataW.weightsEach Try.prog (Try.f3.params.toList ++ Rows.evalAllSpec.plain.varTypes Try.prog) (ds ++ gs)).all (· ≤ reachBytes) = true := hsz0
  have hval : ∀ (j : Nat) t v, Try.f3.params[j]? = some t → args[j]? = some v → Value.okWide Try.prog W .any base t v := hval0
  have hW' := hW
  obtain ⟨p, q, hA0, hV, rfl, hfz, hnd⟩ := hW
  have hA : DataW.TrodAll enc Try.prog W 0 (fun _ => true) true Try.f3.params.toList args.toList ds p := hA0
  rw [Try.params3] at hA hval hsz
  obtain ⟨v0, vs0, d0, ds0, p0, q0, hargs, rfl, rfl, h0, r0⟩ := trodAll_cons hA
  obtain ⟨v1, vs1, d1, ds1, p1, q1, rfl, rfl, rfl, h1, r1⟩ := trodAll_cons r0
  obtain ⟨v2, vs2, d2, ds2, p2, q2, rfl, rfl, rfl, h2, r2⟩ := trodAll_cons r1
  obtain ⟨v3, vs3, d3, ds3, p3, q3, rfl, rfl, rfl, h3, r3⟩ := trodAll_cons r2
  obtain ⟨v4, vs4, d4, ds4, p4, q4, rfl, rfl, rfl, h4, r4⟩ := trodAll_cons r3
  obtain ⟨v5, vs5, d5, ds5, p5, q5, rfl, rfl, rfl, h5, r5⟩ := trodAll_cons r4
  obtain ⟨rfl, rfl, rfl⟩ := trodAll_nil r5
  obtain rfl : args = #[v0, v1, v2, v3, v4, v5] := by cases args; simp_all
  obtain ⟨rfl, rfl⟩ := trodVars_none hV
  obtain ⟨a0, rfl, rfl, rfl, y0⟩ := open_string Try.underlying9 (hval 0 9 v0 rfl rfl) h0
  have w0 : a0.size ≤ 140737488351232 := by
    have z := sized_string hsz (j := 0) (t := 9) rfl rfl
    rw [Array.length_toList] at z
    exact z
  obtain ⟨a1, len1, cap1, rfl⟩ := okWide_slice Try.underlying22 (hval 1 22 v1 rfl rfl)
  have k1 := h1
  have lt1 : ∀ x ∈ p1, x.block < W.heap.size := by obtain ⟨m, hm⟩ := k1; exact DataW.trod_lt m _ _ _ hm
  obtain ⟨z1, w1⟩ := C.open_row Try.underlying22 Try.underlying3 (by kernel_rfl) h1
  obtain ⟨a2, len2, cap2, rfl⟩ := okWide_slice Try.underlying22 (hval 2 22 v2 rfl rfl)
  have k2 := h2
  have lt2 : ∀ x ∈ p2, x.block < W.heap.size := by obtain ⟨m, hm⟩ := k2; exact DataW.trod_lt m _ _ _ hm
  obtain ⟨z2, w2⟩ := C.open_row Try.underlying22 Try.underlying3 (by kernel_rfl) h2
  obtain ⟨a3, rfl, rfl, rfl, w3⟩ := open_int Try.underlying3 (hval 3 3 v3 rfl rfl) h3
  obtain ⟨a4, rfl, rfl, rfl, w4⟩ := open_int Try.underlying3 (hval 4 3 v4 rfl rfl) h4
  obtain ⟨a5, rfl, rfl, rfl, w5⟩ := open_int Try.underlying3 (hval 5 3 v5 rfl rfl) h5
  clear hA0 hval0 hsz0 hsz
  refine (C.evalAll_c a0 a1 a2 len1 cap1 len2 cap2 z1 z2 a3 a4 a5 W w1 w2).mono fun e W' ⟨he, bel⟩ => ?_
  subst he
  exact ⟨_, rfl, _, _, _, [], _, [], hW', trodAll_mk1 (shut_bool Try.underlying4 _), (trodAll_cons_mk (shut_string Try.underlying9 y0) (trodAll_cons_mk (Below.trod laidOut (by kernel_rfl) (of_decide_eq_true (by kernel_rfl)) k1 bel lt1) (trodAll_cons_mk (Below.trod laidOut (by kernel_rfl) (of_decide_eq_true (by kernel_rfl)) k2 bel lt2) (trodAll_cons_mk (shut_int Try.underlying3 w3) (trodAll_cons_mk (shut_int Try.underlying3 w4) (trodAll_cons_mk (shut_int Try.underlying3 w5) trodAll_mk0)))))), rfl, bel.frame _, fun h => by cases h⟩
theorem over : Rows.evalAllRow.holds Try.pinned (OpenSpec.ofChange Rows.evalAllSpec) :=
  OpenClaim.holds_of_wide 3 Try.f3 rfl rfl rfl rfl rfl rfl rfl ⟨rfl, rfl, rfl, rfl, rfl⟩ rfl rfl rfl rfl rfl (by kernel_rfl) Try.func3 (by kernel_rfl)
    (of_decide_eq_true (by kernel_rfl)) (by unfold Func.isWrapper; first | (rw [if_pos (by decide +kernel)]; kernel_rfl) | (rw [if_neg (by decide +kernel)]; exact ⟨rfl, rfl⟩))
    (fun os started H enc _ => lifted os started H enc)
theorem proved : Rows.EvalAllSaid := over
#print axioms proved
end Go.Proofs.Ytlhenpocaagbjaa.evalAll
namespace Go.Proofs.Ytlhenpocaagbjaa
/-- The row, under a short name, for the claim. -/
theorem evalAll_holds : Rows.EvalAllSaid := evalAll.proved
end Go.Proofs.Ytlhenpocaagbjaa

