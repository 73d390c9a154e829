/- Clauses are looked at in order; the first that does not hold is the last that is told: for every row of yes and no calliperlaw9.WatchStops answers true. No condition. -/
import Derived.Test.YtnnhdkchdjddkaaEvD
import Derived.Test.YtnnhdkchdjddkaaEvV
import Derived.Laws.OwnMore
import Derived.Laws.AppendOwn
import Derived.Maps.AppendAt
import Derived.Deep.Onto
import Derived.OwnWalk
import Derived.WalkMore
import Derived.WalkKit
import Derived.ProofKit
import Derived.ChangeOld
import Derived.Deep.Grids
import Derived.Below
import Derived.BigQuiet
import Derived.Deep.QuietTactic
import Derived.WalkSmall
import Derived.RowKit
import Derived.Test.YtnnhdkchdjddkaaRows
import Derived.OpenShut
import Derived.ShutString
import Derived.SizedLaws
namespace Go.Proofs.Ytnnhdkchdjddkaa.C
open Go.RowKit
set_option linter.unusedSimpArgs false
set_option linter.unusedVariables false
set_option maxRecDepth 100000 in
set_option maxHeartbeats 6400000 in
theorem nd_out (v o : NV) (res t at_ : Int) (A : Option Addr) (len cc : Nat) (w : World) (h : at_ < 0 ∨ (len : Int) ≤ at_) :
    Calls Try.prog 20 #[.slice A len cc, .int .i64 at_, envA v o res t] w fun e' w' => e' = .returned (gtV ⟨0, 5, 0, 0⟩) ∧ Below w.heap.size w w' := by
  unfold envA
  rcases (by omega : at_ < 0 ∨ (0 ≤ at_ ∧ (len : Int) ≤ at_)) with h1 | ⟨h1, h2⟩
  · clear h
    go_enter Try.func20, Try.ntmps20
    go_upto_region 1 with fail
    refine at_world (fun W => Below w.heap.size w W ∧ Bx4 W (w.heap.size + 1) ⟨0, 0, 0, 0⟩) ⟨(by repeat' (first | exact Below.refl _ _ | (refine Below.alloc ?_ ?_ _) | (refine Below.setCell ?_ ?_ _) | (refine Below.drew ?_) | (refine below_next ?_ ?_ (by assumption)) | omega | (simp; done) | (simp; omega))), ⟨by first | (simp; done) | (simp; omega), by simp [go_sem], by simp [go_sem], by simp [go_sem], by simp [go_sem], by simp [go_sem], by simp [go_sem], by simp [go_sem], by simp [go_sem]⟩⟩ ?_
    rintro W0 ⟨hb0, R4⟩
    have r0 := (R4).c0; have r1 := (R4).c1; have r2 := (R4).c2; have r3 := (R4).c3; have rf0 := (R4).f0; have rf1 := (R4).f1; have rf2 := (R4).f2; have rf3 := (R4).f3
    go_wp2_with fail
    exact bodyPost_ret (v := gtV ⟨0, 5, 0, 0⟩) (by simp [results, Try.results20, go_sem, r0, r1, r2, r3, rf0, rf1, rf2, rf3, gtV]) rfl ⟨rfl, set4 hb0 (by omega) _ _ _ _⟩
  · have g0 : decide (at_ < 0) = false := decide_eq_false (by omega)
    clear h
    go_enter Try.func20, Try.ntmps20
    go_upto_region 1 with fail
    refine at_world (fun W => Below w.heap.size w W ∧ Bx4 W (w.heap.size + 1) ⟨0, 0, 0, 0⟩) ⟨(by repeat' (first | exact Below.refl _ _ | (refine Below.alloc ?_ ?_ _) | (refine Below.setCell ?_ ?_ _) | (refine Below.drew ?_) | (refine below_next ?_ ?_ (by assumption)) | omega | (simp; done) | (simp; omega))), ⟨by first | (simp; done) | (simp; omega), by simp [go_sem], by simp [go_sem], by simp [go_sem], by simp [go_sem], by simp [go_sem], by simp [go_sem], by simp [go_sem], by simp [go_sem]⟩⟩ ?_
    rintro W0 ⟨hb0, R4⟩
    have r0 := (R4).c0; have r1 := (R4).c1; have r2 := (R4).c2; have r3 := (R4).c3; have rf0 := (R4).f0; have rf1 := (R4).f1; have rf2 := (R4).f2; have rf3 := (R4).f3
    go_wp2_with fail
    exact bodyPost_ret (v := gtV ⟨0, 5, 0, 0⟩) (by simp [results, Try.results20, go_sem, r0, r1, r2, r3, rf0, rf1, rf2, rf3, gtV]) rfl ⟨rfl, set4 hb0 (by omega) _ _ _ _⟩
theorem node_c (l : List Ex) (hK : Kids l) (A : Option Addr) (cc : Nat) (o : NV) (eo : Env0) (res t : Int) : ∀ (f : Nat) (at_ : Int) (v : NV) (e : Env0) (w : World), (at_ < (f : Int) ∨ (l.length : Int) ≤ at_) → ER w A l → NOK 41 w v e → NOK 41 w o eo →
    Calls Try.prog 20 #[.slice A l.length cc, .int .i64 at_, envA v o res t] w fun e' w' => e' = .returned (gtV (vF l eo res t f e at_)) ∧ Below w.heap.size w w' := by
  intro f
  induction f with
  | zero =>
    intro at_ v e w hat hE hv ho
    exact nd_out v o res t at_ A l.length cc w (by omega)
  | succ f ih =>
    intro at_ v e w hat hE hv ho
    by_cases hout : at_ < 0 ∨ (l.length : Int) ≤ at_
    · rw [vF, if_pos hout]
      exact nd_out v o res t at_ A l.length cc w hout
    · obtain ⟨j, rfl⟩ := Int.eq_ofNat_of_zero_le (show 0 ≤ at_ by omega)
      have hj : j < l.length := by omega
      have hne : l ≠ [] := by intro x; rw [x] at hj; simp at hj
      obtain ⟨g, rfl, hg⟩ := hE hne
      obtain ⟨n, hn⟩ : ∃ n, l.getD j ex0 = n := ⟨_, rfl⟩
      have hget : l[j]? = some n := by rw [← hn]; simp [List.getD, hj]
      have hB := hg j n hget
      obtain ⟨⟨ka, kb⟩, ka1, kb1⟩ := hK j n hget
      rw [vF, if_neg hout]
      simp only [Int.toNat_natCast, hn]
      have IA : ∀ W, Below w.heap.size w W → Calls Try.prog 20 #[.slice (some ⟨g, 0, none⟩) l.length cc, .int .i64 n.a, envA v o res t] W fun e' w' => e' = .returned (gtV (vF l eo res t f e n.a)) ∧ Below W.heap.size W w' := fun W hb => ih n.a v e W (by omega) (hE.below hb) (hv.below hb) (ho.below hb)
      have IB : ∀ W, Below w.heap.size w W → Calls Try.prog 20 #[.slice (some ⟨g, 0, none⟩) l.length cc, .int .i64 n.b, envA v o res t] W fun e' w' => e' = .returned (gtV (vF l eo res t f e n.b)) ∧ Below W.heap.size W w' := fun W hb => ih n.b v e W (by omega) (hE.below hb) (hv.below hb) (ho.below hb)
      obtain ⟨a, ha⟩ : ∃ a, vF l eo res t f e n.a = a := ⟨_, rfl⟩
      obtain ⟨b, hb⟩ : ∃ b, vF l eo res t f e n.b = b := ⟨_, rfl⟩
      rw [ha] at IA ⊢
      rw [hb] at IB ⊢
      have IAW : ∀ W, Below w.heap.size w W → ∀ W', Below W.heap.size W W' → Calls Try.prog 20 #[.slice (some ⟨g, 0, none⟩) l.length cc, .int .i64 n.a, envA v o res t] W' fun e' w' => e' = .returned (gtV a) ∧ Below W'.heap.size W' w' := fun W hb W' hb' => IA W' (below_next hb hb.size hb')
      by_cases h1 : n.k = 1
      · rw [if_pos h1]
        exact nd_num n v o res t g l.length cc j w hj hB h1
      rw [if_neg h1]
      by_cases h2 : n.k = 2
      · rw [if_pos h2]
        exact nd_var n v o res t g l.length cc j w hj hB h2 _ (fun W hb => name_c n v o res t 0 e W (hv.below hb))
      rw [if_neg h2]
      by_cases h5 : n.k = 5
      · rw [if_pos h5]
        exact nd_res n v o res t g l.length cc j w hj hB h5
      rw [if_neg h5]
      by_cases h4 : n.k = 4
      · rw [if_pos h4]
        exact nd_old n v o res t g l.length cc j w hj hB h4 _ (fun W hb => ih n.a o eo W (by omega) (hE.below hb) (ho.below hb) (ho.below hb))
      rw [if_neg h4]
      by_cases h3 : n.k = 3
      · rw [if_pos h3]
        refine nd_one3 n v o res t g l.length cc j w hj hB h3 _ (fun W hb => ?_)
        by_cases hu : a.ub = 0
        · exact one_elem n v o res t e _ _ _ a W (hv.below hb) h3 hu (IAW W hb)
        · exact one_elem2 n v o res t e _ _ _ a W (hv.below hb) h3 hu (IAW W hb)
      rw [if_neg h3]
      by_cases h18 : n.k = 18
      · rw [if_pos h18]
        refine nd_one18 n v o res t g l.length cc j w hj hB h18 _ (fun W hb => ?_)
        by_cases hu : a.ub = 0
        · exact one_cast n v o res t e _ _ _ a W (hv.below hb) h18 hu (IAW W hb)
        · exact one_cast2 n v o res t e _ _ _ a W (hv.below hb) h18 hu (IAW W hb)
      rw [if_neg h18]
      by_cases h67 : n.k = 6 ∨ n.k = 7
      · rw [if_pos h67]
        have key : ∀ W, Below w.heap.size w W → Calls Try.prog 29 #[.slice (some ⟨g, 0, none⟩) l.length cc, exA n, envA v o res t] W fun e' w' => e' = .returned (gtV (unP n a)) ∧ Below W.heap.size W w' := fun W hb => by
          by_cases hu : a.ub = 0
          · exact one_un n v o res t e _ _ _ a W (hv.below hb) h67 hu (IAW W hb)
          · exact one_un2 n v o res t e _ _ _ a W (hv.below hb) h67 hu (IAW W hb)
        rcases h67 with h6 | h7
        · exact nd_one6 n v o res t g l.length cc j w hj hB h6 _ key
        · exact nd_one7 n v o res t g l.length cc j w hj hB h7 _ key
      rw [if_neg h67]
      by_cases hr : n.k < 8 ∨ 17 < n.k
      · rw [if_pos hr]
        exact nd_none n v o res t g l.length cc j w hj hB h1 h2 h5 h4 h3 (fun x => h67 (.inl x)) (fun x => h67 (.inr x)) h18 hr
      rw [if_neg hr]
      unfold binP
      by_cases hu : a.ub = 0
      · rw [if_pos hu]
        by_cases hv2 : b.ub = 0
        · rw [if_pos hv2]
          exact nd_bin3 n v o res t g l.length cc j w hj hB (by omega) (by omega) a b _ hu hv2 (fun W => etwo_c n a b W) IA IB
        · rw [if_neg hv2]
          exact nd_bin2 n v o res t g l.length cc j w hj hB (by omega) (by omega) a b hu hv2 IA IB
      · rw [if_neg hu]
        exact nd_bin1 n v o res t g l.length cc j w hj hB (by omega) (by omega) a b hu IA IB
/-- What Value answers. -/
def gtT (g : Gt) : Value := .tuple #[.int .i64 g.v, .int .i64 g.t, .int .i64 g.ub, .int .i64 g.at_]
end Go.Proofs.Ytnnhdkchdjddkaa.C

namespace Go.Proofs.Ytnnhdkchdjddkaa.C
open Go.RowKit
set_option linter.unusedSimpArgs false
set_option linter.unusedVariables false
end Go.Proofs.Ytnnhdkchdjddkaa.C

namespace Go.Proofs.Ytnnhdkchdjddkaa.C
open Go.RowKit
set_option linter.unusedSimpArgs false
set_option linter.unusedVariables false
theorem Bx4.set {W : World} {D : Nat} {g : Gt} (h : Bx4 W D g) (g' : Gt) : Bx4 ((((W.setCell ⟨D, 0, none⟩ (.int .i64 g'.v)).setCell ⟨D, 1, none⟩ (.int .i64 g'.t)).setCell ⟨D, 2, none⟩ (.int .i64 g'.ub)).setCell ⟨D, 3, none⟩ (.int .i64 g'.at_)) D g' := by
  have h0 := h.c0
  have h1 := h.c1
  have h2 := h.c2
  have h3 := h.c3
  have f0 := h.f0
  have f1 := h.f1
  have f2 := h.f2
  have f3 := h.f3
  have hl := h.lt
  constructor <;> simp [go_sem, *]
theorem Bx4.setV {W : World} {D : Nat} {g : Gt} (h : Bx4 W D g) (v : Int) : Bx4 (W.setCell ⟨D, 0, none⟩ (.int .i64 v)) D ⟨v, g.t, g.ub, g.at_⟩ := by
  have h0 := h.c0
  have h1 := h.c1
  have h2 := h.c2
  have h3 := h.c3
  have f0 := h.f0
  have f1 := h.f1
  have f2 := h.f2
  have f3 := h.f3
  have hl := h.lt
  constructor <;> simp [go_sem, *]
theorem OnI.sets {w W : World} {n : Ex} {v o : NV} {res t : Int} {D3 D4 : Nat} {a d : Gt} (h : OnI w W n v o res t D3 D4 a d) (q : Addr) (hq : q.block = D4) (u : Value) (d' : Gt) (hd : Bx4 (W.setCell q u) D4 d') : OnI w (W.setCell q u) n v o res t D3 D4 a d' := by
  have h3 := h.h3
  have h4 := h.h4
  exact ⟨h.hb.setCell (by omega) _, h.b7.other (by omega) _, h.b6.other (by omega) _, h.r4.other (by omega) _, h.a4.other (by omega) _, hd, h.h3, h.h4⟩
theorem OnI.set {w W : World} {n : Ex} {v o : NV} {res t : Int} {D3 D4 : Nat} {a d : Gt} (h : OnI w W n v o res t D3 D4 a d) (g' : Gt) : OnI w ((((W.setCell ⟨D4, 0, none⟩ (.int .i64 g'.v)).setCell ⟨D4, 1, none⟩ (.int .i64 g'.t)).setCell ⟨D4, 2, none⟩ (.int .i64 g'.ub)).setCell ⟨D4, 3, none⟩ (.int .i64 g'.at_)) n v o res t D3 D4 a g' := by
  have h3 := h.h3
  have h4 := h.h4
  refine ⟨(((h.hb.setCell (p := ⟨D4, 0, none⟩) (by show _ ≤ D4; omega) _).setCell (p := ⟨D4, 1, none⟩) (by show _ ≤ D4; omega) _).setCell (p := ⟨D4, 2, none⟩) (by show _ ≤ D4; omega) _).setCell (p := ⟨D4, 3, none⟩) (by show _ ≤ D4; omega) _, ?_, ?_, ?_, ?_, h.d4.set g', h.h3, h.h4⟩
  · exact (((h.b7.other (by show D4 ≠ _; omega) _).other (by show D4 ≠ _; omega) _).other (by show D4 ≠ _; omega) _).other (by show D4 ≠ _; omega) _
  · exact (((h.b6.other (by show D4 ≠ _; omega) _).other (by show D4 ≠ _; omega) _).other (by show D4 ≠ _; omega) _).other (by show D4 ≠ _; omega) _
  · exact (((h.r4.other (by show D4 ≠ _; omega) _).other (by show D4 ≠ _; omega) _).other (by show D4 ≠ _; omega) _).other (by show D4 ≠ _; omega) _
  · exact (((h.a4.other (by show D4 ≠ _; omega) _).other (by show D4 ≠ _; omega) _).other (by show D4 ≠ _; omega) _).other (by show D4 ≠ _; omega) _
theorem OnI.setV {w W : World} {n : Ex} {v o : NV} {res t : Int} {D3 D4 : Nat} {a d : Gt} (h : OnI w W n v o res t D3 D4 a d) (u : Int) : OnI w (W.setCell ⟨D4, 0, none⟩ (.int .i64 u)) n v o res t D3 D4 a ⟨u, d.t, d.ub, d.at_⟩ := h.sets ⟨D4, 0, none⟩ rfl _ _ (h.d4.setV u)
end Go.Proofs.Ytnnhdkchdjddkaa.C

namespace Go.Proofs.Ytnnhdkchdjddkaa.C
open Go.RowKit
set_option linter.unusedSimpArgs false
set_option linter.unusedVariables false
theorem mixT_un (k a b : Int) (h : k = 6 ∨ k = 7) (b' : Int) : mixT k a b = mixT k a b' := by
  unfold mixT
  rw [if_pos (by omega), if_pos (by omega)]
end Go.Proofs.Ytnnhdkchdjddkaa.C

namespace Go.Proofs.Ytnnhdkchdjddkaa.C
open Go.RowKit
set_option linter.unusedSimpArgs false
set_option linter.unusedVariables false
theorem xsC_at : ∀ (l : List Cv) (j : Nat) (x : Cv), l[j]? = some x → ∀ i v, (cdV x)[i]? = some v → (xsC l)[j * 7 + i]? = some v
  | [], j, x, h => by simp at h
  | u :: r, 0, x, h => by
    have : u = x := by simpa using h
    subst this
    intro i v hi
    have hl : i < (cdV u).length := (List.getElem?_eq_some_iff.1 hi).1
    rw [show xsC (u :: r) = cdV u ++ xsC r by simp [xsC], Nat.zero_mul, Nat.zero_add, List.getElem?_append_left hl]
    exact hi
  | u :: r, j + 1, x, h => by
    intro i v hi
    have ih := xsC_at r j x (by simpa using h) i v hi
    have hl : (cdV u).length = 7 := rfl
    rw [show xsC (u :: r) = cdV u ++ xsC r by simp [xsC], List.getElem?_append_right (by omega), hl, show (j + 1) * 7 + i - 7 = j * 7 + i by omega]
    exact ih
/-- A condition's node in memory. -/
structure BxC (W : World) (D o : Nat) (x : Cv) : Prop where
  lt : D < W.heap.size
  c0 : W.cell? ⟨D, o, none⟩ = some (.int .i64 x.c.k)
  c1 : W.cell? ⟨D, o + 1, none⟩ = some (.int .i64 x.c.rel)
  c2 : W.cell? ⟨D, o + 2, none⟩ = some (.slice x.ax x.c.x.length x.cx)
  c3 : W.cell? ⟨D, o + 3, none⟩ = some (.slice x.ay x.c.y.length x.cy)
  c4 : W.cell? ⟨D, o + 4, none⟩ = some (.int .i64 x.c.a)
  c5 : W.cell? ⟨D, o + 5, none⟩ = some (.int .i64 x.c.b)
  c6 : W.cell? ⟨D, o + 6, none⟩ = some (.int .i64 x.c.at_)
theorem BxC.below {W W' : World} {D o : Nat} {x : Cv} (h : BxC W D o x) (hb : Below W.heap.size W W') : BxC W' D o x :=
  ⟨Nat.lt_of_lt_of_le h.lt hb.size, (hb.cell (p := ⟨D, o, none⟩) h.lt).trans h.c0, (hb.cell (p := ⟨D, o + 1, none⟩) h.lt).trans h.c1, (hb.cell (p := ⟨D, o + 2, none⟩) h.lt).trans h.c2, (hb.cell (p := ⟨D, o + 3, none⟩) h.lt).trans h.c3, (hb.cell (p := ⟨D, o + 4, none⟩) h.lt).trans h.c4, (hb.cell (p := ⟨D, o + 5, none⟩) h.lt).trans h.c5, (hb.cell (p := ⟨D, o + 6, none⟩) h.lt).trans h.c6⟩
/-- A row of conditions' nodes that is read. -/
def CRd (w : World) (A : Option Addr) (l : List Cv) : Prop := l ≠ [] → ∃ g, A = some ⟨g, 0, none⟩ ∧ ∀ j x, l[j]? = some x → BxC w g (j * 7) x ∧ ER w x.ax x.c.x ∧ ER w x.ay x.c.y
theorem CRd.below {w w' : World} {A : Option Addr} {l : List Cv} (h : CRd w A l) (hb : Below w.heap.size w w') : CRd w' A l := fun hne => by
  obtain ⟨g, e, hc⟩ := h hne
  exact ⟨g, e, fun j x hj => ⟨(hc j x hj).1.below hb, (hc j x hj).2.1.below hb, (hc j x hj).2.2.below hb⟩⟩
theorem OC.rd {w : World} {B : Nat} {A : Option Addr} {l : List Cv} {c : Nat} (h : OC w B A l c) : CRd w A l := by
  intro hne
  have hh := h.own
  have hl : 0 < l.length := List.length_pos_iff.2 hne
  rcases h.own.2 with ⟨_, h2⟩ | ⟨g, cap, cur, e, hg, hc, hl2, hm, _⟩
  · omega
  · injection e with e1 e2 e3
    subst e1
    refine ⟨g, rfl, fun j x hj => ⟨?_, (h.ex x (List.mem_of_getElem? hj)).1.er, (h.ex x (List.mem_of_getElem? hj)).2.er⟩⟩
    have hjl : j < l.length := (List.getElem?_eq_some_iff.1 hj).1
    have key := xsC_at l j x hj
    refine ⟨(Array.getElem?_eq_some_iff.1 hc).1, ?_, ?_, ?_, ?_, ?_, ?_, ?_⟩
    · rw [hh.cellAt _ (by omega)]; exact key 0 _ rfl
    · rw [hh.cellAt _ (by omega)]; exact key 1 _ rfl
    · rw [hh.cellAt _ (by omega)]; exact key 2 _ rfl
    · rw [hh.cellAt _ (by omega)]; exact key 3 _ rfl
    · rw [hh.cellAt _ (by omega)]; exact key 4 _ rfl
    · rw [hh.cellAt _ (by omega)]; exact key 5 _ rfl
    · rw [hh.cellAt _ (by omega)]; exact key 6 _ rfl
def cd0 : Cd := ⟨0, 0, [], [], 0, 0, 0⟩
/-- What nodes answers of a text, ' == 0' behind it. -/
def NodesR (L : List UInt8) (x : List Ex) : Prop := ∃ R, CondR L R ∧ x = (if R.2.1 ≠ 0 ∨ R.1.length ≠ 1 then [] else (R.1.getD 0 cd0).x)
theorem NodesR.kids {L : List UInt8} {x : List Ex} (h : NodesR L x) : Kids x := by
  obtain ⟨R, h1, h2⟩ := h
  rw [h2]
  split
  · exact Kids.nil
  · rename_i hh
    have hl : R.1.length = 1 := Classical.byContradiction (fun x => hh (.inr x))
    have := h1.kids 0 (R.1.getD 0 cd0) (by simp [List.getD, hl])
    exact this.2.1
def eqB : ByteArray := ⟨#[32, 61, 61, 32, 48]⟩
def NodesPost (s : ByteArray) (w : World) (e : Ending) (w' : World) : Prop := ∃ x ax cx, NodesR (s ++ eqB).data.toList x ∧ e = .returned (.slice ax x.length cx) ∧ ER w' ax x ∧ Below w.heap.size w w'
/-- The reader run with some fuel. -/
def runC (L : List UInt8) : Option (List Cd × Int × Int) :=
  if (lexR L).2.1 ≠ 0 then some ([], (lexR L).2.1, (lexR L).2.2)
  else (cF (lexR L).1 60 0 ⟨0, 0, 0, 0⟩ []).map (fun r => if (endP (lexR L).1 r.1).e ≠ 0 then ([], (endP (lexR L).1 r.1).e, (endP (lexR L).1 r.1).at_) else (r.2, 0, 0))
theorem runC_R {L : List UInt8} {R : List Cd × Int × Int} (h : runC L = some R) : CondR L R := by
  unfold runC at h
  by_cases h1 : (lexR L).2.1 ≠ 0
  · rw [if_pos h1] at h
    exact .inl ⟨h1, (Option.some.inj h).symm⟩
  · rw [if_neg h1] at h
    obtain ⟨r, hr, e⟩ := Option.map_eq_some_iff.1 h
    exact .inr ⟨Classical.byContradiction h1, r, ⟨60, hr⟩, e.symm⟩
def nodesX (L : List UInt8) : Option (List Ex) := (runC L).map (fun R => if R.2.1 ≠ 0 ∨ R.1.length ≠ 1 then [] else (R.1.getD 0 cd0).x)
theorem nodesX_R {L : List UInt8} {x y : List Ex} (h : nodesX L = some x) (hy : NodesR L y) : y = x := by
  unfold nodesX at h
  obtain ⟨R, hR, e⟩ := Option.map_eq_some_iff.1 h
  obtain ⟨R', h1, h2⟩ := hy
  rw [h2, h1.uniq (runC_R hR), e]
def noEnv : Env0 := ⟨false, fun _ _ => 0, []⟩
def noNV : NV := ⟨none, none, 0, 0⟩
theorem noNOK (fn : FuncId) (w : World) : NOK fn w noNV noEnv := ⟨.inl ⟨rfl, rfl⟩, by show (0 : Nat) ≤ 100000; omega, .inl ⟨rfl, rfl⟩⟩
def awB : ByteArray := ⟨#[49, 32, 43, 32, 50]⟩
theorem awake_x : nodesX (awB ++ eqB).data.toList = some [⟨1, 1, 5, [], -1, -1, 0⟩, ⟨1, 2, 5, [], -1, -1, 4⟩, ⟨8, 0, 0, [], 0, 1, 2⟩] := by kernel_rfl
theorem awake_v : vF [⟨1, 1, 5, [], -1, -1, 0⟩, ⟨1, 2, 5, [], -1, -1, 4⟩, ⟨8, 0, 0, [], 0, 1, 2⟩] noEnv 0 0 3 noEnv 2 = ⟨3, 5, 0, 0⟩ := by kernel_rfl
end Go.Proofs.Ytnnhdkchdjddkaa.C

namespace Go.Proofs.Ytnnhdkchdjddkaa.C
open Go.RowKit
set_option linter.unusedSimpArgs false
set_option linter.unusedVariables false
theorem tkP_out {ts : List Tok} {i : Nat} (h : ts.length ≤ i) : (tkP ts i).k = 0 := by
  unfold tkP
  rw [List.getD_eq_getElem?_getD, List.getElem?_eq_none h]
  rfl
theorem tk_in {ts : List Tok} {i : Nat} (h : (tkP ts i).k ≠ 0) : i < ts.length := by
  rcases Nat.lt_or_ge i ts.length with x | x
  · exact x
  · exact absurd (tkP_out x) h
theorem isP_in {ts : List Tok} {st : Rd} {W : List UInt8} (h : isP ts st W = true) : st.i < ts.length := by
  refine tk_in (fun e => ?_)
  unfold isP at h
  rw [e] at h
  simp at h
theorem pickP_in {ts : List Tok} {st : Rd} : ∀ {L : List (List UInt8 × Int)}, pickP ts st L ≠ 0 → st.i < ts.length
  | [], h => absurd rfl h
  | (w, k) :: r, h => by
    unfold pickP at h
    by_cases q : isP ts st w = true
    · exact isP_in q
    · rw [if_neg q] at h
      exact pickP_in h
theorem wantP_in {ts : List Tok} {st : Rd} {N : Nat} (W : List UInt8) (hN : ts.length ≤ N) (h : st.i ≤ N) : (wantP ts st W).i ≤ N := by
  unfold wantP
  by_cases q : isP ts st W = true
  · rw [if_pos q]
    have := isP_in q
    show st.i + 1 ≤ N
    omega
  · rw [if_neg q, (failP_same ts st 5).2]
    exact h
theorem openP_in {ts : List Tok} {st : Rd} {N : Nat} (W : List UInt8) (hN : ts.length ≤ N) (h : st.i ≤ N) : (openP ts st W).i ≤ N := by
  unfold openP
  simp only
  refine wantP_in W hN ?_
  split
  · rw [(failP_same ts st 6).2]; exact h
  · exact h
/-- What is true of what the reader leaves. -/
def PLen (N : Nat) (st : Rd) (l : List Ex) (r : Rd × List Ex) : Prop := r.1.i ≤ N ∧ st.i ≤ r.1.i ∧ r.2.length + st.i ≤ l.length + r.1.i + e1P r.1 ∧ (st.e ≠ 0 → r = (st, l))
theorem e1P_le (st : Rd) : e1P st ≤ 1 := by unfold e1P; split <;> omega
theorem PLen.opened {ts : List Tok} {N : Nat} {st : Rd} {l : List Ex} {r : Rd × List Ex} (W : List UInt8) (h0 : st.e = 0) (h : PLen N (openP ts st W) l r) : r.1.i ≤ N ∧ st.i ≤ r.1.i ∧ r.2.length + st.i + 1 ≤ l.length + r.1.i + e1P r.1 := by
  obtain ⟨a, b, c, d⟩ := h
  rcases (openP_facts ts st W h0).2 with ⟨x, y⟩ | ⟨x, y⟩
  · exact ⟨a, by omega, by omega⟩
  · have := d y
    rw [this] at a b c ⊢
    simp only at a b c ⊢
    have e1 := e1P_1 y
    exact ⟨a, by omega, by omega⟩
theorem pF_len (ts : List Tok) (N : Nat) (hN : ts.length ≤ N) : ∀ (f m : Nat) (st : Rd) (l : List Ex) (r : Rd × List Ex), pF ts f m st l = some r → st.i ≤ N → PLen N st l r := by
  intro f
  induction f with
  | zero => intro m st l r h; cases h
  | succ f ih =>
    intro m st l r h hi
    rw [pF] at h
    by_cases h1 : m < 4
    · rw [if_pos h1] at h
      obtain ⟨q, hq, e⟩ := Option.bind_eq_some_iff.1 h
      obtain ⟨a1, a2, a3, a4⟩ := ih _ _ _ _ hq hi
      obtain ⟨b1, b2, b3, b4⟩ := ih _ _ _ _ e a1
      refine ⟨b1, by omega, ?_, fun he => ?_⟩
      · by_cases hq0 : q.1.e = 0
        · have := e1P_0 hq0; omega
        · rw [b4 hq0]; exact a3
      · have := a4 he
        rw [this] at b4
        exact b4 he
    rw [if_neg h1] at h
    by_cases h2 : 4 < m
    · rw [if_pos h2] at h
      by_cases h3 : st.e ≠ 0
      · rw [if_pos h3] at h; cases h
        exact ⟨hi, Nat.le_refl _, by show l.length + st.i ≤ l.length + st.i + e1P st; omega, fun _ => rfl⟩
      rw [if_neg h3] at h
      by_cases h4 : pickP ts st (levelP (m - 5)) = 0
      · rw [if_pos h4] at h; cases h
        exact ⟨hi, Nat.le_refl _, by show l.length + st.i ≤ l.length + st.i + e1P st; omega, fun _ => rfl⟩
      rw [if_neg h4] at h
      have hin := pickP_in h4
      obtain ⟨q, hq, e⟩ := Option.bind_eq_some_iff.1 h
      obtain ⟨a1, a2, a3, a4⟩ := ih _ _ _ _ hq (by show st.i + 1 ≤ N; omega)
      obtain ⟨b1, b2, b3, b4⟩ := ih _ _ _ _ e a1
      simp only at a2 a3
      rw [List.length_append] at b3
      have hone : ∀ X : Ex, [X].length = 1 := fun _ => rfl
      rw [hone] at b3
      refine ⟨b1, by omega, ?_, fun he => absurd he h3⟩
      by_cases hq0 : q.1.e = 0
      · have := e1P_0 hq0; omega
      · rw [b4 hq0]
        show (q.2 ++ [_]).length + st.i ≤ l.length + q.1.i + e1P q.1
        rw [List.length_append, hone]
        omega
    rw [if_neg h2] at h
    by_cases h3 : st.e ≠ 0
    · rw [if_pos h3] at h; cases h
      exact ⟨hi, Nat.le_refl _, by show l.length + st.i ≤ l.length + st.i + e1P st; omega, fun _ => rfl⟩
    rw [if_neg h3] at h
    have h0 : st.e = 0 := Classical.byContradiction h3
    have no : ∀ {P : Prop}, (st.e ≠ 0 → P) := fun he => absurd he h3
    have hone : ∀ X : Ex, [X].length = 1 := fun _ => rfl
    simp only at h
    by_cases c0 : isP ts st [45] = true ∨ isP ts st [126] = true
    · rw [if_pos c0] at h
      obtain ⟨q, hq, e⟩ := Option.bind_eq_some_iff.1 h
      obtain ⟨a1, a2, a3⟩ := (ih _ _ _ _ hq (openP_in _ hN hi)).opened _ h0
      cases e
      exact ⟨a1, a2, by show (q.2 ++ [_]).length + st.i ≤ l.length + q.1.i + e1P q.1; rw [List.length_append, hone]; omega, no⟩
    rw [if_neg c0] at h
    have fin : ∀ {s : Rd} {o w : List UInt8} {q : Rd × List Ex} {l2 : List Ex} {d : Nat}, s.e = 0 → st.i ≤ s.i → s.i ≤ N → PLen N (openP ts s o) l q → l2.length = q.2.length + d → d + st.i ≤ s.i + 1 → PLen N st l (upP (wantP ts q.1 w), l2) := by
      intro s o w q l2 d hs0 hsi hsN hq hl2 hd
      obtain ⟨a1, a2, a3⟩ := hq.opened _ hs0
      have w1 := wantP_sum ts q.1 w
      have w2 := (wantP_facts ts q.1 w).2.1
      exact ⟨wantP_in w hN a1, by show st.i ≤ (wantP ts q.1 w).i; omega, by show l2.length + st.i ≤ l.length + (wantP ts q.1 w).i + e1P (wantP ts q.1 w); omega, no⟩
    by_cases c1 : isP ts st [40] = true
    · rw [if_pos c1] at h
      obtain ⟨q, hq, e⟩ := Option.bind_eq_some_iff.1 h
      cases e
      exact fin (d := 0) h0 (Nat.le_refl _) hi (ih _ _ _ _ hq (openP_in _ hN hi)) rfl (by omega)
    rw [if_neg c1] at h
    have stop : ∀ {X : Ex}, (tkP ts st.i).k ≠ 0 → PLen N st l ({ st with i := st.i + 1 }, l ++ [X]) := by
      intro X hk
      have := tk_in hk
      exact ⟨by show st.i + 1 ≤ N; omega, by show st.i ≤ st.i + 1; omega, by show (l ++ [X]).length + st.i ≤ l.length + (st.i + 1) + _; rw [List.length_append, hone]; omega, no⟩
    have inn : ∀ {o w : List UInt8} {q : Rd × List Ex} {X : Ex}, (tkP ts st.i).k ≠ 0 → pF ts f 0 (openP ts { st with i := st.i + 1 } o) l = some q → PLen N st l (upP (wantP ts q.1 w), q.2 ++ [X]) := by
      intro o w q X hk hq
      have hin := tk_in hk
      have hN1 : ({ st with i := st.i + 1 } : Rd).i ≤ N := by show st.i + 1 ≤ N; omega
      exact fin (s := { st with i := st.i + 1 }) (d := 1) h0 (by show st.i ≤ st.i + 1; omega) hN1 (ih _ _ _ _ hq (openP_in _ hN hN1)) (by rw [List.length_append, hone]) (by show 1 + st.i ≤ st.i + 1 + 1; omega)
    by_cases c2 : (tkP ts st.i).k = 2
    · rw [if_pos c2] at h
      cases h
      exact stop (by omega)
    rw [if_neg c2] at h
    by_cases c3 : (tkP ts st.i).k = 1
    · rw [if_pos c3] at h
      by_cases d : isP ts { st with i := st.i + 1 } [91] = true
      · rw [if_pos d] at h
        obtain ⟨q, hq, e⟩ := Option.bind_eq_some_iff.1 h
        cases e
        exact inn (by omega) hq
      · rw [if_neg d] at h
        cases h
        exact stop (by omega)
    rw [if_neg c3] at h
    have isk : ∀ {W}, isP ts st W = true → (tkP ts st.i).k ≠ 0 := fun {W} hq e => by
      unfold isP at hq
      rw [e] at hq
      simp at hq
    by_cases c4 : isP ts st [111, 108, 100] = true
    · rw [if_pos c4] at h
      obtain ⟨q, hq, e⟩ := Option.bind_eq_some_iff.1 h
      cases e
      exact inn (isk c4) hq
    rw [if_neg c4] at h
    by_cases c5 : isP ts st [114, 101, 115, 117, 108, 116] = true
    · rw [if_pos c5] at h
      cases h
      exact stop (isk c5)
    rw [if_neg c5] at h
    by_cases c6 : (tkP ts st.i).k = 3 ∧ 0 < readTL (tkP ts st.i).t
    · rw [if_pos c6] at h
      obtain ⟨q, hq, e⟩ := Option.bind_eq_some_iff.1 h
      cases e
      exact inn (by have := c6.1; omega) hq
    rw [if_neg c6] at h
    cases h
    exact ⟨by rw [(failP_same ts st 5).2]; exact hi, by rw [(failP_same ts st 5).2]; exact Nat.le_refl _, by show l.length + st.i ≤ l.length + (failP ts st 5).i + e1P (failP ts st 5); rw [(failP_same ts st 5).2]; omega, no⟩
/-- The rows of nodes of conditions are short, and so are the rows of conditions. -/
def CLen (N : Nat) (l : List Cd) : Prop := ∀ v ∈ l, v.x.length ≤ N + 1 ∧ v.y.length ≤ N + 1
theorem CLen.snoc {N : Nat} {l : List Cd} {X : Cd} (h : CLen N l) (hx : X.x.length ≤ N + 1) (hy : X.y.length ≤ N + 1) : CLen N (l ++ [X]) := fun v hv => by
  rw [List.mem_append, List.mem_singleton] at hv
  rcases hv with hv | rfl
  · exact h v hv
  · exact ⟨hx, hy⟩
theorem cF_len (ts : List Tok) (N : Nat) (hN : ts.length ≤ N) : ∀ (f m : Nat) (st : Rd) (l : List Cd) (r : Rd × List Cd), cF ts f m st l = some r → st.i ≤ N → CLen N l → r.1.i ≤ N ∧ CLen N r.2 := by
  intro f
  induction f with
  | zero => intro m st l r h; cases h
  | succ f ih =>
    intro m st l r h hi hl
    have two : ∀ {m1 m2 st1}, ((cF ts f m1 st1 l).bind fun r => cF ts f m2 r.1 r.2) = some r → st1.i ≤ N → r.1.i ≤ N ∧ CLen N r.2 := by
      intro m1 m2 st1 he h1
      obtain ⟨q, hq, e⟩ := Option.bind_eq_some_iff.1 he
      obtain ⟨a1, a2⟩ := ih _ _ _ _ hq h1 hl
      exact ih _ _ _ _ e a1 a2
    have on : ∀ {m1 m2 st1} {k at_ : Int}, ((cF ts f m1 st1 l).bind fun r => cF ts f m2 r.1 (r.2 ++ [cdP k ((l.length : Int) - 1) ((r.2.length : Int) - 1) at_])) = some r → st1.i ≤ N → r.1.i ≤ N ∧ CLen N r.2 := by
      intro m1 m2 st1 k at_ he h1
      obtain ⟨q, hq, e⟩ := Option.bind_eq_some_iff.1 he
      obtain ⟨a1, a2⟩ := ih _ _ _ _ hq h1 hl
      exact ih _ _ _ _ e a1 (a2.snoc (Nat.zero_le _) (Nat.zero_le _))
    rw [cF] at h
    by_cases m0 : m = 0
    · rw [if_pos m0] at h
      exact two h hi
    rw [if_neg m0] at h
    by_cases m1 : m = 1
    · rw [if_pos m1] at h
      exact two h hi
    rw [if_neg m1] at h
    by_cases m3 : m = 3
    · rw [if_pos m3] at h
      by_cases q : isP ts st [111, 114] = true
      · rw [if_pos q] at h
        exact on h (by have := isP_in q; show st.i + 1 ≤ N; omega)
      · rw [if_neg q] at h
        cases h
        exact ⟨hi, hl⟩
    rw [if_neg m3] at h
    by_cases m4 : m = 4
    · rw [if_pos m4] at h
      by_cases q : isP ts st [97, 110, 100] = true
      · rw [if_pos q] at h
        exact on h (by have := isP_in q; show st.i + 1 ≤ N; omega)
      · rw [if_neg q] at h
        cases h
        exact ⟨hi, hl⟩
    rw [if_neg m4] at h
    by_cases h0 : st.e ≠ 0
    · rw [if_pos h0] at h
      cases h
      exact ⟨hi, hl⟩
    rw [if_neg h0] at h
    by_cases q1 : isP ts st [110, 111, 116] = true
    · rw [if_pos q1] at h
      obtain ⟨q, hq, e⟩ := Option.bind_eq_some_iff.1 h
      obtain ⟨a1, a2⟩ := ih _ _ _ _ hq (openP_in _ hN hi) hl
      cases e
      exact ⟨a1, a2.snoc (Nat.zero_le _) (Nat.zero_le _)⟩
    rw [if_neg q1] at h
    by_cases q2 : isP ts st [91] = true
    · rw [if_pos q2] at h
      obtain ⟨q, hq, e⟩ := Option.bind_eq_some_iff.1 h
      obtain ⟨a1, a2⟩ := ih _ _ _ _ hq (openP_in _ hN hi) hl
      cases e
      exact ⟨wantP_in _ hN a1, a2⟩
    rw [if_neg q2] at h
    obtain ⟨x, hx, e⟩ := Option.bind_eq_some_iff.1 h
    obtain ⟨a1, a2, a3, a4⟩ := pF_len ts N hN _ _ _ _ _ hx hi
    have ae := e1P_le x.1
    have hz : ([] : List Ex).length = 0 := rfl
    rw [hz] at a3
    by_cases q3 : relP ts x.1 = true
    · rw [if_pos q3] at e
      obtain ⟨y, hy, e⟩ := Option.bind_eq_some_iff.1 e
      have hk : (tkP ts x.1.i).k ≠ 0 := fun e => by
        unfold relP at q3
        rw [e] at q3
        simp at q3
      have hin := tk_in hk
      obtain ⟨b1, b2, b3, b4⟩ := pF_len ts N hN _ _ _ _ _ hy (by show x.1.i + 1 ≤ N; omega)
      have be := e1P_le y.1
      rw [hz] at b3
      simp only at b3
      cases e
      exact ⟨b1, hl.snoc (by show x.2.length ≤ N + 1; omega) (by show y.2.length ≤ N + 1; omega)⟩
    · rw [if_neg q3] at e
      cases e
      exact ⟨by rw [(failP_same ts x.1 5).2]; exact a1, hl⟩
theorem CondR.len {L : List UInt8} {R : List Cd × Int × Int} (h : CondR L R) : CLen 8193 R.1 := by
  have hnil : CLen 8193 [] := fun v hv => by simp at hv
  rcases h with ⟨h1, h2⟩ | ⟨h1, r, ⟨f, hf⟩, h3⟩
  · rw [h2]; exact hnil
  · rw [h3]
    split
    · exact hnil
    · exact (cF_len _ 8193 (lexR_facts h1).2.1 f 0 _ [] r hf (Nat.zero_le _) hnil).2
theorem NodesR.len {L : List UInt8} {x : List Ex} (h : NodesR L x) : x.length ≤ 8194 := by
  obtain ⟨R, h1, h2⟩ := h
  rw [h2]
  split
  · exact Nat.zero_le _
  · rename_i hh
    have hl : R.1.length = 1 := Classical.byContradiction (fun x => hh (.inr x))
    have hm : R.1.getD 0 cd0 ∈ R.1 := by
      rw [List.getD_eq_getElem?_getD, List.getElem?_eq_getElem (by omega)]
      exact List.getElem_mem _
    exact (h1.len _ hm).1
end Go.Proofs.Ytnnhdkchdjddkaa.C

namespace Go.Proofs.Ytnnhdkchdjddkaa.C
open Go.RowKit
set_option linter.unusedSimpArgs false
set_option linter.unusedVariables false
/-- Whether a node of a condition holds, with fuel: yes or no, undefined, where. -/
def relT (old : Env0) (res t : Int) (now : Env0) (c : Cd) : Bool × Int × Int :=
  let a := vF c.x old res t c.x.length now ((c.x.length : Int) - 1)
  let b := vF c.y old res t c.y.length now ((c.y.length : Int) - 1)
  if a.ub = 0 then (if b.ub = 0 then (relI c.rel (wrapT (mixT 8 a.t b.t) a.v) (wrapT (mixT 8 a.t b.t) b.v), 0, 0) else (false, b.ub, b.at_)) else (false, a.ub, a.at_)
def tF (l : List Cd) (old : Env0) (res t : Int) (now : Env0) : Nat → Int → Bool × Int × Int
  | 0, _ => (false, 0, 0)
  | f + 1, at_ =>
    if at_ < 0 ∨ (l.length : Int) ≤ at_ then (false, 0, 0)
    else
      let c := l.getD at_.toNat cd0
      if c.k = 1 then relT old res t now c
      else if c.k = 2 then (!(tF l old res t now f c.a).1 && decide ((tF l old res t now f c.a).2.1 = 0), (tF l old res t now f c.a).2.1, (tF l old res t now f c.a).2.2)
      else if c.k = 3 then (if (tF l old res t now f c.a).1 = true then tF l old res t now f c.b else (false, (tF l old res t now f c.a).2.1, (tF l old res t now f c.a).2.2))
      else if c.k = 4 then (if (tF l old res t now f c.a).1 = true then (true, (tF l old res t now f c.a).2.1, (tF l old res t now f c.a).2.2) else if (tF l old res t now f c.a).2.1 = 0 then tF l old res t now f c.b else (false, (tF l old res t now f c.a).2.1, (tF l old res t now f c.a).2.2))
      else (false, 0, 0)
/-- What is undefined does not hold. -/
theorem tF_ub (l : List Cd) (old : Env0) (res t : Int) (now : Env0) : ∀ (f : Nat) (at_ : Int), (tF l old res t now f at_).2.1 ≠ 0 → (tF l old res t now f at_).1 = false := by
  intro f
  induction f with
  | zero => intro at_ h; exact absurd rfl h
  | succ f ih =>
    intro at_ h
    rw [tF] at h ⊢
    by_cases h1 : at_ < 0 ∨ (l.length : Int) ≤ at_
    · rw [if_pos h1]
    · rw [if_neg h1] at h ⊢
      simp only at h ⊢
      obtain ⟨c, hc⟩ : ∃ c, l.getD at_.toNat cd0 = c := ⟨_, rfl⟩
      rw [hc] at h ⊢
      by_cases k1 : c.k = 1
      · rw [if_pos k1] at h ⊢
        unfold relT at h ⊢
        simp only at h ⊢
        split at h
        · rename_i q1
          split at h
          · exact absurd rfl h
          · rename_i q2
            rw [if_pos q1, if_neg q2]
        · rename_i q1
          rw [if_neg q1]
      rw [if_neg k1] at h ⊢
      by_cases k2 : c.k = 2
      · rw [if_pos k2] at h ⊢
        simp only at h ⊢
        rw [decide_eq_false h, Bool.and_false]
      rw [if_neg k2] at h ⊢
      by_cases k3 : c.k = 3
      · rw [if_pos k3] at h ⊢
        by_cases q : (tF l old res t now f c.a).1 = true
        · rw [if_pos q] at h ⊢
          exact ih _ h
        · rw [if_neg q]
      rw [if_neg k3] at h ⊢
      by_cases k4 : c.k = 4
      · rw [if_pos k4] at h ⊢
        by_cases q : (tF l old res t now f c.a).1 = true
        · rw [if_pos q] at h
          simp only at h
          have := ih _ h
          rw [q] at this
          cases this
        · rw [if_neg q] at h ⊢
          by_cases q2 : (tF l old res t now f c.a).2.1 = 0
          · rw [if_pos q2] at h ⊢
            exact ih _ h
          · rw [if_neg q2]
      rw [if_neg k4]
theorem BxC.box1 {W : World} {D : Nat} {x : Cv} (h : BxC W D 0 x) : W.cell? ⟨D, 1, none⟩ = some (.int .i64 x.c.rel) := h.c1
theorem BxC.box2 {W : World} {D : Nat} {x : Cv} (h : BxC W D 0 x) : W.cell? ⟨D, 2, none⟩ = some (.slice x.ax x.c.x.length x.cx) := h.c2
theorem BxC.box3 {W : World} {D : Nat} {x : Cv} (h : BxC W D 0 x) : W.cell? ⟨D, 3, none⟩ = some (.slice x.ay x.c.y.length x.cy) := h.c3
theorem BxC.box4 {W : World} {D : Nat} {x : Cv} (h : BxC W D 0 x) : W.cell? ⟨D, 4, none⟩ = some (.int .i64 x.c.a) := h.c4
theorem BxC.box5 {W : World} {D : Nat} {x : Cv} (h : BxC W D 0 x) : W.cell? ⟨D, 5, none⟩ = some (.int .i64 x.c.b) := h.c5
theorem BxC.box6 {W : World} {D : Nat} {x : Cv} (h : BxC W D 0 x) : W.cell? ⟨D, 6, none⟩ = some (.int .i64 x.c.at_) := h.c6
/-- Inside Test. -/
structure TsI (w W : World) (x : Cv) (v o : NV) (res t : Int) : Prop where
  hb : Below w.heap.size w W
  b6 : Bx6 W w.heap.size v o res t
  bc : BxC W (w.heap.size + 1) 0 x
theorem TsI.below {w W W' : World} {x : Cv} {v o : NV} {res t : Int} (h : TsI w W x v o res t) (hb : Below W.heap.size W W') : TsI w W' x v o res t := ⟨below_next h.hb h.hb.size hb, h.b6.below hb, h.bc.below hb⟩
set_option maxRecDepth 100000 in
set_option maxHeartbeats 6400000 in
theorem ts_rel1 (x : Cv) (v o : NV) (res t : Int) (g len cc j : Nat) (w : World) (hj : j < len) (hE : BxC w g (j * 7) x) (hk : x.c.k = 1) (lx ly : Nat) (hlx : x.c.x.length = lx) (hly : x.c.y.length = ly) (hx3 : lx ≤ 300000) (hy3 : ly ≤ 300000) (a b : Gt) (HA : ∀ W, Below w.heap.size w W → Calls Try.prog 20 #[.slice x.ax lx x.cx, .int .i64 ((lx : Int) - 1), envA v o res t] W fun e' w' => e' = .returned (gtV a) ∧ Below W.heap.size W w') (HB : ∀ W, Below w.heap.size w W → Calls Try.prog 20 #[.slice x.ay ly x.cy, .int .i64 ((ly : Int) - 1), envA v o res t] W fun e' w' => e' = .returned (gtV b) ∧ Below W.heap.size W w') (hu : a.ub ≠ 0) :
    Calls Try.prog 10 #[.slice (some ⟨g, 0, none⟩) len cc, .int .i64 (j : Int), envA v o res t] w fun e' w' => e' = .returned (.tuple #[.bool false, .int .i64 a.ub, .int .i64 a.at_]) ∧ Below w.heap.size w w' := by
  have HK : Hid (x.c.k = 1) := Lib.hid hk
  clear hk
  have ex1 : IntKind.i64.wrap ((lx : Int) - 1) = (lx : Int) - 1 := IntWalk.i64_in _ (by omega)
  have ey1 : IntKind.i64.wrap ((ly : Int) - 1) = (ly : Int) - 1 := IntWalk.i64_in _ (by omega)
  have HLX := Lib.hid (And.intro hlx hly)
  clear hlx hly
  unfold envA gtV at HA HB
  have u0 : (a.ub == 0) = false := by rw [beq_eq_false_iff_ne]; exact hu
  have u1 : (a.ub != 0) = true := by rw [bne, u0]; rfl
  clear hu
  obtain ⟨mp, ba, bl, bc⟩ := v
  unfold envA
  simp only at HA HB
  have HE := Lib.hid hE
  have m0 := hE.c0
  have m1 := hE.c1
  have m2 := hE.c2
  have m3 := hE.c3
  have m4 := hE.c4
  have m5 := hE.c5
  have m6 := hE.c6
  have hj0 : (0 : Int) ≤ (j : Int) := by omega
  have hj1 : (j : Int) < (len : Int) := by omega
  have hg0 : g ≠ w.heap.size := by have := hE.lt; omega
  clear hE
  simp only
  go_enter Try.func10, Try.ntmps10
  go_upto_region 1 with fail
  refine at_world (fun W => Below w.heap.size w W ∧ W.heap.size = w.heap.size + 1 ∧ Bx6 W w.heap.size ⟨mp, ba, bl, bc⟩ o res t ∧ BxC W g (j * 7) x) ⟨(by repeat' (first | exact Below.refl _ _ | (refine Below.alloc ?_ ?_ _) | (refine Below.setCell ?_ ?_ _) | (refine Below.drew ?_) | (refine below_next ?_ ?_ (by assumption)) | omega | (simp; done) | (simp; omega))), by simp, ⟨by first | (simp; done) | (simp; omega), by simp [go_sem], by simp [go_sem], by simp [go_sem], by simp [go_sem], by simp [go_sem], by simp [go_sem]⟩, HE.out.below (by repeat' (first | exact Below.refl _ _ | (refine Below.alloc ?_ ?_ _) | (refine Below.setCell ?_ ?_ _) | (refine Below.drew ?_) | (refine below_next ?_ ?_ (by assumption)) | omega | (simp; done) | (simp; omega)))⟩ ?_
  rintro W0 ⟨hb0, hz0, B6, BE⟩
  clear m0 m1 m2 m3 m4 m5 m6
  have m0 := BE.c0
  have m1 := BE.c1
  have m2 := BE.c2
  have m3 := BE.c3
  have m4 := BE.c4
  have m5 := BE.c5
  have m6 := BE.c6
  go_upto_region 4 with fail
  refine at_world (fun W => TsI w W x ⟨mp, ba, bl, bc⟩ o res t) ⟨below_next hb0 hb0.size (by repeat' (first | exact Below.refl _ _ | (refine Below.alloc ?_ ?_ _) | (refine Below.setCell ?_ ?_ _) | (refine Below.drew ?_) | (refine below_next ?_ ?_ (by assumption)) | omega | (simp; done) | (simp; omega))), B6.below (by repeat' (first | exact Below.refl _ _ | (refine Below.alloc ?_ ?_ _) | (refine Below.setCell ?_ ?_ _) | (refine Below.drew ?_) | (refine below_next ?_ ?_ (by assumption)) | omega | (simp; done) | (simp; omega))), by rw [← hz0]; exact ⟨by first | (simp; done) | (simp; omega), by simp [go_sem], by simp [go_sem], by simp [go_sem], by simp [go_sem], by simp [go_sem], by simp [go_sem], by simp [go_sem]⟩⟩ ?_
  intro W1 N1
  (try simp only [hz0])
  clear m0 m1 m2 m3 m4 m5 m6 hb0 hz0 B6 BE
  have N := Lib.hid N1
  have n0 := (N1.bc).c0; have n1 := (N1.bc).box1; have n2 := (N1.bc).box2; have n3 := (N1.bc).box3; have n4 := (N1.bc).box4; have n5 := (N1.bc).box5; have n6 := (N1.bc).box6; have e0 := (N1.b6).c0; have e1 := (N1.b6).c1; have e2 := (N1.b6).c2; have e3 := (N1.b6).c3; have e4 := (N1.b6).c4; have e5 := (N1.b6).c5
  clear N1
  rw [HK.out] at n0
  rw [HLX.out.1] at n2
  rw [HLX.out.2] at n3
  go_upto_region 10 with (go_at_call 20; refine (HA _ N.out.hb).mono ?_; rintro e' w5 ⟨rfl, hb5⟩; have N := Lib.hid (N.out.below hb5); clear hb5 HA)
  refine at_world (fun W => TsI w W x ⟨mp, ba, bl, bc⟩ o res t ∧ Bx4 W w5.heap.size a) ⟨N.out.below (by repeat' (first | exact Below.refl _ _ | (refine Below.alloc ?_ ?_ _) | (refine Below.setCell ?_ ?_ _) | (refine Below.drew ?_) | (refine below_next ?_ ?_ (by assumption)) | omega | (simp; done) | (simp; omega))), ⟨by first | (simp; done) | (simp; omega), by simp [go_sem], by simp [go_sem], by simp [go_sem], by simp [go_sem], by simp [go_sem], by simp [go_sem], by simp [go_sem], by simp [go_sem]⟩⟩ ?_
  rintro W6 ⟨N6, A6⟩
  obtain ⟨D3, hD3⟩ : ∃ x, w5.heap.size = x := ⟨_, rfl⟩
  simp only [hD3] at A6 ⊢
  clear hD3 N n0 n1 n2 n3 n4 n5 n6 e0 e1 e2 e3 e4 e5
  have N := Lib.hid N6
  have AA := Lib.hid A6
  have n0 := (N6.bc).c0; have n1 := (N6.bc).box1; have n2 := (N6.bc).box2; have n3 := (N6.bc).box3; have n4 := (N6.bc).box4; have n5 := (N6.bc).box5; have n6 := (N6.bc).box6; have e0 := (N6.b6).c0; have e1 := (N6.b6).c1; have e2 := (N6.b6).c2; have e3 := (N6.b6).c3; have e4 := (N6.b6).c4; have e5 := (N6.b6).c5
  have x0 := (A6).c0; have x1 := (A6).c1; have x2 := (A6).c2; have x3 := (A6).c3; have xf0 := (A6).f0; have xf1 := (A6).f1; have xf2 := (A6).f2; have xf3 := (A6).f3
  clear N6 A6
  rw [HK.out] at n0
  rw [HLX.out.1] at n2
  rw [HLX.out.2] at n3
  go_upto_region 11 with fail
  have d0 := fun (x' : WIn (Below W6.heap.size W6)) => cell_later x'.h x2
  have d1 := fun (x' : WIn (Below W6.heap.size W6)) => cell_later x'.h x3
  refine region_in (Below W6.heap.size W6) (by kernel_rfl) (by kernel_rfl) (Below.refl _ _).drew (fun inst => ?_)
  iterate 7 (go_big_quiet_step (fail))
  refine wpQuiet_nil ?_
  intro wd hbd
  have hbz := below_next N.out.hb N.out.hb.size hbd
  go_wp2_with fail
  go_ret3
  exact ⟨rfl, hbz⟩
set_option maxRecDepth 100000 in
set_option maxHeartbeats 6400000 in
theorem ts_rel2 (x : Cv) (v o : NV) (res t : Int) (g len cc j : Nat) (w : World) (hj : j < len) (hE : BxC w g (j * 7) x) (hk : x.c.k = 1) (lx ly : Nat) (hlx : x.c.x.length = lx) (hly : x.c.y.length = ly) (hx3 : lx ≤ 300000) (hy3 : ly ≤ 300000) (a b : Gt) (HA : ∀ W, Below w.heap.size w W → Calls Try.prog 20 #[.slice x.ax lx x.cx, .int .i64 ((lx : Int) - 1), envA v o res t] W fun e' w' => e' = .returned (gtV a) ∧ Below W.heap.size W w') (HB : ∀ W, Below w.heap.size w W → Calls Try.prog 20 #[.slice x.ay ly x.cy, .int .i64 ((ly : Int) - 1), envA v o res t] W fun e' w' => e' = .returned (gtV b) ∧ Below W.heap.size W w') (hz : a.ub = 0) (hu : b.ub ≠ 0) :
    Calls Try.prog 10 #[.slice (some ⟨g, 0, none⟩) len cc, .int .i64 (j : Int), envA v o res t] w fun e' w' => e' = .returned (.tuple #[.bool false, .int .i64 b.ub, .int .i64 b.at_]) ∧ Below w.heap.size w w' := by
  have HK : Hid (x.c.k = 1) := Lib.hid hk
  clear hk
  have ex1 : IntKind.i64.wrap ((lx : Int) - 1) = (lx : Int) - 1 := IntWalk.i64_in _ (by omega)
  have ey1 : IntKind.i64.wrap ((ly : Int) - 1) = (ly : Int) - 1 := IntWalk.i64_in _ (by omega)
  have HLX := Lib.hid (And.intro hlx hly)
  clear hlx hly
  unfold envA gtV at HA HB
  have u0 : (b.ub == 0) = false := by rw [beq_eq_false_iff_ne]; exact hu
  have u1 : (b.ub != 0) = true := by rw [bne, u0]; rfl
  clear hu
  have HZ := Lib.hid hz
  clear hz
  obtain ⟨mp, ba, bl, bc⟩ := v
  unfold envA
  simp only at HA HB
  have HE := Lib.hid hE
  have m0 := hE.c0
  have m1 := hE.c1
  have m2 := hE.c2
  have m3 := hE.c3
  have m4 := hE.c4
  have m5 := hE.c5
  have m6 := hE.c6
  have hj0 : (0 : Int) ≤ (j : Int) := by omega
  have hj1 : (j : Int) < (len : Int) := by omega
  have hg0 : g ≠ w.heap.size := by have := hE.lt; omega
  clear hE
  simp only
  go_enter Try.func10, Try.ntmps10
  go_upto_region 1 with fail
  refine at_world (fun W => Below w.heap.size w W ∧ W.heap.size = w.heap.size + 1 ∧ Bx6 W w.heap.size ⟨mp, ba, bl, bc⟩ o res t ∧ BxC W g (j * 7) x) ⟨(by repeat' (first | exact Below.refl _ _ | (refine Below.alloc ?_ ?_ _) | (refine Below.setCell ?_ ?_ _) | (refine Below.drew ?_) | (refine below_next ?_ ?_ (by assumption)) | omega | (simp; done) | (simp; omega))), by simp, ⟨by first | (simp; done) | (simp; omega), by simp [go_sem], by simp [go_sem], by simp [go_sem], by simp [go_sem], by simp [go_sem], by simp [go_sem]⟩, HE.out.below (by repeat' (first | exact Below.refl _ _ | (refine Below.alloc ?_ ?_ _) | (refine Below.setCell ?_ ?_ _) | (refine Below.drew ?_) | (refine below_next ?_ ?_ (by assumption)) | omega | (simp; done) | (simp; omega)))⟩ ?_
  rintro W0 ⟨hb0, hz0, B6, BE⟩
  clear m0 m1 m2 m3 m4 m5 m6
  have m0 := BE.c0
  have m1 := BE.c1
  have m2 := BE.c2
  have m3 := BE.c3
  have m4 := BE.c4
  have m5 := BE.c5
  have m6 := BE.c6
  go_upto_region 4 with fail
  refine at_world (fun W => TsI w W x ⟨mp, ba, bl, bc⟩ o res t) ⟨below_next hb0 hb0.size (by repeat' (first | exact Below.refl _ _ | (refine Below.alloc ?_ ?_ _) | (refine Below.setCell ?_ ?_ _) | (refine Below.drew ?_) | (refine below_next ?_ ?_ (by assumption)) | omega | (simp; done) | (simp; omega))), B6.below (by repeat' (first | exact Below.refl _ _ | (refine Below.alloc ?_ ?_ _) | (refine Below.setCell ?_ ?_ _) | (refine Below.drew ?_) | (refine below_next ?_ ?_ (by assumption)) | omega | (simp; done) | (simp; omega))), by rw [← hz0]; exact ⟨by first | (simp; done) | (simp; omega), by simp [go_sem], by simp [go_sem], by simp [go_sem], by simp [go_sem], by simp [go_sem], by simp [go_sem], by simp [go_sem]⟩⟩ ?_
  intro W1 N1
  (try simp only [hz0])
  clear m0 m1 m2 m3 m4 m5 m6 hb0 hz0 B6 BE
  have N := Lib.hid N1
  have n0 := (N1.bc).c0; have n1 := (N1.bc).box1; have n2 := (N1.bc).box2; have n3 := (N1.bc).box3; have n4 := (N1.bc).box4; have n5 := (N1.bc).box5; have n6 := (N1.bc).box6; have e0 := (N1.b6).c0; have e1 := (N1.b6).c1; have e2 := (N1.b6).c2; have e3 := (N1.b6).c3; have e4 := (N1.b6).c4; have e5 := (N1.b6).c5
  clear N1
  rw [HK.out] at n0
  rw [HLX.out.1] at n2
  rw [HLX.out.2] at n3
  go_upto_region 10 with (go_at_call 20; refine (HA _ N.out.hb).mono ?_; rintro e' w5 ⟨rfl, hb5⟩; have N := Lib.hid (N.out.below hb5); clear hb5 HA)
  refine at_world (fun W => TsI w W x ⟨mp, ba, bl, bc⟩ o res t ∧ Bx4 W w5.heap.size a) ⟨N.out.below (by repeat' (first | exact Below.refl _ _ | (refine Below.alloc ?_ ?_ _) | (refine Below.setCell ?_ ?_ _) | (refine Below.drew ?_) | (refine below_next ?_ ?_ (by assumption)) | omega | (simp; done) | (simp; omega))), ⟨by first | (simp; done) | (simp; omega), by simp [go_sem], by simp [go_sem], by simp [go_sem], by simp [go_sem], by simp [go_sem], by simp [go_sem], by simp [go_sem], by simp [go_sem]⟩⟩ ?_
  rintro W6 ⟨N6, A6⟩
  obtain ⟨D3, hD3⟩ : ∃ x, w5.heap.size = x := ⟨_, rfl⟩
  simp only [hD3] at A6 ⊢
  clear hD3 N n0 n1 n2 n3 n4 n5 n6 e0 e1 e2 e3 e4 e5
  have N := Lib.hid N6
  have AA := Lib.hid A6
  have n0 := (N6.bc).c0; have n1 := (N6.bc).box1; have n2 := (N6.bc).box2; have n3 := (N6.bc).box3; have n4 := (N6.bc).box4; have n5 := (N6.bc).box5; have n6 := (N6.bc).box6; have e0 := (N6.b6).c0; have e1 := (N6.b6).c1; have e2 := (N6.b6).c2; have e3 := (N6.b6).c3; have e4 := (N6.b6).c4; have e5 := (N6.b6).c5
  have x0 := (A6).c0; have x1 := (A6).c1; have x2 := (A6).c2; have x3 := (A6).c3; have xf0 := (A6).f0; have xf1 := (A6).f1; have xf2 := (A6).f2; have xf3 := (A6).f3
  clear N6 A6
  rw [HK.out] at n0
  rw [HLX.out.1] at n2
  rw [HLX.out.2] at n3
  rw [HZ.out] at x2
  go_upto_region 13 with (go_at_call 20; refine (HB _ N.out.hb).mono ?_; rintro e' w7 ⟨rfl, hb7⟩; have N := Lib.hid (N.out.below hb7); have AA := Lib.hid (AA.out.below hb7); clear hb7 HB)
  refine at_world (fun W => TsI w W x ⟨mp, ba, bl, bc⟩ o res t ∧ Bx4 W D3 a ∧ Bx4 W w7.heap.size b) ⟨N.out.below (by repeat' (first | exact Below.refl _ _ | (refine Below.alloc ?_ ?_ _) | (refine Below.setCell ?_ ?_ _) | (refine Below.drew ?_) | (refine below_next ?_ ?_ (by assumption)) | omega | (simp; done) | (simp; omega))), AA.out.below (by repeat' (first | exact Below.refl _ _ | (refine Below.alloc ?_ ?_ _) | (refine Below.setCell ?_ ?_ _) | (refine Below.drew ?_) | (refine below_next ?_ ?_ (by assumption)) | omega | (simp; done) | (simp; omega))), ⟨by first | (simp; done) | (simp; omega), by simp [go_sem], by simp [go_sem], by simp [go_sem], by simp [go_sem], by simp [go_sem], by simp [go_sem], by simp [go_sem], by simp [go_sem]⟩⟩ ?_
  rintro W8 ⟨N8, A8, B8⟩
  obtain ⟨D4, hD4⟩ : ∃ x, w7.heap.size = x := ⟨_, rfl⟩
  simp only [hD4] at B8 ⊢
  clear hD4 N AA n0 n1 n2 n3 n4 n5 n6 e0 e1 e2 e3 e4 e5 x0 xf0 x1 xf1 x2 xf2 x3 xf3
  have N := Lib.hid N8
  have n0 := (N8.bc).c0; have n1 := (N8.bc).box1; have n2 := (N8.bc).box2; have n3 := (N8.bc).box3; have n4 := (N8.bc).box4; have n5 := (N8.bc).box5; have n6 := (N8.bc).box6; have e0 := (N8.b6).c0; have e1 := (N8.b6).c1; have e2 := (N8.b6).c2; have e3 := (N8.b6).c3; have e4 := (N8.b6).c4; have e5 := (N8.b6).c5
  have x0 := (A8).c0; have x1 := (A8).c1; have x2 := (A8).c2; have x3 := (A8).c3; have xf0 := (A8).f0; have xf1 := (A8).f1; have xf2 := (A8).f2; have xf3 := (A8).f3
  have y0 := (B8).c0; have y1 := (B8).c1; have y2 := (B8).c2; have y3 := (B8).c3; have yf0 := (B8).f0; have yf1 := (B8).f1; have yf2 := (B8).f2; have yf3 := (B8).f3
  clear N8 A8 B8
  rw [HK.out] at n0
  go_upto_region 14 with fail
  have d0 := fun (x' : WIn (Below W8.heap.size W8)) => cell_later x'.h y2
  have d1 := fun (x' : WIn (Below W8.heap.size W8)) => cell_later x'.h y3
  refine region_in (Below W8.heap.size W8) (by kernel_rfl) (by kernel_rfl) (Below.refl _ _).drew (fun inst => ?_)
  iterate 7 (go_big_quiet_step (fail))
  refine wpQuiet_nil ?_
  intro wd hbd
  have hbz := below_next N.out.hb N.out.hb.size hbd
  go_wp2_with fail
  go_ret3
  exact ⟨rfl, hbz⟩
set_option maxRecDepth 100000 in
set_option maxHeartbeats 6400000 in
theorem ts_rel3 (x : Cv) (v o : NV) (res t : Int) (g len cc j : Nat) (w : World) (hj : j < len) (hE : BxC w g (j * 7) x) (hk : x.c.k = 1) (lx ly : Nat) (hlx : x.c.x.length = lx) (hly : x.c.y.length = ly) (hx3 : lx ≤ 300000) (hy3 : ly ≤ 300000) (a b : Gt) (HA : ∀ W, Below w.heap.size w W → Calls Try.prog 20 #[.slice x.ax lx x.cx, .int .i64 ((lx : Int) - 1), envA v o res t] W fun e' w' => e' = .returned (gtV a) ∧ Below W.heap.size W w') (HB : ∀ W, Below w.heap.size w W → Calls Try.prog 20 #[.slice x.ay ly x.cy, .int .i64 ((ly : Int) - 1), envA v o res t] W fun e' w' => e' = .returned (gtV b) ∧ Below W.heap.size W w') (hz : a.ub = 0) (hz2 : b.ub = 0) (T xx yy : Int) (q : Bool) (hT : mixT 8 a.t b.t = T) (hxx : wrapT T a.v = xx) (hyy : wrapT T b.v = yy) (hq : relI x.c.rel xx yy = q) :
    Calls Try.prog 10 #[.slice (some ⟨g, 0, none⟩) len cc, .int .i64 (j : Int), envA v o res t] w fun e' w' => e' = .returned (.tuple #[.bool q, .int .i64 0, .int .i64 0]) ∧ Below w.heap.size w w' := by
  have HK : Hid (x.c.k = 1) := Lib.hid hk
  clear hk
  have ex1 : IntKind.i64.wrap ((lx : Int) - 1) = (lx : Int) - 1 := IntWalk.i64_in _ (by omega)
  have ey1 : IntKind.i64.wrap ((ly : Int) - 1) = (ly : Int) - 1 := IntWalk.i64_in _ (by omega)
  have HLX := Lib.hid (And.intro hlx hly)
  clear hlx hly
  unfold envA gtV at HA HB
  have MC : ∀ W, Calls Try.prog 21 #[.int .i64 8, .int .i64 a.t, .int .i64 b.t] W fun e w' => e = .returned (.int .i64 T) ∧ W = w' := fun W => by have := mixed_c 8 a.t b.t W; rwa [hT] at this
  have LX : ∀ W, Calls Try.prog 23 #[.int .i64 T, .int .i64 a.v] W fun e w' => e = .returned (.int .i64 xx) ∧ W = w' := fun W => by have := wrap_c T a.v W; rwa [hxx] at this
  have LY : ∀ W, Calls Try.prog 23 #[.int .i64 T, .int .i64 b.v] W fun e w' => e = .returned (.int .i64 yy) ∧ W = w' := fun W => by have := wrap_c T b.v W; rwa [hyy] at this
  have LR : ∀ W, Calls Try.prog 22 #[.int .i64 x.c.rel, .int .i64 xx, .int .i64 yy] W fun e w' => e = .returned (.bool q) ∧ W = w' := fun W => by have := rel_c x.c.rel xx yy W; rwa [hq] at this
  obtain ⟨av, hav⟩ : ∃ z, a.v = z := ⟨_, rfl⟩
  obtain ⟨bv, hbv⟩ : ∃ z, b.v = z := ⟨_, rfl⟩
  have HV := Lib.hid (And.intro hav hbv)
  rw [hav] at LX
  rw [hbv] at LY
  have HZ := Lib.hid (And.intro hz hz2)
  clear hz hz2 hav hbv hxx hyy hq hT
  obtain ⟨mp, ba, bl, bc⟩ := v
  unfold envA
  simp only at HA HB
  have HE := Lib.hid hE
  have m0 := hE.c0
  have m1 := hE.c1
  have m2 := hE.c2
  have m3 := hE.c3
  have m4 := hE.c4
  have m5 := hE.c5
  have m6 := hE.c6
  have hj0 : (0 : Int) ≤ (j : Int) := by omega
  have hj1 : (j : Int) < (len : Int) := by omega
  have hg0 : g ≠ w.heap.size := by have := hE.lt; omega
  clear hE
  simp only
  go_enter Try.func10, Try.ntmps10
  go_upto_region 1 with fail
  refine at_world (fun W => Below w.heap.size w W ∧ W.heap.size = w.heap.size + 1 ∧ Bx6 W w.heap.size ⟨mp, ba, bl, bc⟩ o res t ∧ BxC W g (j * 7) x) ⟨(by repeat' (first | exact Below.refl _ _ | (refine Below.alloc ?_ ?_ _) | (refine Below.setCell ?_ ?_ _) | (refine Below.drew ?_) | (refine below_next ?_ ?_ (by assumption)) | omega | (simp; done) | (simp; omega))), by simp, ⟨by first | (simp; done) | (simp; omega), by simp [go_sem], by simp [go_sem], by simp [go_sem], by simp [go_sem], by simp [go_sem], by simp [go_sem]⟩, HE.out.below (by repeat' (first | exact Below.refl _ _ | (refine Below.alloc ?_ ?_ _) | (refine Below.setCell ?_ ?_ _) | (refine Below.drew ?_) | (refine below_next ?_ ?_ (by assumption)) | omega | (simp; done) | (simp; omega)))⟩ ?_
  rintro W0 ⟨hb0, hz0, B6, BE⟩
  clear m0 m1 m2 m3 m4 m5 m6
  have m0 := BE.c0
  have m1 := BE.c1
  have m2 := BE.c2
  have m3 := BE.c3
  have m4 := BE.c4
  have m5 := BE.c5
  have m6 := BE.c6
  go_upto_region 4 with fail
  refine at_world (fun W => TsI w W x ⟨mp, ba, bl, bc⟩ o res t) ⟨below_next hb0 hb0.size (by repeat' (first | exact Below.refl _ _ | (refine Below.alloc ?_ ?_ _) | (refine Below.setCell ?_ ?_ _) | (refine Below.drew ?_) | (refine below_next ?_ ?_ (by assumption)) | omega | (simp; done) | (simp; omega))), B6.below (by repeat' (first | exact Below.refl _ _ | (refine Below.alloc ?_ ?_ _) | (refine Below.setCell ?_ ?_ _) | (refine Below.drew ?_) | (refine below_next ?_ ?_ (by assumption)) | omega | (simp; done) | (simp; omega))), by rw [← hz0]; exact ⟨by first | (simp; done) | (simp; omega), by simp [go_sem], by simp [go_sem], by simp [go_sem], by simp [go_sem], by simp [go_sem], by simp [go_sem], by simp [go_sem]⟩⟩ ?_
  intro W1 N1
  (try simp only [hz0])
  clear m0 m1 m2 m3 m4 m5 m6 hb0 hz0 B6 BE
  have N := Lib.hid N1
  have n0 := (N1.bc).c0; have n1 := (N1.bc).box1; have n2 := (N1.bc).box2; have n3 := (N1.bc).box3; have n4 := (N1.bc).box4; have n5 := (N1.bc).box5; have n6 := (N1.bc).box6; have e0 := (N1.b6).c0; have e1 := (N1.b6).c1; have e2 := (N1.b6).c2; have e3 := (N1.b6).c3; have e4 := (N1.b6).c4; have e5 := (N1.b6).c5
  clear N1
  rw [HK.out] at n0
  rw [HLX.out.1] at n2
  rw [HLX.out.2] at n3
  go_upto_region 10 with (go_at_call 20; refine (HA _ N.out.hb).mono ?_; rintro e' w5 ⟨rfl, hb5⟩; have N := Lib.hid (N.out.below hb5); clear hb5 HA)
  refine at_world (fun W => TsI w W x ⟨mp, ba, bl, bc⟩ o res t ∧ Bx4 W w5.heap.size a) ⟨N.out.below (by repeat' (first | exact Below.refl _ _ | (refine Below.alloc ?_ ?_ _) | (refine Below.setCell ?_ ?_ _) | (refine Below.drew ?_) | (refine below_next ?_ ?_ (by assumption)) | omega | (simp; done) | (simp; omega))), ⟨by first | (simp; done) | (simp; omega), by simp [go_sem], by simp [go_sem], by simp [go_sem], by simp [go_sem], by simp [go_sem], by simp [go_sem], by simp [go_sem], by simp [go_sem]⟩⟩ ?_
  rintro W6 ⟨N6, A6⟩
  obtain ⟨D3, hD3⟩ : ∃ x, w5.heap.size = x := ⟨_, rfl⟩
  simp only [hD3] at A6 ⊢
  clear hD3 N n0 n1 n2 n3 n4 n5 n6 e0 e1 e2 e3 e4 e5
  have N := Lib.hid N6
  have AA := Lib.hid A6
  have n0 := (N6.bc).c0; have n1 := (N6.bc).box1; have n2 := (N6.bc).box2; have n3 := (N6.bc).box3; have n4 := (N6.bc).box4; have n5 := (N6.bc).box5; have n6 := (N6.bc).box6; have e0 := (N6.b6).c0; have e1 := (N6.b6).c1; have e2 := (N6.b6).c2; have e3 := (N6.b6).c3; have e4 := (N6.b6).c4; have e5 := (N6.b6).c5
  have x0 := (A6).c0; have x1 := (A6).c1; have x2 := (A6).c2; have x3 := (A6).c3; have xf0 := (A6).f0; have xf1 := (A6).f1; have xf2 := (A6).f2; have xf3 := (A6).f3
  clear N6 A6
  rw [HK.out] at n0
  rw [HLX.out.1] at n2
  rw [HLX.out.2] at n3
  rw [HZ.out.1] at x2
  go_upto_region 13 with (go_at_call 20; refine (HB _ N.out.hb).mono ?_; rintro e' w7 ⟨rfl, hb7⟩; have N := Lib.hid (N.out.below hb7); have AA := Lib.hid (AA.out.below hb7); clear hb7 HB)
  refine at_world (fun W => TsI w W x ⟨mp, ba, bl, bc⟩ o res t ∧ Bx4 W D3 a ∧ Bx4 W w7.heap.size b) ⟨N.out.below (by repeat' (first | exact Below.refl _ _ | (refine Below.alloc ?_ ?_ _) | (refine Below.setCell ?_ ?_ _) | (refine Below.drew ?_) | (refine below_next ?_ ?_ (by assumption)) | omega | (simp; done) | (simp; omega))), AA.out.below (by repeat' (first | exact Below.refl _ _ | (refine Below.alloc ?_ ?_ _) | (refine Below.setCell ?_ ?_ _) | (refine Below.drew ?_) | (refine below_next ?_ ?_ (by assumption)) | omega | (simp; done) | (simp; omega))), ⟨by first | (simp; done) | (simp; omega), by simp [go_sem], by simp [go_sem], by simp [go_sem], by simp [go_sem], by simp [go_sem], by simp [go_sem], by simp [go_sem], by simp [go_sem]⟩⟩ ?_
  rintro W8 ⟨N8, A8, B8⟩
  obtain ⟨D4, hD4⟩ : ∃ x, w7.heap.size = x := ⟨_, rfl⟩
  simp only [hD4] at B8 ⊢
  clear hD4 N AA n0 n1 n2 n3 n4 n5 n6 e0 e1 e2 e3 e4 e5 x0 xf0 x1 xf1 x2 xf2 x3 xf3
  have N := Lib.hid N8
  have n0 := (N8.bc).c0; have n1 := (N8.bc).box1; have n2 := (N8.bc).box2; have n3 := (N8.bc).box3; have n4 := (N8.bc).box4; have n5 := (N8.bc).box5; have n6 := (N8.bc).box6; have e0 := (N8.b6).c0; have e1 := (N8.b6).c1; have e2 := (N8.b6).c2; have e3 := (N8.b6).c3; have e4 := (N8.b6).c4; have e5 := (N8.b6).c5
  have x0 := (A8).c0; have x1 := (A8).c1; have x2 := (A8).c2; have x3 := (A8).c3; have xf0 := (A8).f0; have xf1 := (A8).f1; have xf2 := (A8).f2; have xf3 := (A8).f3
  have y0 := (B8).c0; have y1 := (B8).c1; have y2 := (B8).c2; have y3 := (B8).c3; have yf0 := (B8).f0; have yf1 := (B8).f1; have yf2 := (B8).f2; have yf3 := (B8).f3
  clear N8 A8 B8
  rw [HK.out] at n0
  rw [HZ.out.1] at x2
  rw [HZ.out.2] at y2
  rw [HV.out.1] at x0
  rw [HV.out.2] at y0
  go_upto_region 16 with (go_at_call 21; refine (MC _).mono ?_; rintro e' w' ⟨rfl, rfl⟩; clear MC)
  have d0 := fun (x' : WIn (Below W8.heap.size W8)) => cell_later x'.h n1
  have d1 := fun (x' : WIn (Below W8.heap.size W8)) => cell_later x'.h x0
  have d2 := fun (x' : WIn (Below W8.heap.size W8)) => cell_later x'.h y0
  refine region_in (Below W8.heap.size W8) (by kernel_rfl) (by kernel_rfl) (Below.refl _ _).drew (fun inst => ?_)
  iterate 14 (go_big_quiet_step (first | (go_at_call 23; with_reducible exact call_same _ (LX _)) | (go_at_call 23; with_reducible exact call_same _ (LY _)) | (go_at_call 22; exact call_same _ (LR _))))
  refine wpQuiet_nil ?_
  intro wd hbd
  have hbz := below_next N.out.hb N.out.hb.size hbd
  go_wp2_with fail
  go_ret3
  exact ⟨rfl, hbz⟩
set_option maxRecDepth 100000 in
set_option maxHeartbeats 6400000 in
theorem ts_not (x : Cv) (v o : NV) (res t : Int) (g len cc j : Nat) (w : World) (hj : j < len) (hE : BxC w g (j * 7) x) (hk : x.c.k = 2) (qb : Bool) (qu qa : Int) (HA : ∀ W, Below w.heap.size w W → Calls Try.prog 10 #[.slice (some ⟨g, 0, none⟩) len cc, .int .i64 x.c.a, envA v o res t] W fun e' w' => e' = .returned (.tuple #[.bool qb, .int .i64 qu, .int .i64 qa]) ∧ Below W.heap.size W w')  :
    Calls Try.prog 10 #[.slice (some ⟨g, 0, none⟩) len cc, .int .i64 (j : Int), envA v o res t] w fun e' w' => e' = .returned (.tuple #[.bool (!qb && decide (qu = 0)), .int .i64 qu, .int .i64 qa]) ∧ Below w.heap.size w w' := by
  have HK : Hid (x.c.k = 2) := Lib.hid hk
  clear hk
  unfold envA at HA
  obtain ⟨z, hz⟩ : ∃ z, (!qb && decide (qu = 0)) = z := ⟨_, rfl⟩
  rw [hz]
  have HC : (qb = true ∧ z = false) ∨ (qb = false ∧ qu = 0 ∧ z = true) ∨ (qb = false ∧ (qu == 0) = false ∧ z = false) := by
    cases qb with
    | true => exact .inl ⟨rfl, by rw [← hz]; rfl⟩
    | false =>
      by_cases h : qu = 0
      · exact .inr (.inl ⟨rfl, h, by rw [← hz, h]; rfl⟩)
      · exact .inr (.inr ⟨rfl, by rw [beq_eq_false_iff_ne]; exact h, by rw [← hz, decide_eq_false h]; rfl⟩)
  clear hz
  rcases HC with ⟨rfl, rfl⟩ | ⟨rfl, rfl, rfl⟩ | ⟨rfl, u0, rfl⟩
  · obtain ⟨mp, ba, bl, bc⟩ := v
    unfold envA
    simp only at HA
    have HE := Lib.hid hE
    have m0 := hE.c0
    have m1 := hE.c1
    have m2 := hE.c2
    have m3 := hE.c3
    have m4 := hE.c4
    have m5 := hE.c5
    have m6 := hE.c6
    have hj0 : (0 : Int) ≤ (j : Int) := by omega
    have hj1 : (j : Int) < (len : Int) := by omega
    have hg0 : g ≠ w.heap.size := by have := hE.lt; omega
    clear hE
    simp only
    go_enter Try.func10, Try.ntmps10
    go_upto_region 1 with fail
    refine at_world (fun W => Below w.heap.size w W ∧ W.heap.size = w.heap.size + 1 ∧ Bx6 W w.heap.size ⟨mp, ba, bl, bc⟩ o res t ∧ BxC W g (j * 7) x) ⟨(by repeat' (first | exact Below.refl _ _ | (refine Below.alloc ?_ ?_ _) | (refine Below.setCell ?_ ?_ _) | (refine Below.drew ?_) | (refine below_next ?_ ?_ (by assumption)) | omega | (simp; done) | (simp; omega))), by simp, ⟨by first | (simp; done) | (simp; omega), by simp [go_sem], by simp [go_sem], by simp [go_sem], by simp [go_sem], by simp [go_sem], by simp [go_sem]⟩, HE.out.below (by repeat' (first | exact Below.refl _ _ | (refine Below.alloc ?_ ?_ _) | (refine Below.setCell ?_ ?_ _) | (refine Below.drew ?_) | (refine below_next ?_ ?_ (by assumption)) | omega | (simp; done) | (simp; omega)))⟩ ?_
    rintro W0 ⟨hb0, hz0, B6, BE⟩
    clear m0 m1 m2 m3 m4 m5 m6
    have m0 := BE.c0
    have m1 := BE.c1
    have m2 := BE.c2
    have m3 := BE.c3
    have m4 := BE.c4
    have m5 := BE.c5
    have m6 := BE.c6
    go_upto_region 4 with fail
    refine at_world (fun W => TsI w W x ⟨mp, ba, bl, bc⟩ o res t) ⟨below_next hb0 hb0.size (by repeat' (first | exact Below.refl _ _ | (refine Below.alloc ?_ ?_ _) | (refine Below.setCell ?_ ?_ _) | (refine Below.drew ?_) | (refine below_next ?_ ?_ (by assumption)) | omega | (simp; done) | (simp; omega))), B6.below (by repeat' (first | exact Below.refl _ _ | (refine Below.alloc ?_ ?_ _) | (refine Below.setCell ?_ ?_ _) | (refine Below.drew ?_) | (refine below_next ?_ ?_ (by assumption)) | omega | (simp; done) | (simp; omega))), by rw [← hz0]; exact ⟨by first | (simp; done) | (simp; omega), by simp [go_sem], by simp [go_sem], by simp [go_sem], by simp [go_sem], by simp [go_sem], by simp [go_sem], by simp [go_sem]⟩⟩ ?_
    intro W1 N1
    (try simp only [hz0])
    clear m0 m1 m2 m3 m4 m5 m6 hb0 hz0 B6 BE
    have N := Lib.hid N1
    have n0 := (N1.bc).c0; have n1 := (N1.bc).box1; have n2 := (N1.bc).box2; have n3 := (N1.bc).box3; have n4 := (N1.bc).box4; have n5 := (N1.bc).box5; have n6 := (N1.bc).box6; have e0 := (N1.b6).c0; have e1 := (N1.b6).c1; have e2 := (N1.b6).c2; have e3 := (N1.b6).c3; have e4 := (N1.b6).c4; have e5 := (N1.b6).c5
    clear N1
    rw [HK.out] at n0
    go_wp2_with (go_at_call 10; refine (HA _ N.out.hb).mono ?_; rintro e' w5 ⟨rfl, hb5⟩; have N := Lib.hid (N.out.below hb5); have n0 := (N.out.bc).c0; have n1 := (N.out.bc).box1; have n2 := (N.out.bc).box2; have n3 := (N.out.bc).box3; have n4 := (N.out.bc).box4; have n5 := (N.out.bc).box5; have n6 := (N.out.bc).box6; have e0 := (N.out.b6).c0; have e1 := (N.out.b6).c1; have e2 := (N.out.b6).c2; have e3 := (N.out.b6).c3; have e4 := (N.out.b6).c4; have e5 := (N.out.b6).c5; rw [HK.out] at n0; clear hb5 HA)
    go_ret3
    exact ⟨rfl, N.out.hb⟩
  · obtain ⟨mp, ba, bl, bc⟩ := v
    unfold envA
    simp only at HA
    have HE := Lib.hid hE
    have m0 := hE.c0
    have m1 := hE.c1
    have m2 := hE.c2
    have m3 := hE.c3
    have m4 := hE.c4
    have m5 := hE.c5
    have m6 := hE.c6
    have hj0 : (0 : Int) ≤ (j : Int) := by omega
    have hj1 : (j : Int) < (len : Int) := by omega
    have hg0 : g ≠ w.heap.size := by have := hE.lt; omega
    clear hE
    simp only
    go_enter Try.func10, Try.ntmps10
    go_upto_region 1 with fail
    refine at_world (fun W => Below w.heap.size w W ∧ W.heap.size = w.heap.size + 1 ∧ Bx6 W w.heap.size ⟨mp, ba, bl, bc⟩ o res t ∧ BxC W g (j * 7) x) ⟨(by repeat' (first | exact Below.refl _ _ | (refine Below.alloc ?_ ?_ _) | (refine Below.setCell ?_ ?_ _) | (refine Below.drew ?_) | (refine below_next ?_ ?_ (by assumption)) | omega | (simp; done) | (simp; omega))), by simp, ⟨by first | (simp; done) | (simp; omega), by simp [go_sem], by simp [go_sem], by simp [go_sem], by simp [go_sem], by simp [go_sem], by simp [go_sem]⟩, HE.out.below (by repeat' (first | exact Below.refl _ _ | (refine Below.alloc ?_ ?_ _) | (refine Below.setCell ?_ ?_ _) | (refine Below.drew ?_) | (refine below_next ?_ ?_ (by assumption)) | omega | (simp; done) | (simp; omega)))⟩ ?_
    rintro W0 ⟨hb0, hz0, B6, BE⟩
    clear m0 m1 m2 m3 m4 m5 m6
    have m0 := BE.c0
    have m1 := BE.c1
    have m2 := BE.c2
    have m3 := BE.c3
    have m4 := BE.c4
    have m5 := BE.c5
    have m6 := BE.c6
    go_upto_region 4 with fail
    refine at_world (fun W => TsI w W x ⟨mp, ba, bl, bc⟩ o res t) ⟨below_next hb0 hb0.size (by repeat' (first | exact Below.refl _ _ | (refine Below.alloc ?_ ?_ _) | (refine Below.setCell ?_ ?_ _) | (refine Below.drew ?_) | (refine below_next ?_ ?_ (by assumption)) | omega | (simp; done) | (simp; omega))), B6.below (by repeat' (first | exact Below.refl _ _ | (refine Below.alloc ?_ ?_ _) | (refine Below.setCell ?_ ?_ _) | (refine Below.drew ?_) | (refine below_next ?_ ?_ (by assumption)) | omega | (simp; done) | (simp; omega))), by rw [← hz0]; exact ⟨by first | (simp; done) | (simp; omega), by simp [go_sem], by simp [go_sem], by simp [go_sem], by simp [go_sem], by simp [go_sem], by simp [go_sem], by simp [go_sem]⟩⟩ ?_
    intro W1 N1
    (try simp only [hz0])
    clear m0 m1 m2 m3 m4 m5 m6 hb0 hz0 B6 BE
    have N := Lib.hid N1
    have n0 := (N1.bc).c0; have n1 := (N1.bc).box1; have n2 := (N1.bc).box2; have n3 := (N1.bc).box3; have n4 := (N1.bc).box4; have n5 := (N1.bc).box5; have n6 := (N1.bc).box6; have e0 := (N1.b6).c0; have e1 := (N1.b6).c1; have e2 := (N1.b6).c2; have e3 := (N1.b6).c3; have e4 := (N1.b6).c4; have e5 := (N1.b6).c5
    clear N1
    rw [HK.out] at n0
    go_wp2_with (go_at_call 10; refine (HA _ N.out.hb).mono ?_; rintro e' w5 ⟨rfl, hb5⟩; have N := Lib.hid (N.out.below hb5); have n0 := (N.out.bc).c0; have n1 := (N.out.bc).box1; have n2 := (N.out.bc).box2; have n3 := (N.out.bc).box3; have n4 := (N.out.bc).box4; have n5 := (N.out.bc).box5; have n6 := (N.out.bc).box6; have e0 := (N.out.b6).c0; have e1 := (N.out.b6).c1; have e2 := (N.out.b6).c2; have e3 := (N.out.b6).c3; have e4 := (N.out.b6).c4; have e5 := (N.out.b6).c5; rw [HK.out] at n0; clear hb5 HA)
    go_ret3
    exact ⟨rfl, N.out.hb⟩
  · obtain ⟨mp, ba, bl, bc⟩ := v
    unfold envA
    simp only at HA
    have HE := Lib.hid hE
    have m0 := hE.c0
    have m1 := hE.c1
    have m2 := hE.c2
    have m3 := hE.c3
    have m4 := hE.c4
    have m5 := hE.c5
    have m6 := hE.c6
    have hj0 : (0 : Int) ≤ (j : Int) := by omega
    have hj1 : (j : Int) < (len : Int) := by omega
    have hg0 : g ≠ w.heap.size := by have := hE.lt; omega
    clear hE
    simp only
    go_enter Try.func10, Try.ntmps10
    go_upto_region 1 with fail
    refine at_world (fun W => Below w.heap.size w W ∧ W.heap.size = w.heap.size + 1 ∧ Bx6 W w.heap.size ⟨mp, ba, bl, bc⟩ o res t ∧ BxC W g (j * 7) x) ⟨(by repeat' (first | exact Below.refl _ _ | (refine Below.alloc ?_ ?_ _) | (refine Below.setCell ?_ ?_ _) | (refine Below.drew ?_) | (refine below_next ?_ ?_ (by assumption)) | omega | (simp; done) | (simp; omega))), by simp, ⟨by first | (simp; done) | (simp; omega), by simp [go_sem], by simp [go_sem], by simp [go_sem], by simp [go_sem], by simp [go_sem], by simp [go_sem]⟩, HE.out.below (by repeat' (first | exact Below.refl _ _ | (refine Below.alloc ?_ ?_ _) | (refine Below.setCell ?_ ?_ _) | (refine Below.drew ?_) | (refine below_next ?_ ?_ (by assumption)) | omega | (simp; done) | (simp; omega)))⟩ ?_
    rintro W0 ⟨hb0, hz0, B6, BE⟩
    clear m0 m1 m2 m3 m4 m5 m6
    have m0 := BE.c0
    have m1 := BE.c1
    have m2 := BE.c2
    have m3 := BE.c3
    have m4 := BE.c4
    have m5 := BE.c5
    have m6 := BE.c6
    go_upto_region 4 with fail
    refine at_world (fun W => TsI w W x ⟨mp, ba, bl, bc⟩ o res t) ⟨below_next hb0 hb0.size (by repeat' (first | exact Below.refl _ _ | (refine Below.alloc ?_ ?_ _) | (refine Below.setCell ?_ ?_ _) | (refine Below.drew ?_) | (refine below_next ?_ ?_ (by assumption)) | omega | (simp; done) | (simp; omega))), B6.below (by repeat' (first | exact Below.refl _ _ | (refine Below.alloc ?_ ?_ _) | (refine Below.setCell ?_ ?_ _) | (refine Below.drew ?_) | (refine below_next ?_ ?_ (by assumption)) | omega | (simp; done) | (simp; omega))), by rw [← hz0]; exact ⟨by first | (simp; done) | (simp; omega), by simp [go_sem], by simp [go_sem], by simp [go_sem], by simp [go_sem], by simp [go_sem], by simp [go_sem], by simp [go_sem]⟩⟩ ?_
    intro W1 N1
    (try simp only [hz0])
    clear m0 m1 m2 m3 m4 m5 m6 hb0 hz0 B6 BE
    have N := Lib.hid N1
    have n0 := (N1.bc).c0; have n1 := (N1.bc).box1; have n2 := (N1.bc).box2; have n3 := (N1.bc).box3; have n4 := (N1.bc).box4; have n5 := (N1.bc).box5; have n6 := (N1.bc).box6; have e0 := (N1.b6).c0; have e1 := (N1.b6).c1; have e2 := (N1.b6).c2; have e3 := (N1.b6).c3; have e4 := (N1.b6).c4; have e5 := (N1.b6).c5
    clear N1
    rw [HK.out] at n0
    go_wp2_with (go_at_call 10; refine (HA _ N.out.hb).mono ?_; rintro e' w5 ⟨rfl, hb5⟩; have N := Lib.hid (N.out.below hb5); have n0 := (N.out.bc).c0; have n1 := (N.out.bc).box1; have n2 := (N.out.bc).box2; have n3 := (N.out.bc).box3; have n4 := (N.out.bc).box4; have n5 := (N.out.bc).box5; have n6 := (N.out.bc).box6; have e0 := (N.out.b6).c0; have e1 := (N.out.b6).c1; have e2 := (N.out.b6).c2; have e3 := (N.out.b6).c3; have e4 := (N.out.b6).c4; have e5 := (N.out.b6).c5; rw [HK.out] at n0; clear hb5 HA)
    go_ret3
    exact ⟨rfl, N.out.hb⟩
set_option maxRecDepth 100000 in
set_option maxHeartbeats 6400000 in
theorem ts_and1 (x : Cv) (v o : NV) (res t : Int) (g len cc j : Nat) (w : World) (hj : j < len) (hE : BxC w g (j * 7) x) (hk : x.c.k = 3) (qu qa : Int) (HA : ∀ W, Below w.heap.size w W → Calls Try.prog 10 #[.slice (some ⟨g, 0, none⟩) len cc, .int .i64 x.c.a, envA v o res t] W fun e' w' => e' = .returned (.tuple #[.bool false, .int .i64 qu, .int .i64 qa]) ∧ Below W.heap.size W w')  :
    Calls Try.prog 10 #[.slice (some ⟨g, 0, none⟩) len cc, .int .i64 (j : Int), envA v o res t] w fun e' w' => e' = .returned (.tuple #[.bool false, .int .i64 qu, .int .i64 qa]) ∧ Below w.heap.size w w' := by
  have HK : Hid (x.c.k = 3) := Lib.hid hk
  clear hk
  unfold envA at HA
  have hcu : qu = 0 ∨ ((qu == 0) = false ∧ (qu != 0) = true) := by
    by_cases h : qu = 0
    · exact .inl h
    · have h2 : (qu == 0) = false := by rw [beq_eq_false_iff_ne]; exact h
      exact .inr ⟨h2, by rw [bne, h2]; rfl⟩
  rcases hcu with rfl | ⟨u0, u1⟩
  · obtain ⟨mp, ba, bl, bc⟩ := v
    unfold envA
    simp only at HA
    have HE := Lib.hid hE
    have m0 := hE.c0
    have m1 := hE.c1
    have m2 := hE.c2
    have m3 := hE.c3
    have m4 := hE.c4
    have m5 := hE.c5
    have m6 := hE.c6
    have hj0 : (0 : Int) ≤ (j : Int) := by omega
    have hj1 : (j : Int) < (len : Int) := by omega
    have hg0 : g ≠ w.heap.size := by have := hE.lt; omega
    clear hE
    simp only
    go_enter Try.func10, Try.ntmps10
    go_upto_region 1 with fail
    refine at_world (fun W => Below w.heap.size w W ∧ W.heap.size = w.heap.size + 1 ∧ Bx6 W w.heap.size ⟨mp, ba, bl, bc⟩ o res t ∧ BxC W g (j * 7) x) ⟨(by repeat' (first | exact Below.refl _ _ | (refine Below.alloc ?_ ?_ _) | (refine Below.setCell ?_ ?_ _) | (refine Below.drew ?_) | (refine below_next ?_ ?_ (by assumption)) | omega | (simp; done) | (simp; omega))), by simp, ⟨by first | (simp; done) | (simp; omega), by simp [go_sem], by simp [go_sem], by simp [go_sem], by simp [go_sem], by simp [go_sem], by simp [go_sem]⟩, HE.out.below (by repeat' (first | exact Below.refl _ _ | (refine Below.alloc ?_ ?_ _) | (refine Below.setCell ?_ ?_ _) | (refine Below.drew ?_) | (refine below_next ?_ ?_ (by assumption)) | omega | (simp; done) | (simp; omega)))⟩ ?_
    rintro W0 ⟨hb0, hz0, B6, BE⟩
    clear m0 m1 m2 m3 m4 m5 m6
    have m0 := BE.c0
    have m1 := BE.c1
    have m2 := BE.c2
    have m3 := BE.c3
    have m4 := BE.c4
    have m5 := BE.c5
    have m6 := BE.c6
    go_upto_region 4 with fail
    refine at_world (fun W => TsI w W x ⟨mp, ba, bl, bc⟩ o res t) ⟨below_next hb0 hb0.size (by repeat' (first | exact Below.refl _ _ | (refine Below.alloc ?_ ?_ _) | (refine Below.setCell ?_ ?_ _) | (refine Below.drew ?_) | (refine below_next ?_ ?_ (by assumption)) | omega | (simp; done) | (simp; omega))), B6.below (by repeat' (first | exact Below.refl _ _ | (refine Below.alloc ?_ ?_ _) | (refine Below.setCell ?_ ?_ _) | (refine Below.drew ?_) | (refine below_next ?_ ?_ (by assumption)) | omega | (simp; done) | (simp; omega))), by rw [← hz0]; exact ⟨by first | (simp; done) | (simp; omega), by simp [go_sem], by simp [go_sem], by simp [go_sem], by simp [go_sem], by simp [go_sem], by simp [go_sem], by simp [go_sem]⟩⟩ ?_
    intro W1 N1
    (try simp only [hz0])
    clear m0 m1 m2 m3 m4 m5 m6 hb0 hz0 B6 BE
    have N := Lib.hid N1
    have n0 := (N1.bc).c0; have n1 := (N1.bc).box1; have n2 := (N1.bc).box2; have n3 := (N1.bc).box3; have n4 := (N1.bc).box4; have n5 := (N1.bc).box5; have n6 := (N1.bc).box6; have e0 := (N1.b6).c0; have e1 := (N1.b6).c1; have e2 := (N1.b6).c2; have e3 := (N1.b6).c3; have e4 := (N1.b6).c4; have e5 := (N1.b6).c5
    clear N1
    rw [HK.out] at n0
    go_wp2_with (go_at_call 10; refine (HA _ N.out.hb).mono ?_; rintro e' w5 ⟨rfl, hb5⟩; have N := Lib.hid (N.out.below hb5); have n0 := (N.out.bc).c0; have n1 := (N.out.bc).box1; have n2 := (N.out.bc).box2; have n3 := (N.out.bc).box3; have n4 := (N.out.bc).box4; have n5 := (N.out.bc).box5; have n6 := (N.out.bc).box6; have e0 := (N.out.b6).c0; have e1 := (N.out.b6).c1; have e2 := (N.out.b6).c2; have e3 := (N.out.b6).c3; have e4 := (N.out.b6).c4; have e5 := (N.out.b6).c5; rw [HK.out] at n0; clear hb5 HA)
    go_ret3
    exact ⟨rfl, N.out.hb⟩
  · obtain ⟨mp, ba, bl, bc⟩ := v
    unfold envA
    simp only at HA
    have HE := Lib.hid hE
    have m0 := hE.c0
    have m1 := hE.c1
    have m2 := hE.c2
    have m3 := hE.c3
    have m4 := hE.c4
    have m5 := hE.c5
    have m6 := hE.c6
    have hj0 : (0 : Int) ≤ (j : Int) := by omega
    have hj1 : (j : Int) < (len : Int) := by omega
    have hg0 : g ≠ w.heap.size := by have := hE.lt; omega
    clear hE
    simp only
    go_enter Try.func10, Try.ntmps10
    go_upto_region 1 with fail
    refine at_world (fun W => Below w.heap.size w W ∧ W.heap.size = w.heap.size + 1 ∧ Bx6 W w.heap.size ⟨mp, ba, bl, bc⟩ o res t ∧ BxC W g (j * 7) x) ⟨(by repeat' (first | exact Below.refl _ _ | (refine Below.alloc ?_ ?_ _) | (refine Below.setCell ?_ ?_ _) | (refine Below.drew ?_) | (refine below_next ?_ ?_ (by assumption)) | omega | (simp; done) | (simp; omega))), by simp, ⟨by first | (simp; done) | (simp; omega), by simp [go_sem], by simp [go_sem], by simp [go_sem], by simp [go_sem], by simp [go_sem], by simp [go_sem]⟩, HE.out.below (by repeat' (first | exact Below.refl _ _ | (refine Below.alloc ?_ ?_ _) | (refine Below.setCell ?_ ?_ _) | (refine Below.drew ?_) | (refine below_next ?_ ?_ (by assumption)) | omega | (simp; done) | (simp; omega)))⟩ ?_
    rintro W0 ⟨hb0, hz0, B6, BE⟩
    clear m0 m1 m2 m3 m4 m5 m6
    have m0 := BE.c0
    have m1 := BE.c1
    have m2 := BE.c2
    have m3 := BE.c3
    have m4 := BE.c4
    have m5 := BE.c5
    have m6 := BE.c6
    go_upto_region 4 with fail
    refine at_world (fun W => TsI w W x ⟨mp, ba, bl, bc⟩ o res t) ⟨below_next hb0 hb0.size (by repeat' (first | exact Below.refl _ _ | (refine Below.alloc ?_ ?_ _) | (refine Below.setCell ?_ ?_ _) | (refine Below.drew ?_) | (refine below_next ?_ ?_ (by assumption)) | omega | (simp; done) | (simp; omega))), B6.below (by repeat' (first | exact Below.refl _ _ | (refine Below.alloc ?_ ?_ _) | (refine Below.setCell ?_ ?_ _) | (refine Below.drew ?_) | (refine below_next ?_ ?_ (by assumption)) | omega | (simp; done) | (simp; omega))), by rw [← hz0]; exact ⟨by first | (simp; done) | (simp; omega), by simp [go_sem], by simp [go_sem], by simp [go_sem], by simp [go_sem], by simp [go_sem], by simp [go_sem], by simp [go_sem]⟩⟩ ?_
    intro W1 N1
    (try simp only [hz0])
    clear m0 m1 m2 m3 m4 m5 m6 hb0 hz0 B6 BE
    have N := Lib.hid N1
    have n0 := (N1.bc).c0; have n1 := (N1.bc).box1; have n2 := (N1.bc).box2; have n3 := (N1.bc).box3; have n4 := (N1.bc).box4; have n5 := (N1.bc).box5; have n6 := (N1.bc).box6; have e0 := (N1.b6).c0; have e1 := (N1.b6).c1; have e2 := (N1.b6).c2; have e3 := (N1.b6).c3; have e4 := (N1.b6).c4; have e5 := (N1.b6).c5
    clear N1
    rw [HK.out] at n0
    go_wp2_with (go_at_call 10; refine (HA _ N.out.hb).mono ?_; rintro e' w5 ⟨rfl, hb5⟩; have N := Lib.hid (N.out.below hb5); have n0 := (N.out.bc).c0; have n1 := (N.out.bc).box1; have n2 := (N.out.bc).box2; have n3 := (N.out.bc).box3; have n4 := (N.out.bc).box4; have n5 := (N.out.bc).box5; have n6 := (N.out.bc).box6; have e0 := (N.out.b6).c0; have e1 := (N.out.b6).c1; have e2 := (N.out.b6).c2; have e3 := (N.out.b6).c3; have e4 := (N.out.b6).c4; have e5 := (N.out.b6).c5; rw [HK.out] at n0; clear hb5 HA)
    go_ret3
    exact ⟨rfl, N.out.hb⟩
set_option maxRecDepth 100000 in
set_option maxHeartbeats 6400000 in
theorem ts_and2 (x : Cv) (v o : NV) (res t : Int) (g len cc j : Nat) (w : World) (hj : j < len) (hE : BxC w g (j * 7) x) (hk : x.c.k = 3) (qa pu pa : Int) (pb : Bool) (HA : ∀ W, Below w.heap.size w W → Calls Try.prog 10 #[.slice (some ⟨g, 0, none⟩) len cc, .int .i64 x.c.a, envA v o res t] W fun e' w' => e' = .returned (.tuple #[.bool true, .int .i64 0, .int .i64 qa]) ∧ Below W.heap.size W w') (HB : ∀ W, Below w.heap.size w W → Calls Try.prog 10 #[.slice (some ⟨g, 0, none⟩) len cc, .int .i64 x.c.b, envA v o res t] W fun e' w' => e' = .returned (.tuple #[.bool pb, .int .i64 pu, .int .i64 pa]) ∧ Below W.heap.size W w')  :
    Calls Try.prog 10 #[.slice (some ⟨g, 0, none⟩) len cc, .int .i64 (j : Int), envA v o res t] w fun e' w' => e' = .returned (.tuple #[.bool pb, .int .i64 pu, .int .i64 pa]) ∧ Below w.heap.size w w' := by
  have HK : Hid (x.c.k = 3) := Lib.hid hk
  clear hk
  unfold envA at HA HB
  obtain ⟨mp, ba, bl, bc⟩ := v
  unfold envA
  simp only at HA HB
  have HE := Lib.hid hE
  have m0 := hE.c0
  have m1 := hE.c1
  have m2 := hE.c2
  have m3 := hE.c3
  have m4 := hE.c4
  have m5 := hE.c5
  have m6 := hE.c6
  have hj0 : (0 : Int) ≤ (j : Int) := by omega
  have hj1 : (j : Int) < (len : Int) := by omega
  have hg0 : g ≠ w.heap.size := by have := hE.lt; omega
  clear hE
  simp only
  go_enter Try.func10, Try.ntmps10
  go_upto_region 1 with fail
  refine at_world (fun W => Below w.heap.size w W ∧ W.heap.size = w.heap.size + 1 ∧ Bx6 W w.heap.size ⟨mp, ba, bl, bc⟩ o res t ∧ BxC W g (j * 7) x) ⟨(by repeat' (first | exact Below.refl _ _ | (refine Below.alloc ?_ ?_ _) | (refine Below.setCell ?_ ?_ _) | (refine Below.drew ?_) | (refine below_next ?_ ?_ (by assumption)) | omega | (simp; done) | (simp; omega))), by simp, ⟨by first | (simp; done) | (simp; omega), by simp [go_sem], by simp [go_sem], by simp [go_sem], by simp [go_sem], by simp [go_sem], by simp [go_sem]⟩, HE.out.below (by repeat' (first | exact Below.refl _ _ | (refine Below.alloc ?_ ?_ _) | (refine Below.setCell ?_ ?_ _) | (refine Below.drew ?_) | (refine below_next ?_ ?_ (by assumption)) | omega | (simp; done) | (simp; omega)))⟩ ?_
  rintro W0 ⟨hb0, hz0, B6, BE⟩
  clear m0 m1 m2 m3 m4 m5 m6
  have m0 := BE.c0
  have m1 := BE.c1
  have m2 := BE.c2
  have m3 := BE.c3
  have m4 := BE.c4
  have m5 := BE.c5
  have m6 := BE.c6
  go_upto_region 4 with fail
  refine at_world (fun W => TsI w W x ⟨mp, ba, bl, bc⟩ o res t) ⟨below_next hb0 hb0.size (by repeat' (first | exact Below.refl _ _ | (refine Below.alloc ?_ ?_ _) | (refine Below.setCell ?_ ?_ _) | (refine Below.drew ?_) | (refine below_next ?_ ?_ (by assumption)) | omega | (simp; done) | (simp; omega))), B6.below (by repeat' (first | exact Below.refl _ _ | (refine Below.alloc ?_ ?_ _) | (refine Below.setCell ?_ ?_ _) | (refine Below.drew ?_) | (refine below_next ?_ ?_ (by assumption)) | omega | (simp; done) | (simp; omega))), by rw [← hz0]; exact ⟨by first | (simp; done) | (simp; omega), by simp [go_sem], by simp [go_sem], by simp [go_sem], by simp [go_sem], by simp [go_sem], by simp [go_sem], by simp [go_sem]⟩⟩ ?_
  intro W1 N1
  (try simp only [hz0])
  clear m0 m1 m2 m3 m4 m5 m6 hb0 hz0 B6 BE
  have N := Lib.hid N1
  have n0 := (N1.bc).c0; have n1 := (N1.bc).box1; have n2 := (N1.bc).box2; have n3 := (N1.bc).box3; have n4 := (N1.bc).box4; have n5 := (N1.bc).box5; have n6 := (N1.bc).box6; have e0 := (N1.b6).c0; have e1 := (N1.b6).c1; have e2 := (N1.b6).c2; have e3 := (N1.b6).c3; have e4 := (N1.b6).c4; have e5 := (N1.b6).c5
  clear N1
  rw [HK.out] at n0
  go_wp2_with (first | (go_at_call 10; refine (HA _ N.out.hb).mono ?_; rintro e' w5 ⟨rfl, hb5⟩; have N := Lib.hid (N.out.below hb5); have n0 := (N.out.bc).c0; have n1 := (N.out.bc).box1; have n2 := (N.out.bc).box2; have n3 := (N.out.bc).box3; have n4 := (N.out.bc).box4; have n5 := (N.out.bc).box5; have n6 := (N.out.bc).box6; have e0 := (N.out.b6).c0; have e1 := (N.out.b6).c1; have e2 := (N.out.b6).c2; have e3 := (N.out.b6).c3; have e4 := (N.out.b6).c4; have e5 := (N.out.b6).c5; rw [HK.out] at n0; clear hb5 HA) | (go_at_call 10; refine (HB _ N.out.hb).mono ?_; rintro e' w7 ⟨rfl, hb7⟩; have N := Lib.hid (N.out.below hb7); clear hb7 HB))
  go_ret3
  exact ⟨rfl, N.out.hb⟩
set_option maxRecDepth 100000 in
set_option maxHeartbeats 6400000 in
theorem ts_or1 (x : Cv) (v o : NV) (res t : Int) (g len cc j : Nat) (w : World) (hj : j < len) (hE : BxC w g (j * 7) x) (hk : x.c.k = 4) (qa : Int) (HA : ∀ W, Below w.heap.size w W → Calls Try.prog 10 #[.slice (some ⟨g, 0, none⟩) len cc, .int .i64 x.c.a, envA v o res t] W fun e' w' => e' = .returned (.tuple #[.bool true, .int .i64 0, .int .i64 qa]) ∧ Below W.heap.size W w')  :
    Calls Try.prog 10 #[.slice (some ⟨g, 0, none⟩) len cc, .int .i64 (j : Int), envA v o res t] w fun e' w' => e' = .returned (.tuple #[.bool true, .int .i64 0, .int .i64 qa]) ∧ Below w.heap.size w w' := by
  have HK : Hid (x.c.k = 4) := Lib.hid hk
  clear hk
  unfold envA at HA
  obtain ⟨mp, ba, bl, bc⟩ := v
  unfold envA
  simp only at HA
  have HE := Lib.hid hE
  have m0 := hE.c0
  have m1 := hE.c1
  have m2 := hE.c2
  have m3 := hE.c3
  have m4 := hE.c4
  have m5 := hE.c5
  have m6 := hE.c6
  have hj0 : (0 : Int) ≤ (j : Int) := by omega
  have hj1 : (j : Int) < (len : Int) := by omega
  have hg0 : g ≠ w.heap.size := by have := hE.lt; omega
  clear hE
  simp only
  go_enter Try.func10, Try.ntmps10
  go_upto_region 1 with fail
  refine at_world (fun W => Below w.heap.size w W ∧ W.heap.size = w.heap.size + 1 ∧ Bx6 W w.heap.size ⟨mp, ba, bl, bc⟩ o res t ∧ BxC W g (j * 7) x) ⟨(by repeat' (first | exact Below.refl _ _ | (refine Below.alloc ?_ ?_ _) | (refine Below.setCell ?_ ?_ _) | (refine Below.drew ?_) | (refine below_next ?_ ?_ (by assumption)) | omega | (simp; done) | (simp; omega))), by simp, ⟨by first | (simp; done) | (simp; omega), by simp [go_sem], by simp [go_sem], by simp [go_sem], by simp [go_sem], by simp [go_sem], by simp [go_sem]⟩, HE.out.below (by repeat' (first | exact Below.refl _ _ | (refine Below.alloc ?_ ?_ _) | (refine Below.setCell ?_ ?_ _) | (refine Below.drew ?_) | (refine below_next ?_ ?_ (by assumption)) | omega | (simp; done) | (simp; omega)))⟩ ?_
  rintro W0 ⟨hb0, hz0, B6, BE⟩
  clear m0 m1 m2 m3 m4 m5 m6
  have m0 := BE.c0
  have m1 := BE.c1
  have m2 := BE.c2
  have m3 := BE.c3
  have m4 := BE.c4
  have m5 := BE.c5
  have m6 := BE.c6
  go_upto_region 4 with fail
  refine at_world (fun W => TsI w W x ⟨mp, ba, bl, bc⟩ o res t) ⟨below_next hb0 hb0.size (by repeat' (first | exact Below.refl _ _ | (refine Below.alloc ?_ ?_ _) | (refine Below.setCell ?_ ?_ _) | (refine Below.drew ?_) | (refine below_next ?_ ?_ (by assumption)) | omega | (simp; done) | (simp; omega))), B6.below (by repeat' (first | exact Below.refl _ _ | (refine Below.alloc ?_ ?_ _) | (refine Below.setCell ?_ ?_ _) | (refine Below.drew ?_) | (refine below_next ?_ ?_ (by assumption)) | omega | (simp; done) | (simp; omega))), by rw [← hz0]; exact ⟨by first | (simp; done) | (simp; omega), by simp [go_sem], by simp [go_sem], by simp [go_sem], by simp [go_sem], by simp [go_sem], by simp [go_sem], by simp [go_sem]⟩⟩ ?_
  intro W1 N1
  (try simp only [hz0])
  clear m0 m1 m2 m3 m4 m5 m6 hb0 hz0 B6 BE
  have N := Lib.hid N1
  have n0 := (N1.bc).c0; have n1 := (N1.bc).box1; have n2 := (N1.bc).box2; have n3 := (N1.bc).box3; have n4 := (N1.bc).box4; have n5 := (N1.bc).box5; have n6 := (N1.bc).box6; have e0 := (N1.b6).c0; have e1 := (N1.b6).c1; have e2 := (N1.b6).c2; have e3 := (N1.b6).c3; have e4 := (N1.b6).c4; have e5 := (N1.b6).c5
  clear N1
  rw [HK.out] at n0
  go_wp2_with (go_at_call 10; refine (HA _ N.out.hb).mono ?_; rintro e' w5 ⟨rfl, hb5⟩; have N := Lib.hid (N.out.below hb5); have n0 := (N.out.bc).c0; have n1 := (N.out.bc).box1; have n2 := (N.out.bc).box2; have n3 := (N.out.bc).box3; have n4 := (N.out.bc).box4; have n5 := (N.out.bc).box5; have n6 := (N.out.bc).box6; have e0 := (N.out.b6).c0; have e1 := (N.out.b6).c1; have e2 := (N.out.b6).c2; have e3 := (N.out.b6).c3; have e4 := (N.out.b6).c4; have e5 := (N.out.b6).c5; rw [HK.out] at n0; clear hb5 HA)
  go_ret3
  exact ⟨rfl, N.out.hb⟩
set_option maxRecDepth 100000 in
set_option maxHeartbeats 6400000 in
theorem ts_or2 (x : Cv) (v o : NV) (res t : Int) (g len cc j : Nat) (w : World) (hj : j < len) (hE : BxC w g (j * 7) x) (hk : x.c.k = 4) (qa pu pa : Int) (pb : Bool) (HA : ∀ W, Below w.heap.size w W → Calls Try.prog 10 #[.slice (some ⟨g, 0, none⟩) len cc, .int .i64 x.c.a, envA v o res t] W fun e' w' => e' = .returned (.tuple #[.bool false, .int .i64 0, .int .i64 qa]) ∧ Below W.heap.size W w') (HB : ∀ W, Below w.heap.size w W → Calls Try.prog 10 #[.slice (some ⟨g, 0, none⟩) len cc, .int .i64 x.c.b, envA v o res t] W fun e' w' => e' = .returned (.tuple #[.bool pb, .int .i64 pu, .int .i64 pa]) ∧ Below W.heap.size W w')  :
    Calls Try.prog 10 #[.slice (some ⟨g, 0, none⟩) len cc, .int .i64 (j : Int), envA v o res t] w fun e' w' => e' = .returned (.tuple #[.bool pb, .int .i64 pu, .int .i64 pa]) ∧ Below w.heap.size w w' := by
  have HK : Hid (x.c.k = 4) := Lib.hid hk
  clear hk
  unfold envA at HA HB
  obtain ⟨mp, ba, bl, bc⟩ := v
  unfold envA
  simp only at HA HB
  have HE := Lib.hid hE
  have m0 := hE.c0
  have m1 := hE.c1
  have m2 := hE.c2
  have m3 := hE.c3
  have m4 := hE.c4
  have m5 := hE.c5
  have m6 := hE.c6
  have hj0 : (0 : Int) ≤ (j : Int) := by omega
  have hj1 : (j : Int) < (len : Int) := by omega
  have hg0 : g ≠ w.heap.size := by have := hE.lt; omega
  clear hE
  simp only
  go_enter Try.func10, Try.ntmps10
  go_upto_region 1 with fail
  refine at_world (fun W => Below w.heap.size w W ∧ W.heap.size = w.heap.size + 1 ∧ Bx6 W w.heap.size ⟨mp, ba, bl, bc⟩ o res t ∧ BxC W g (j * 7) x) ⟨(by repeat' (first | exact Below.refl _ _ | (refine Below.alloc ?_ ?_ _) | (refine Below.setCell ?_ ?_ _) | (refine Below.drew ?_) | (refine below_next ?_ ?_ (by assumption)) | omega | (simp; done) | (simp; omega))), by simp, ⟨by first | (simp; done) | (simp; omega), by simp [go_sem], by simp [go_sem], by simp [go_sem], by simp [go_sem], by simp [go_sem], by simp [go_sem]⟩, HE.out.below (by repeat' (first | exact Below.refl _ _ | (refine Below.alloc ?_ ?_ _) | (refine Below.setCell ?_ ?_ _) | (refine Below.drew ?_) | (refine below_next ?_ ?_ (by assumption)) | omega | (simp; done) | (simp; omega)))⟩ ?_
  rintro W0 ⟨hb0, hz0, B6, BE⟩
  clear m0 m1 m2 m3 m4 m5 m6
  have m0 := BE.c0
  have m1 := BE.c1
  have m2 := BE.c2
  have m3 := BE.c3
  have m4 := BE.c4
  have m5 := BE.c5
  have m6 := BE.c6
  go_upto_region 4 with fail
  refine at_world (fun W => TsI w W x ⟨mp, ba, bl, bc⟩ o res t) ⟨below_next hb0 hb0.size (by repeat' (first | exact Below.refl _ _ | (refine Below.alloc ?_ ?_ _) | (refine Below.setCell ?_ ?_ _) | (refine Below.drew ?_) | (refine below_next ?_ ?_ (by assumption)) | omega | (simp; done) | (simp; omega))), B6.below (by repeat' (first | exact Below.refl _ _ | (refine Below.alloc ?_ ?_ _) | (refine Below.setCell ?_ ?_ _) | (refine Below.drew ?_) | (refine below_next ?_ ?_ (by assumption)) | omega | (simp; done) | (simp; omega))), by rw [← hz0]; exact ⟨by first | (simp; done) | (simp; omega), by simp [go_sem], by simp [go_sem], by simp [go_sem], by simp [go_sem], by simp [go_sem], by simp [go_sem], by simp [go_sem]⟩⟩ ?_
  intro W1 N1
  (try simp only [hz0])
  clear m0 m1 m2 m3 m4 m5 m6 hb0 hz0 B6 BE
  have N := Lib.hid N1
  have n0 := (N1.bc).c0; have n1 := (N1.bc).box1; have n2 := (N1.bc).box2; have n3 := (N1.bc).box3; have n4 := (N1.bc).box4; have n5 := (N1.bc).box5; have n6 := (N1.bc).box6; have e0 := (N1.b6).c0; have e1 := (N1.b6).c1; have e2 := (N1.b6).c2; have e3 := (N1.b6).c3; have e4 := (N1.b6).c4; have e5 := (N1.b6).c5
  clear N1
  rw [HK.out] at n0
  go_wp2_with (first | (go_at_call 10; refine (HA _ N.out.hb).mono ?_; rintro e' w5 ⟨rfl, hb5⟩; have N := Lib.hid (N.out.below hb5); have n0 := (N.out.bc).c0; have n1 := (N.out.bc).box1; have n2 := (N.out.bc).box2; have n3 := (N.out.bc).box3; have n4 := (N.out.bc).box4; have n5 := (N.out.bc).box5; have n6 := (N.out.bc).box6; have e0 := (N.out.b6).c0; have e1 := (N.out.b6).c1; have e2 := (N.out.b6).c2; have e3 := (N.out.b6).c3; have e4 := (N.out.b6).c4; have e5 := (N.out.b6).c5; rw [HK.out] at n0; clear hb5 HA) | (go_at_call 10; refine (HB _ N.out.hb).mono ?_; rintro e' w7 ⟨rfl, hb7⟩; have N := Lib.hid (N.out.below hb7); clear hb7 HB))
  go_ret3
  exact ⟨rfl, N.out.hb⟩
set_option maxRecDepth 100000 in
set_option maxHeartbeats 6400000 in
theorem ts_or3 (x : Cv) (v o : NV) (res t : Int) (g len cc j : Nat) (w : World) (hj : j < len) (hE : BxC w g (j * 7) x) (hk : x.c.k = 4) (qu qa : Int) (hu : qu ≠ 0) (HA : ∀ W, Below w.heap.size w W → Calls Try.prog 10 #[.slice (some ⟨g, 0, none⟩) len cc, .int .i64 x.c.a, envA v o res t] W fun e' w' => e' = .returned (.tuple #[.bool false, .int .i64 qu, .int .i64 qa]) ∧ Below W.heap.size W w')  :
    Calls Try.prog 10 #[.slice (some ⟨g, 0, none⟩) len cc, .int .i64 (j : Int), envA v o res t] w fun e' w' => e' = .returned (.tuple #[.bool false, .int .i64 qu, .int .i64 qa]) ∧ Below w.heap.size w w' := by
  have HK : Hid (x.c.k = 4) := Lib.hid hk
  clear hk
  unfold envA at HA
  have u0 : (qu == 0) = false := by rw [beq_eq_false_iff_ne]; exact hu
  have u1 : (qu != 0) = true := by rw [bne, u0]; rfl
  clear hu
  obtain ⟨mp, ba, bl, bc⟩ := v
  unfold envA
  simp only at HA
  have HE := Lib.hid hE
  have m0 := hE.c0
  have m1 := hE.c1
  have m2 := hE.c2
  have m3 := hE.c3
  have m4 := hE.c4
  have m5 := hE.c5
  have m6 := hE.c6
  have hj0 : (0 : Int) ≤ (j : Int) := by omega
  have hj1 : (j : Int) < (len : Int) := by omega
  have hg0 : g ≠ w.heap.size := by have := hE.lt; omega
  clear hE
  simp only
  go_enter Try.func10, Try.ntmps10
  go_upto_region 1 with fail
  refine at_world (fun W => Below w.heap.size w W ∧ W.heap.size = w.heap.size + 1 ∧ Bx6 W w.heap.size ⟨mp, ba, bl, bc⟩ o res t ∧ BxC W g (j * 7) x) ⟨(by repeat' (first | exact Below.refl _ _ | (refine Below.alloc ?_ ?_ _) | (refine Below.setCell ?_ ?_ _) | (refine Below.drew ?_) | (refine below_next ?_ ?_ (by assumption)) | omega | (simp; done) | (simp; omega))), by simp, ⟨by first | (simp; done) | (simp; omega), by simp [go_sem], by simp [go_sem], by simp [go_sem], by simp [go_sem], by simp [go_sem], by simp [go_sem]⟩, HE.out.below (by repeat' (first | exact Below.refl _ _ | (refine Below.alloc ?_ ?_ _) | (refine Below.setCell ?_ ?_ _) | (refine Below.drew ?_) | (refine below_next ?_ ?_ (by assumption)) | omega | (simp; done) | (simp; omega)))⟩ ?_
  rintro W0 ⟨hb0, hz0, B6, BE⟩
  clear m0 m1 m2 m3 m4 m5 m6
  have m0 := BE.c0
  have m1 := BE.c1
  have m2 := BE.c2
  have m3 := BE.c3
  have m4 := BE.c4
  have m5 := BE.c5
  have m6 := BE.c6
  go_upto_region 4 with fail
  refine at_world (fun W => TsI w W x ⟨mp, ba, bl, bc⟩ o res t) ⟨below_next hb0 hb0.size (by repeat' (first | exact Below.refl _ _ | (refine Below.alloc ?_ ?_ _) | (refine Below.setCell ?_ ?_ _) | (refine Below.drew ?_) | (refine below_next ?_ ?_ (by assumption)) | omega | (simp; done) | (simp; omega))), B6.below (by repeat' (first | exact Below.refl _ _ | (refine Below.alloc ?_ ?_ _) | (refine Below.setCell ?_ ?_ _) | (refine Below.drew ?_) | (refine below_next ?_ ?_ (by assumption)) | omega | (simp; done) | (simp; omega))), by rw [← hz0]; exact ⟨by first | (simp; done) | (simp; omega), by simp [go_sem], by simp [go_sem], by simp [go_sem], by simp [go_sem], by simp [go_sem], by simp [go_sem], by simp [go_sem]⟩⟩ ?_
  intro W1 N1
  (try simp only [hz0])
  clear m0 m1 m2 m3 m4 m5 m6 hb0 hz0 B6 BE
  have N := Lib.hid N1
  have n0 := (N1.bc).c0; have n1 := (N1.bc).box1; have n2 := (N1.bc).box2; have n3 := (N1.bc).box3; have n4 := (N1.bc).box4; have n5 := (N1.bc).box5; have n6 := (N1.bc).box6; have e0 := (N1.b6).c0; have e1 := (N1.b6).c1; have e2 := (N1.b6).c2; have e3 := (N1.b6).c3; have e4 := (N1.b6).c4; have e5 := (N1.b6).c5
  clear N1
  rw [HK.out] at n0
  go_wp2_with (go_at_call 10; refine (HA _ N.out.hb).mono ?_; rintro e' w5 ⟨rfl, hb5⟩; have N := Lib.hid (N.out.below hb5); have n0 := (N.out.bc).c0; have n1 := (N.out.bc).box1; have n2 := (N.out.bc).box2; have n3 := (N.out.bc).box3; have n4 := (N.out.bc).box4; have n5 := (N.out.bc).box5; have n6 := (N.out.bc).box6; have e0 := (N.out.b6).c0; have e1 := (N.out.b6).c1; have e2 := (N.out.b6).c2; have e3 := (N.out.b6).c3; have e4 := (N.out.b6).c4; have e5 := (N.out.b6).c5; rw [HK.out] at n0; clear hb5 HA)
  go_ret3
  exact ⟨rfl, N.out.hb⟩
set_option maxRecDepth 100000 in
set_option maxHeartbeats 6400000 in
theorem ts_none (x : Cv) (v o : NV) (res t : Int) (g len cc j : Nat) (w : World) (hj : j < len) (hE : BxC w g (j * 7) x) (h1 : x.c.k ≠ 1) (h2 : x.c.k ≠ 2) (h3 : x.c.k ≠ 3) (h4 : x.c.k ≠ 4) :
    Calls Try.prog 10 #[.slice (some ⟨g, 0, none⟩) len cc, .int .i64 (j : Int), envA v o res t] w fun e' w' => e' = .returned (.tuple #[.bool false, .int .i64 0, .int .i64 0]) ∧ Below w.heap.size w w' := by
  have k1 : (x.c.k == 1) = false := by rw [beq_eq_false_iff_ne]; omega
  have k2 : (x.c.k == 2) = false := by rw [beq_eq_false_iff_ne]; omega
  have k3 : (x.c.k == 3) = false := by rw [beq_eq_false_iff_ne]; omega
  have k4 : (x.c.k == 4) = false := by rw [beq_eq_false_iff_ne]; omega
  obtain ⟨kk, hkk⟩ : ∃ k, x.c.k = k := ⟨_, rfl⟩
  rw [hkk] at k1 k2 k3 k4
  have HK := Lib.hid hkk
  clear hkk h1 h2 h3 h4
  obtain ⟨mp, ba, bl, bc⟩ := v
  unfold envA
  have HE := Lib.hid hE
  have m0 := hE.c0
  have m1 := hE.c1
  have m2 := hE.c2
  have m3 := hE.c3
  have m4 := hE.c4
  have m5 := hE.c5
  have m6 := hE.c6
  have hj0 : (0 : Int) ≤ (j : Int) := by omega
  have hj1 : (j : Int) < (len : Int) := by omega
  have hg0 : g ≠ w.heap.size := by have := hE.lt; omega
  clear hE
  simp only
  go_enter Try.func10, Try.ntmps10
  go_upto_region 1 with fail
  refine at_world (fun W => Below w.heap.size w W ∧ W.heap.size = w.heap.size + 1 ∧ Bx6 W w.heap.size ⟨mp, ba, bl, bc⟩ o res t ∧ BxC W g (j * 7) x) ⟨(by repeat' (first | exact Below.refl _ _ | (refine Below.alloc ?_ ?_ _) | (refine Below.setCell ?_ ?_ _) | (refine Below.drew ?_) | (refine below_next ?_ ?_ (by assumption)) | omega | (simp; done) | (simp; omega))), by simp, ⟨by first | (simp; done) | (simp; omega), by simp [go_sem], by simp [go_sem], by simp [go_sem], by simp [go_sem], by simp [go_sem], by simp [go_sem]⟩, HE.out.below (by repeat' (first | exact Below.refl _ _ | (refine Below.alloc ?_ ?_ _) | (refine Below.setCell ?_ ?_ _) | (refine Below.drew ?_) | (refine below_next ?_ ?_ (by assumption)) | omega | (simp; done) | (simp; omega)))⟩ ?_
  rintro W0 ⟨hb0, hz0, B6, BE⟩
  clear m0 m1 m2 m3 m4 m5 m6
  have m0 := BE.c0
  have m1 := BE.c1
  have m2 := BE.c2
  have m3 := BE.c3
  have m4 := BE.c4
  have m5 := BE.c5
  have m6 := BE.c6
  go_upto_region 4 with fail
  refine at_world (fun W => TsI w W x ⟨mp, ba, bl, bc⟩ o res t) ⟨below_next hb0 hb0.size (by repeat' (first | exact Below.refl _ _ | (refine Below.alloc ?_ ?_ _) | (refine Below.setCell ?_ ?_ _) | (refine Below.drew ?_) | (refine below_next ?_ ?_ (by assumption)) | omega | (simp; done) | (simp; omega))), B6.below (by repeat' (first | exact Below.refl _ _ | (refine Below.alloc ?_ ?_ _) | (refine Below.setCell ?_ ?_ _) | (refine Below.drew ?_) | (refine below_next ?_ ?_ (by assumption)) | omega | (simp; done) | (simp; omega))), by rw [← hz0]; exact ⟨by first | (simp; done) | (simp; omega), by simp [go_sem], by simp [go_sem], by simp [go_sem], by simp [go_sem], by simp [go_sem], by simp [go_sem], by simp [go_sem]⟩⟩ ?_
  intro W1 N1
  (try simp only [hz0])
  clear m0 m1 m2 m3 m4 m5 m6 hb0 hz0 B6 BE
  have N := Lib.hid N1
  have n0 := (N1.bc).c0; have n1 := (N1.bc).box1; have n2 := (N1.bc).box2; have n3 := (N1.bc).box3; have n4 := (N1.bc).box4; have n5 := (N1.bc).box5; have n6 := (N1.bc).box6; have e0 := (N1.b6).c0; have e1 := (N1.b6).c1; have e2 := (N1.b6).c2; have e3 := (N1.b6).c3; have e4 := (N1.b6).c4; have e5 := (N1.b6).c5
  clear N1
  rw [HK.out] at n0
  go_wp2_with fail
  go_ret3
  exact ⟨rfl, N.out.hb⟩
set_option maxRecDepth 100000 in
set_option maxHeartbeats 6400000 in
theorem ts_out (v o : NV) (res t at_ : Int) (A : Option Addr) (len cc : Nat) (w : World) (h : at_ < 0 ∨ (len : Int) ≤ at_) :
    Calls Try.prog 10 #[.slice A len cc, .int .i64 at_, envA v o res t] w fun e' w' => e' = .returned (.tuple #[.bool false, .int .i64 0, .int .i64 0]) ∧ Below w.heap.size w w' := by
  unfold envA
  rcases (by omega : at_ < 0 ∨ (0 ≤ at_ ∧ (len : Int) ≤ at_)) with h1 | ⟨h1, h2⟩
  · clear h
    go_enter Try.func10, Try.ntmps10
    go_wp2_with fail
    go_ret3
    exact ⟨rfl, (by repeat' (first | exact Below.refl _ _ | (refine Below.alloc ?_ ?_ _) | (refine Below.setCell ?_ ?_ _) | (refine Below.drew ?_) | (refine below_next ?_ ?_ (by assumption)) | omega | (simp; done) | (simp; omega)))⟩
  · have g0 : decide (at_ < 0) = false := decide_eq_false (by omega)
    clear h
    go_enter Try.func10, Try.ntmps10
    go_wp2_with fail
    go_ret3
    exact ⟨rfl, (by repeat' (first | exact Below.refl _ _ | (refine Below.alloc ?_ ?_ _) | (refine Below.setCell ?_ ?_ _) | (refine Below.drew ?_) | (refine below_next ?_ ?_ (by assumption)) | omega | (simp; done) | (simp; omega)))⟩
end Go.Proofs.Ytnnhdkchdjddkaa.C

namespace Go.Proofs.Ytnnhdkchdjddkaa.C
open Go.RowKit
set_option linter.unusedSimpArgs false
set_option linter.unusedVariables false
def tV (r : Bool × Int × Int) : Value := .tuple #[.bool r.1, .int .i64 r.2.1, .int .i64 r.2.2]
theorem test_c (l : List Cv) (hK : KidsC (csOf l)) (hL : CLen 8193 (csOf l)) (A : Option Addr) (cc : Nat) (v o : NV) (e eo : Env0) (res t : Int) : ∀ (f : Nat) (at_ : Int) (w : World), (at_ < (f : Int) ∨ (l.length : Int) ≤ at_) → CRd w A l → NOK 41 w v e → NOK 41 w o eo →
    Calls Try.prog 10 #[.slice A l.length cc, .int .i64 at_, envA v o res t] w fun e' w' => e' = .returned (tV (tF (csOf l) eo res t e f at_)) ∧ Below w.heap.size w w' := by
  intro f
  induction f with
  | zero =>
    intro at_ w hat hE hv ho
    exact ts_out v o res t at_ A l.length cc w (by omega)
  | succ f ih =>
    intro at_ w hat hE hv ho
    by_cases hout : at_ < 0 ∨ (l.length : Int) ≤ at_
    · rw [tF, if_pos (by rw [csOf_len]; exact hout)]
      exact ts_out v o res t at_ A l.length cc w hout
    · obtain ⟨j, rfl⟩ := Int.eq_ofNat_of_zero_le (show 0 ≤ at_ by omega)
      have hj : j < l.length := by omega
      have hne : l ≠ [] := by intro x; rw [x] at hj; simp at hj
      obtain ⟨g, rfl, hg⟩ := hE hne
      obtain ⟨x, hget⟩ : ∃ x, l[j]? = some x := ⟨l[j], by rw [List.getElem?_eq_getElem hj]⟩
      have hcs : (csOf l)[j]? = some x.c := by unfold csOf; rw [List.getElem?_map, hget]; rfl
      have hgd : (csOf l).getD j cd0 = x.c := by rw [List.getD_eq_getElem?_getD, hcs]; rfl
      obtain ⟨hB, hEx, hEy⟩ := hg j x hget
      obtain ⟨⟨⟨ka, kb⟩, ka1, kb1⟩, kx, ky⟩ := hK j x.c hcs
      obtain ⟨lx, ly⟩ := hL x.c (List.mem_of_getElem? hcs)
      rw [tF, if_neg (by rw [csOf_len]; exact hout)]
      simp only [Int.toNat_natCast, hgd]
      have IA : ∀ W, Below w.heap.size w W → Calls Try.prog 10 #[.slice (some ⟨g, 0, none⟩) l.length cc, .int .i64 x.c.a, envA v o res t] W fun e' w' => e' = .returned (tV (tF (csOf l) eo res t e f x.c.a)) ∧ Below W.heap.size W w' := fun W hb => ih x.c.a W (by omega) (hE.below hb) (hv.below hb) (ho.below hb)
      have IB : ∀ W, Below w.heap.size w W → Calls Try.prog 10 #[.slice (some ⟨g, 0, none⟩) l.length cc, .int .i64 x.c.b, envA v o res t] W fun e' w' => e' = .returned (tV (tF (csOf l) eo res t e f x.c.b)) ∧ Below W.heap.size W w' := fun W hb => ih x.c.b W (by omega) (hE.below hb) (hv.below hb) (ho.below hb)
      have UA := tF_ub (csOf l) eo res t e f x.c.a
      obtain ⟨⟨qb, qu, qa⟩, hq⟩ : ∃ q, tF (csOf l) eo res t e f x.c.a = q := ⟨_, rfl⟩
      obtain ⟨⟨pb, pu, pa⟩, hp⟩ : ∃ q, tF (csOf l) eo res t e f x.c.b = q := ⟨_, rfl⟩
      rw [hq] at IA UA ⊢
      rw [hp] at IB ⊢
      simp only at UA ⊢
      by_cases h1 : x.c.k = 1
      · rw [if_pos h1]
        have NA : ∀ W, Below w.heap.size w W → Calls Try.prog 20 #[.slice x.ax x.c.x.length x.cx, .int .i64 ((x.c.x.length : Int) - 1), envA v o res t] W fun e' w' => e' = .returned (gtV (vF x.c.x eo res t x.c.x.length e ((x.c.x.length : Int) - 1))) ∧ Below W.heap.size W w' := fun W hb => node_c x.c.x kx x.ax x.cx o eo res t x.c.x.length _ v e W (by omega) (hEx.below hb) (hv.below hb) (ho.below hb)
        have NB : ∀ W, Below w.heap.size w W → Calls Try.prog 20 #[.slice x.ay x.c.y.length x.cy, .int .i64 ((x.c.y.length : Int) - 1), envA v o res t] W fun e' w' => e' = .returned (gtV (vF x.c.y eo res t x.c.y.length e ((x.c.y.length : Int) - 1))) ∧ Below W.heap.size W w' := fun W hb => node_c x.c.y ky x.ay x.cy o eo res t x.c.y.length _ v e W (by omega) (hEy.below hb) (hv.below hb) (ho.below hb)
        unfold relT
        obtain ⟨a, ha⟩ : ∃ a, vF x.c.x eo res t x.c.x.length e ((x.c.x.length : Int) - 1) = a := ⟨_, rfl⟩
        obtain ⟨b, hb⟩ : ∃ b, vF x.c.y eo res t x.c.y.length e ((x.c.y.length : Int) - 1) = b := ⟨_, rfl⟩
        rw [ha] at NA ⊢
        rw [hb] at NB ⊢
        simp only
        by_cases hu : a.ub = 0
        · rw [if_pos hu]
          by_cases hv2 : b.ub = 0
          · rw [if_pos hv2]
            exact ts_rel3 x v o res t g l.length cc j w hj hB h1 _ _ rfl rfl (by omega) (by omega) a b NA NB hu hv2 _ _ _ _ rfl rfl rfl rfl
          · rw [if_neg hv2]
            exact ts_rel2 x v o res t g l.length cc j w hj hB h1 _ _ rfl rfl (by omega) (by omega) a b NA NB hu hv2
        · rw [if_neg hu]
          exact ts_rel1 x v o res t g l.length cc j w hj hB h1 _ _ rfl rfl (by omega) (by omega) a b NA NB hu
      rw [if_neg h1]
      by_cases h2 : x.c.k = 2
      · rw [if_pos h2]
        exact ts_not x v o res t g l.length cc j w hj hB h2 qb qu qa IA
      rw [if_neg h2]
      by_cases h3 : x.c.k = 3
      · rw [if_pos h3]
        cases qb with
        | true =>
          have q0 : qu = 0 := Classical.byContradiction (fun h => by cases UA h)
          subst q0
          rw [if_pos rfl]
          exact ts_and2 x v o res t g l.length cc j w hj hB h3 qa pu pa pb IA IB
        | false =>
          rw [if_neg (by decide)]
          exact ts_and1 x v o res t g l.length cc j w hj hB h3 qu qa IA
      rw [if_neg h3]
      by_cases h4 : x.c.k = 4
      · rw [if_pos h4]
        cases qb with
        | true =>
          have q0 : qu = 0 := Classical.byContradiction (fun h => by cases UA h)
          subst q0
          rw [if_pos rfl]
          exact ts_or1 x v o res t g l.length cc j w hj hB h4 qa IA
        | false =>
          rw [if_neg (by decide)]
          by_cases hu : qu = 0
          · rw [if_pos hu]
            subst hu
            exact ts_or2 x v o res t g l.length cc j w hj hB h4 qa pu pa pb IA IB
          · rw [if_neg hu]
            exact ts_or3 x v o res t g l.length cc j w hj hB h4 qu qa hu IA
      rw [if_neg h4]
      exact ts_none x v o res t g l.length cc j w hj hB h1 h2 h3 h4
end Go.Proofs.Ytnnhdkchdjddkaa.C

namespace Go.Proofs.Ytnnhdkchdjddkaa.C
open Go.RowKit
set_option linter.unusedSimpArgs false
set_option linter.unusedVariables false
theorem flat_len {F : Nat → List Value} {s : Nat} (hs : ∀ j, (F j).length = s) : ∀ k, ((List.range k).flatMap F).length = k * s
  | 0 => by simp
  | k + 1 => by rw [List.range_succ, List.flatMap_append, List.length_append, flat_len hs k]; simp [hs, Nat.succ_mul]
theorem flat_at {F : Nat → List Value} {s : Nat} (hs : ∀ j, (F j).length = s) : ∀ {k j f : Nat}, j < k → f < s → ((List.range k).flatMap F)[j * s + f]? = (F j)[f]?
  | 0, j, f, hj, _ => by omega
  | k + 1, j, f, hj, hf => by
    rw [List.range_succ, List.flatMap_append]
    have hl := flat_len hs k
    rcases Nat.lt_or_ge j k with q | q
    · have : j * s + f < k * s := by
        have : (j + 1) * s ≤ k * s := Nat.mul_le_mul_right _ q
        rw [Nat.succ_mul] at this; omega
      rw [List.getElem?_append_left (by rw [hl]; exact this)]
      exact flat_at hs q hf
    · obtain rfl : j = k := by omega
      rw [List.getElem?_append_right (by rw [hl]; omega), hl, Nat.add_sub_cancel_left]
      simp
/-- An event that a clause gives. -/
def evC (kind at_ : Int) (h : Bool) : List Value := [.int .i64 3, .int .i64 at_, .int .i64 kind, .string ⟨#[]⟩, .int .i64 (if h then 1 else 0), .slice none 0 0]
def evsC (kind : Int) (at_ : Nat → Int) (h : Nat → Bool) (k : Nat) : List Value := (List.range k).flatMap (fun j => evC kind (at_ j) (h j))
theorem evsC_succ (kind : Int) (at_ : Nat → Int) (h : Nat → Bool) (k : Nat) : evsC kind at_ h (k + 1) = evsC kind at_ h k ++ evC kind (at_ k) (h k) := by
  unfold evsC
  rw [List.range_succ, List.flatMap_append]; simp
/-- How far clauses are looked at. -/
def FirstC (h : Nat → Bool) (n k : Nat) (ok : Bool) : Prop := (k = n ∧ (∀ j, j < n → h j = true) ∧ ok = true) ∨ (∃ f, k = f + 1 ∧ f < n ∧ (∀ j, j < f → h j = true) ∧ h f = false ∧ ok = false)
theorem FirstC.uniq {h : Nat → Bool} {n k k' : Nat} {ok ok' : Bool} (a : FirstC h n k ok) (b : FirstC h n k' ok') : k = k' ∧ ok = ok' := by
  rcases a with ⟨a1, a2, a3⟩ | ⟨f, a1, a2, a3, a4, a5⟩ <;> rcases b with ⟨b1, b2, b3⟩ | ⟨g, b1, b2, b3, b4, b5⟩
  · exact ⟨by omega, by rw [a3, b3]⟩
  · rw [a2 g b2] at b4; cases b4
  · rw [b2 f a2] at a4; cases a4
  · refine ⟨?_, by rw [a5, b5]⟩
    rcases Nat.lt_trichotomy f g with q | q | q
    · rw [b3 f q] at a4; cases a4
    · omega
    · rw [a3 g q] at b4; cases b4
def ClPost (kind : Int) (at_ : Nat → Int) (h : Nat → Bool) (n : Nat) (w : World) (e : Ending) (w' : World) : Prop :=
  ∃ EV c k ok, e = .returned (.tuple #[.slice EV k c, .bool ok]) ∧ w'.ownsRow w.heap.size 39 6 (.slice EV k c) k (evsC kind at_ h k) ∧ FirstC h n k ok ∧ Below w.heap.size w w'
theorem infoEv : (Try.prog.info? 39).map (fun i => (i.zero, i.size, i.bytes)) = some (some (.agg #[.int .i64 0, .int .i64 0, .int .i64 0, .string ⟨#[]⟩, .int .i64 0, .slice none 0 0]), 6, 72) := by kernel_rfl
/-- The state of the loop. -/
structure ClS (w W : World) (v o : NV) (res t kind : Int) (at_ : Nat → Int) (h : Nat → Bool) (EV : Option Addr) (k c : Nat) : Prop where
  hb : Below w.heap.size w W
  bx : Bx6 W w.heap.size v o res t
  ow : W.ownsRow (w.heap.size + 1) 39 6 (.slice EV k c) k (evsC kind at_ h k)
theorem ClS.below {w W W' : World} {v o : NV} {res t kind : Int} {at_ : Nat → Int} {h : Nat → Bool} {EV : Option Addr} {k c : Nat} (s : ClS w W v o res t kind at_ h EV k c) (hb : Below W.heap.size W W') : ClS w W' v o res t kind at_ h EV k c :=
  ⟨below_next s.hb s.hb.size hb, s.bx.below hb, by
    have := s.ow
    refine ⟨this.1, ?_⟩
    rcases this.2 with q | ⟨g, cap, cur, e, hg, hh, r⟩
    · exact .inl q
    · exact .inr ⟨g, cap, cur, e, hg, (hb.block g (Array.getElem?_eq_some_iff.1 hh).1).trans hh, r⟩⟩
theorem ClS.snoc {w W W2 : World} {v o : NV} {res t kind : Int} {at_ : Nat → Int} {h : Nat → Bool} {EV : Option Addr} {k c : Nat} {V : Value} {O : Obj} (s : ClS w W v o res t kind at_ h EV k c) (hown : W2.ownsRow (w.heap.size + 1) 39 6 V (k + 1) (evsC kind at_ h k ++ evC kind (at_ k) (h k))) (hg : (W.alloc O).grownBy W2 (Value.slice EV k c).ownBlock) :
    ∃ EV2 c2, V = .slice EV2 (k + 1) c2 ∧ ClS w W2 v o res t kind at_ h EV2 (k + 1) c2 := by
  have hlt := s.bx.lt
  have hne : some w.heap.size ≠ (Value.slice EV k c).ownBlock := fun e => by
    have := (s.ow.lt _ e.symm).1
    omega
  have ha : Below W.heap.size W (W.alloc O) := (Below.refl _ _).alloc (Nat.le_refl _) _
  have hb2 : Below w.heap.size w W2 := by
    refine (below_next s.hb s.hb.size ha).grown hg (by have := s.hb.size; simp; omega) (fun g hgg => ?_)
    have := (s.ow.lt _ hgg).1
    omega
  have hblk : W2.heap[w.heap.size]? = W.heap[w.heap.size]? := (hg.block w.heap.size (by simp; omega) hne).trans (ha.block w.heap.size hlt)
  have hc : ∀ j, W2.cell? ⟨w.heap.size, j, none⟩ = W.cell? ⟨w.heap.size, j, none⟩ := fun j => World.cell?_of_block hblk
  rcases hown.2 with ⟨_, q⟩ | ⟨g, cap, cur, rfl, _⟩
  · omega
  · refine ⟨_, _, rfl, hb2, ⟨Nat.lt_of_lt_of_le hlt (Nat.le_trans ha.size hg.size), (hc _).trans s.bx.c0, (hc _).trans s.bx.c1, (hc _).trans s.bx.c2, (hc _).trans s.bx.c3, (hc _).trans s.bx.c4, (hc _).trans s.bx.c5⟩, ?_⟩
    rw [evsC_succ]
    exact hown
set_option maxRecDepth 100000 in
set_option maxHeartbeats 6400000 in
theorem clauses_c (A : Option Addr) (g n cap : Nat) (kind : Int) (v o : NV) (res t : Int) (at_ : Nat → Int) (AC : Nat → Option Addr) (nc cc : Nat → Nat) (b : Nat → Bool) (u q : Nat → Int) (w : World) (hn : n ≤ 100000) (hA : 0 < n → A = some ⟨g, 0, none⟩)
    (hcl : ∀ i, i < n → w.cell? ⟨g, i * 2, none⟩ = some (.int .i64 (at_ i)) ∧ w.cell? ⟨g, i * 2 + 1, none⟩ = some (.slice (AC i) (nc i) (cc i)) ∧ nc i ≤ 1000000)
    (hT : ∀ i, i < n → ∀ W, Below w.heap.size w W → Calls Try.prog 10 #[.slice (AC i) (nc i) (cc i), .int .i64 ((nc i : Int) - 1), envA v o res t] W fun e w' => e = .returned (.tuple #[.bool (b i), .int .i64 (u i), .int .i64 (q i)]) ∧ Below W.heap.size W w') :
    Calls Try.prog 6 #[.slice A n cap, .int .i64 kind, envA v o res t] w (ClPost kind at_ (fun i => b i && decide (u i = 0)) n w) := by
  obtain ⟨i0, hi0, hzz⟩ := Option.map_eq_some_iff.1 infoEv
  simp only [Prod.mk.injEq] at hzz
  have HI0 := Lib.hid (And.intro hi0 hzz)
  have HCL := Lib.hid hcl
  have HA := Lib.hid hA
  clear hA
  have HT := Lib.hid hT
  clear hcl hT hi0 hzz
  obtain ⟨h, hh⟩ : ∃ h : Nat → Bool, (fun i => b i && decide (u i = 0)) = h := ⟨_, rfl⟩
  rw [hh]
  have HH : Hid (∀ i, (b i && decide (u i = 0)) = h i) := Lib.hid (fun i => congrFun hh i)
  clear hh
  unfold envA at HT ⊢
  obtain ⟨vm, va, vl, vc⟩ := v
  obtain ⟨om, oa, ol, oc⟩ := o
  simp only at HT ⊢
  go_enter Try.func6, Try.ntmps6
  go_wp2_with fail
  have HS0 : Hid (ClS w (w.alloc (.cells #[.pointer vm, .slice va vl vc, .pointer om, .slice oa ol oc, .int .i64 res, .int .i64 t] 36)) ⟨vm, va, vl, vc⟩ ⟨om, oa, ol, oc⟩ res t kind at_ h none 0 0) := Lib.hid ⟨(by repeat' (first | exact Below.refl _ _ | (refine Below.alloc ?_ ?_ _) | (refine Below.setCell ?_ ?_ _) | (refine Below.drew ?_) | (refine below_next ?_ ?_ (by assumption)) | omega | (simp; done) | (simp; omega))), ⟨by simp, by simp [go_sem], by simp [go_sem], by simp [go_sem], by simp [go_sem], by simp [go_sem], by simp [go_sem]⟩, ⟨by simp [evsC], .inl ⟨rfl, rfl⟩⟩⟩
  refine at_world (fun W => Hid (ClS w W ⟨vm, va, vl, vc⟩ ⟨om, oa, ol, oc⟩ res t kind at_ h none 0 0)) HS0 ?_
  clear HS0
  intro W0 HS0
  obtain ⟨D, hD⟩ : ∃ D, w.heap.size = D := ⟨_, rfl⟩
  have HD := Lib.hid hD
  simp only [hD]
  clear hD
  go_step3
  go_wp2_with fail
  go_step3
  go_wp2_with fail
  go_loopw [8, 9, 18] (fun out ok i wr => ∃ (k : Nat) (EV : Option Addr) (c : Nat), k ≤ n ∧ i = .int .i64 k ∧ ok = .bool true ∧ out = .slice EV k c ∧ Hid ((∀ j, j < k → h j = true) ∧ ClS w wr ⟨vm, va, vl, vc⟩ ⟨om, oa, ol, oc⟩ res t kind at_ h EV k c)) (fun _ _ i _ => n - (intOf i).toNat)
  case atStart => exact ⟨0, none, 0, by omega, rfl, rfl, rfl, Lib.hid ⟨fun j hj => by omega, HS0.out⟩⟩
  case round =>
    clear HS0
    obtain ⟨k, EV, c, hk, rfl, rfl, rfl, HI⟩ := hrel
    obtain ⟨wo, rfl⟩ : ∃ wo : World, wo = wr := ⟨_, rfl⟩
    by_cases hlt : k < n
    · obtain rfl : A = some ⟨g, 0, none⟩ := HA.out (by omega)
      have hltd : decide (k < n) = true := decide_eq_true hlt
      have c0 := (cell_later HI.out.2.hb (HCL.out k hlt).1)
      have c1 := (cell_later HI.out.2.hb (HCL.out k hlt).2.1)
      have hnc := (HCL.out k hlt).2.2
      have HT1 := HT.out k hlt
      have hh := HH.out k
      obtain ⟨a, ha⟩ : ∃ a, at_ k = a := ⟨_, rfl⟩
      obtain ⟨C, hC⟩ : ∃ a, AC k = a := ⟨_, rfl⟩
      obtain ⟨N, hN⟩ : ∃ a, nc k = a := ⟨_, rfl⟩
      obtain ⟨M, hM⟩ : ∃ a, cc k = a := ⟨_, rfl⟩
      obtain ⟨B, hB⟩ : ∃ a, b k = a := ⟨_, rfl⟩
      obtain ⟨U, hU⟩ : ∃ a, u k = a := ⟨_, rfl⟩
      obtain ⟨Q, hQ⟩ : ∃ a, q k = a := ⟨_, rfl⟩
      rw [hB, hU] at hh
      rw [ha] at c0
      rw [hC, hN, hM] at c1
      rw [hN] at hnc
      rw [hC, hN, hM, hB, hU, hQ] at HT1
      have HAT := Lib.hid ha
      clear ha hC hN hM hB hU hQ
      have HT2 := Lib.hid HT1
      clear HT1
      have ek : IntKind.i64.wrap ((k : Int) + 1) = (k : Int) + 1 := IntWalk.i64_in _ (by omega)
      have eN : IntKind.i64.wrap ((N : Int) - 1) = (N : Int) - 1 := IntWalk.i64_in _ (by omega)
      have e2 : ((k : Int) * 2).toNat = k * 2 := by omega
      have HIN := HI0
      have r0 : wo.cell? ⟨D, 0, none⟩ = some (.pointer vm) := by rw [← HD.out]; exact HI.out.2.bx.c0
      have q0 : ∀ o, (wo.alloc o).cell? ⟨D, 0, none⟩ = some (.pointer vm) := fun o => cell_later (by repeat' (first | exact Below.refl _ _ | (refine Below.alloc ?_ ?_ _) | (refine Below.setCell ?_ ?_ _) | (refine Below.drew ?_) | (refine below_next ?_ ?_ (by assumption)) | omega | (simp; done) | (simp; omega))) r0
      clear r0
      have r1 : wo.cell? ⟨D, 1, none⟩ = some (.slice va vl vc) := by rw [← HD.out]; exact HI.out.2.bx.c1
      have q1 : ∀ o, (wo.alloc o).cell? ⟨D, 1, none⟩ = some (.slice va vl vc) := fun o => cell_later (by repeat' (first | exact Below.refl _ _ | (refine Below.alloc ?_ ?_ _) | (refine Below.setCell ?_ ?_ _) | (refine Below.drew ?_) | (refine below_next ?_ ?_ (by assumption)) | omega | (simp; done) | (simp; omega))) r1
      clear r1
      have r2 : wo.cell? ⟨D, 2, none⟩ = some (.pointer om) := by rw [← HD.out]; exact HI.out.2.bx.c2
      have q2 : ∀ o, (wo.alloc o).cell? ⟨D, 2, none⟩ = some (.pointer om) := fun o => cell_later (by repeat' (first | exact Below.refl _ _ | (refine Below.alloc ?_ ?_ _) | (refine Below.setCell ?_ ?_ _) | (refine Below.drew ?_) | (refine below_next ?_ ?_ (by assumption)) | omega | (simp; done) | (simp; omega))) r2
      clear r2
      have r3 : wo.cell? ⟨D, 3, none⟩ = some (.slice oa ol oc) := by rw [← HD.out]; exact HI.out.2.bx.c3
      have q3 : ∀ o, (wo.alloc o).cell? ⟨D, 3, none⟩ = some (.slice oa ol oc) := fun o => cell_later (by repeat' (first | exact Below.refl _ _ | (refine Below.alloc ?_ ?_ _) | (refine Below.setCell ?_ ?_ _) | (refine Below.drew ?_) | (refine below_next ?_ ?_ (by assumption)) | omega | (simp; done) | (simp; omega))) r3
      clear r3
      have r4 : wo.cell? ⟨D, 4, none⟩ = some (.int .i64 res) := by rw [← HD.out]; exact HI.out.2.bx.c4
      have q4 : ∀ o, (wo.alloc o).cell? ⟨D, 4, none⟩ = some (.int .i64 res) := fun o => cell_later (by repeat' (first | exact Below.refl _ _ | (refine Below.alloc ?_ ?_ _) | (refine Below.setCell ?_ ?_ _) | (refine Below.drew ?_) | (refine below_next ?_ ?_ (by assumption)) | omega | (simp; done) | (simp; omega))) r4
      clear r4
      have r5 : wo.cell? ⟨D, 5, none⟩ = some (.int .i64 t) := by rw [← HD.out]; exact HI.out.2.bx.c5
      have q5 : ∀ o, (wo.alloc o).cell? ⟨D, 5, none⟩ = some (.int .i64 t) := fun o => cell_later (by repeat' (first | exact Below.refl _ _ | (refine Below.alloc ?_ ?_ _) | (refine Below.setCell ?_ ?_ _) | (refine Below.drew ?_) | (refine below_next ?_ ?_ (by assumption)) | omega | (simp; done) | (simp; omega))) r5
      clear r5
      by_cases hU : U = 0
      · subst hU
        rcases B with _ | _
        · have hhk : Hid (h k = false) := Lib.hid (by rw [← hh]; rfl)
          clear hh
          go_wp2_with (first | (go_at_call 10; refine (HT2.out _ (below_next HI.out.2.hb HI.out.2.hb.size (by repeat' (first | exact Below.refl _ _ | (refine Below.alloc ?_ ?_ _) | (refine Below.setCell ?_ ?_ _) | (refine Below.drew ?_) | (refine below_next ?_ ?_ (by assumption)) | omega | (simp; done) | (simp; omega))))).mono ?_; rintro e w3 ⟨rfl, hb3⟩; have hz3 := hb3.size; (try simp at hz3); have p0 : w3.cell? ⟨wo.heap.size, 0, none⟩ = some (.int .i64 a) := ((hb3.cell (p := ⟨wo.heap.size, 0, none⟩) (by simp)).trans (by simp [go_sem])); have HS3 : Hid (ClS w w3 ⟨vm, va, vl, vc⟩ ⟨om, oa, ol, oc⟩ res t kind at_ h EV k c) := Lib.hid (HI.out.2.below (below_next ((by repeat' (first | exact Below.refl _ _ | (refine Below.alloc ?_ ?_ _) | (refine Below.setCell ?_ ?_ _) | (refine Below.drew ?_) | (refine below_next ?_ ?_ (by assumption)) | omega | (simp; done) | (simp; omega))) : Below wo.heap.size wo (wo.alloc (.cells #[.int .i64 a, .slice C N M] 29))) (by simp) hb3)); clear hb3 HT2) | (at_builtin; have HS4 : Hid (ClS w ((w3.alloc (.cells #[.int .i64 3, .int .i64 a, .int .i64 kind, .string ⟨#[]⟩, .int .i64 0, .slice none 0 0] 39)).alloc (.cells #[.int .i64 3, .int .i64 a, .int .i64 kind, .string ⟨#[]⟩, .int .i64 0, .slice none 0 0] 39)) ⟨vm, va, vl, vc⟩ ⟨om, oa, ol, oc⟩ res t kind at_ h EV k c) := Lib.hid (HS3.out.below (by repeat' (first | exact Below.refl _ _ | (refine Below.alloc ?_ ?_ _) | (refine Below.setCell ?_ ?_ _) | (refine Below.drew ?_) | (refine below_next ?_ ?_ (by assumption)) | omega | (simp; done) | (simp; omega)))); refine wpList_append_own_at _ (by rfl) (.tmp 45) (.tmp 47) 30 (by rfl) (w.heap.size + 1) 39 i0 (.agg #[.int .i64 0, .int .i64 0, .int .i64 0, .string ⟨#[]⟩, .int .i64 0, .slice none 0 0]) 6 72 Try.underlying30 HIN.out.1 HIN.out.2.1 HIN.out.2.2.1 HIN.out.2.2.2 rfl (by omega) (.slice EV k c) k (evsC kind at_ h k) (by rfl) HS4.out.ow ⟨w3.heap.size + 1, 0, none⟩ 1 1 (evC kind a false) (by rfl) rfl (by have := tok_bd (w3.alloc (.cells #[.int .i64 3, .int .i64 a, .int .i64 kind, .string ⟨#[]⟩, .int .i64 0, .slice none 0 0] 39)) #[.int .i64 3, .int .i64 a, .int .i64 kind, .string ⟨#[]⟩, .int .i64 0, .slice none 0 0] 39; simpa [evC] using this) (by intro u hu; simp only [evC, List.mem_cons, List.not_mem_nil, or_false] at hu; rcases hu with rfl | rfl | rfl | rfl | rfl | rfl <;> rfl) (by unfold maxLen; omega) (by omega) (by have := HS3.out.hb.size; simp; omega) ?_; intro v' w5 hown hg hnil hat; clear hnil hat; have hown2 : w5.ownsRow (w.heap.size + 1) 39 6 v' (k + 1) (evsC kind at_ h k ++ evC kind (at_ k) (h k)) := (by rw [hhk.out, HAT.out]; exact hown); have hsn := (HS3.out.below ((by repeat' (first | exact Below.refl _ _ | (refine Below.alloc ?_ ?_ _) | (refine Below.setCell ?_ ?_ _) | (refine Below.drew ?_) | (refine below_next ?_ ?_ (by assumption)) | omega | (simp; done) | (simp; omega))) : Below w3.heap.size w3 (w3.alloc (.cells #[.int .i64 3, .int .i64 a, .int .i64 kind, .string ⟨#[]⟩, .int .i64 0, .slice none 0 0] 39)))).snoc hown2 hg; obtain ⟨EV2, c2, rfl, hs5⟩ := hsn; have HS5 := Lib.hid hs5; clear hs5 hown hown2 hg HS4))
          simp only [Exit.noGoto_ret]
          go_ret2
          exact ⟨EV2, c2, k + 1, false, rfl, HS5.out.ow.mono (by omega), .inr ⟨k, rfl, hlt, HI.out.1, hhk.out, rfl⟩, HS5.out.hb⟩
        · have hhk : Hid (h k = true) := Lib.hid (by rw [← hh]; rfl)
          clear hh
          go_wp2_with (first | (go_at_call 10; refine (HT2.out _ (below_next HI.out.2.hb HI.out.2.hb.size (by repeat' (first | exact Below.refl _ _ | (refine Below.alloc ?_ ?_ _) | (refine Below.setCell ?_ ?_ _) | (refine Below.drew ?_) | (refine below_next ?_ ?_ (by assumption)) | omega | (simp; done) | (simp; omega))))).mono ?_; rintro e w3 ⟨rfl, hb3⟩; have hz3 := hb3.size; (try simp at hz3); have p0 : w3.cell? ⟨wo.heap.size, 0, none⟩ = some (.int .i64 a) := ((hb3.cell (p := ⟨wo.heap.size, 0, none⟩) (by simp)).trans (by simp [go_sem])); have HS3 : Hid (ClS w w3 ⟨vm, va, vl, vc⟩ ⟨om, oa, ol, oc⟩ res t kind at_ h EV k c) := Lib.hid (HI.out.2.below (below_next ((by repeat' (first | exact Below.refl _ _ | (refine Below.alloc ?_ ?_ _) | (refine Below.setCell ?_ ?_ _) | (refine Below.drew ?_) | (refine below_next ?_ ?_ (by assumption)) | omega | (simp; done) | (simp; omega))) : Below wo.heap.size wo (wo.alloc (.cells #[.int .i64 a, .slice C N M] 29))) (by simp) hb3)); clear hb3 HT2) | (at_builtin; have HS4 : Hid (ClS w ((w3.alloc (.cells #[.int .i64 3, .int .i64 a, .int .i64 kind, .string ⟨#[]⟩, .int .i64 1, .slice none 0 0] 39)).alloc (.cells #[.int .i64 3, .int .i64 a, .int .i64 kind, .string ⟨#[]⟩, .int .i64 1, .slice none 0 0] 39)) ⟨vm, va, vl, vc⟩ ⟨om, oa, ol, oc⟩ res t kind at_ h EV k c) := Lib.hid (HS3.out.below (by repeat' (first | exact Below.refl _ _ | (refine Below.alloc ?_ ?_ _) | (refine Below.setCell ?_ ?_ _) | (refine Below.drew ?_) | (refine below_next ?_ ?_ (by assumption)) | omega | (simp; done) | (simp; omega)))); refine wpList_append_own_at _ (by rfl) (.tmp 45) (.tmp 47) 30 (by rfl) (w.heap.size + 1) 39 i0 (.agg #[.int .i64 0, .int .i64 0, .int .i64 0, .string ⟨#[]⟩, .int .i64 0, .slice none 0 0]) 6 72 Try.underlying30 HIN.out.1 HIN.out.2.1 HIN.out.2.2.1 HIN.out.2.2.2 rfl (by omega) (.slice EV k c) k (evsC kind at_ h k) (by rfl) HS4.out.ow ⟨w3.heap.size + 1, 0, none⟩ 1 1 (evC kind a true) (by rfl) rfl (by have := tok_bd (w3.alloc (.cells #[.int .i64 3, .int .i64 a, .int .i64 kind, .string ⟨#[]⟩, .int .i64 1, .slice none 0 0] 39)) #[.int .i64 3, .int .i64 a, .int .i64 kind, .string ⟨#[]⟩, .int .i64 1, .slice none 0 0] 39; simpa [evC] using this) (by intro u hu; simp only [evC, List.mem_cons, List.not_mem_nil, or_false] at hu; rcases hu with rfl | rfl | rfl | rfl | rfl | rfl <;> rfl) (by unfold maxLen; omega) (by omega) (by have := HS3.out.hb.size; simp; omega) ?_; intro v' w5 hown hg hnil hat; clear hnil hat; have hown2 : w5.ownsRow (w.heap.size + 1) 39 6 v' (k + 1) (evsC kind at_ h k ++ evC kind (at_ k) (h k)) := (by rw [hhk.out, HAT.out]; exact hown); have hsn := (HS3.out.below ((by repeat' (first | exact Below.refl _ _ | (refine Below.alloc ?_ ?_ _) | (refine Below.setCell ?_ ?_ _) | (refine Below.drew ?_) | (refine below_next ?_ ?_ (by assumption)) | omega | (simp; done) | (simp; omega))) : Below w3.heap.size w3 (w3.alloc (.cells #[.int .i64 3, .int .i64 a, .int .i64 kind, .string ⟨#[]⟩, .int .i64 1, .slice none 0 0] 39)))).snoc hown2 hg; obtain ⟨EV2, c2, rfl, hs5⟩ := hsn; have HS5 := Lib.hid hs5; clear hs5 hown hown2 hg HS4))
          exact ⟨⟨k + 1, EV2, c2, by omega, by go_num, rfl, rfl, Lib.hid ⟨fun j hj => by rcases Nat.lt_or_ge j k with y | y; (· exact HI.out.1 j y); (· obtain rfl : j = k := (by omega); exact hhk.out), HS5.out⟩⟩, by simp [intOf]; omega⟩
      · have hU1 : (U == 0) = false := by rw [beq_eq_false_iff_ne]; exact hU
        have hhk : Hid (h k = false) := Lib.hid (by rw [← hh, decide_eq_false hU, Bool.and_false])
        clear hh hU
        rcases B with _ | _
        all_goals
          go_wp2_with (first | (go_at_call 10; refine (HT2.out _ (below_next HI.out.2.hb HI.out.2.hb.size (by repeat' (first | exact Below.refl _ _ | (refine Below.alloc ?_ ?_ _) | (refine Below.setCell ?_ ?_ _) | (refine Below.drew ?_) | (refine below_next ?_ ?_ (by assumption)) | omega | (simp; done) | (simp; omega))))).mono ?_; rintro e w3 ⟨rfl, hb3⟩; have hz3 := hb3.size; (try simp at hz3); have p0 : w3.cell? ⟨wo.heap.size, 0, none⟩ = some (.int .i64 a) := ((hb3.cell (p := ⟨wo.heap.size, 0, none⟩) (by simp)).trans (by simp [go_sem])); have HS3 : Hid (ClS w w3 ⟨vm, va, vl, vc⟩ ⟨om, oa, ol, oc⟩ res t kind at_ h EV k c) := Lib.hid (HI.out.2.below (below_next ((by repeat' (first | exact Below.refl _ _ | (refine Below.alloc ?_ ?_ _) | (refine Below.setCell ?_ ?_ _) | (refine Below.drew ?_) | (refine below_next ?_ ?_ (by assumption)) | omega | (simp; done) | (simp; omega))) : Below wo.heap.size wo (wo.alloc (.cells #[.int .i64 a, .slice C N M] 29))) (by simp) hb3)); clear hb3 HT2) | (at_builtin; have HS4 : Hid (ClS w ((w3.alloc (.cells #[.int .i64 3, .int .i64 a, .int .i64 kind, .string ⟨#[]⟩, .int .i64 0, .slice none 0 0] 39)).alloc (.cells #[.int .i64 3, .int .i64 a, .int .i64 kind, .string ⟨#[]⟩, .int .i64 0, .slice none 0 0] 39)) ⟨vm, va, vl, vc⟩ ⟨om, oa, ol, oc⟩ res t kind at_ h EV k c) := Lib.hid (HS3.out.below (by repeat' (first | exact Below.refl _ _ | (refine Below.alloc ?_ ?_ _) | (refine Below.setCell ?_ ?_ _) | (refine Below.drew ?_) | (refine below_next ?_ ?_ (by assumption)) | omega | (simp; done) | (simp; omega)))); refine wpList_append_own_at _ (by rfl) (.tmp 45) (.tmp 47) 30 (by rfl) (w.heap.size + 1) 39 i0 (.agg #[.int .i64 0, .int .i64 0, .int .i64 0, .string ⟨#[]⟩, .int .i64 0, .slice none 0 0]) 6 72 Try.underlying30 HIN.out.1 HIN.out.2.1 HIN.out.2.2.1 HIN.out.2.2.2 rfl (by omega) (.slice EV k c) k (evsC kind at_ h k) (by rfl) HS4.out.ow ⟨w3.heap.size + 1, 0, none⟩ 1 1 (evC kind a false) (by rfl) rfl (by have := tok_bd (w3.alloc (.cells #[.int .i64 3, .int .i64 a, .int .i64 kind, .string ⟨#[]⟩, .int .i64 0, .slice none 0 0] 39)) #[.int .i64 3, .int .i64 a, .int .i64 kind, .string ⟨#[]⟩, .int .i64 0, .slice none 0 0] 39; simpa [evC] using this) (by intro u hu; simp only [evC, List.mem_cons, List.not_mem_nil, or_false] at hu; rcases hu with rfl | rfl | rfl | rfl | rfl | rfl <;> rfl) (by unfold maxLen; omega) (by omega) (by have := HS3.out.hb.size; simp; omega) ?_; intro v' w5 hown hg hnil hat; clear hnil hat; have hown2 : w5.ownsRow (w.heap.size + 1) 39 6 v' (k + 1) (evsC kind at_ h k ++ evC kind (at_ k) (h k)) := (by rw [hhk.out, HAT.out]; exact hown); have hsn := (HS3.out.below ((by repeat' (first | exact Below.refl _ _ | (refine Below.alloc ?_ ?_ _) | (refine Below.setCell ?_ ?_ _) | (refine Below.drew ?_) | (refine below_next ?_ ?_ (by assumption)) | omega | (simp; done) | (simp; omega))) : Below w3.heap.size w3 (w3.alloc (.cells #[.int .i64 3, .int .i64 a, .int .i64 kind, .string ⟨#[]⟩, .int .i64 0, .slice none 0 0] 39)))).snoc hown2 hg; obtain ⟨EV2, c2, rfl, hs5⟩ := hsn; have HS5 := Lib.hid hs5; clear hs5 hown hown2 hg HS4))
          simp only [Exit.noGoto_ret]
          go_ret2
          exact ⟨EV2, c2, k + 1, false, rfl, HS5.out.ow.mono (by omega), .inr ⟨k, rfl, hlt, HI.out.1, hhk.out, rfl⟩, HS5.out.hb⟩
    · have hltd : decide (k < n) = false := decide_eq_false hlt
      go_wp2_with fail
      simp only [Exit.noGoto_ret]
      go_ret2
      exact ⟨EV, c, k, true, rfl, HI.out.2.ow.mono (by omega), .inl ⟨by omega, fun j hj => HI.out.1 j (by omega), rfl⟩, HI.out.2.hb⟩
end Go.Proofs.Ytnnhdkchdjddkaa.C

namespace Go.Proofs.Ytnnhdkchdjddkaa.C
open Go.ChangeShapes Go.WideShapes Go.RowKit Go.Deep
/-- A slice of yes and no that is read: nil, empty and other slices alike. -/
def BoolRow (w : World) (A : Option Addr) (n : Nat) (B : Nat → Bool) : Prop :=
  n ≤ 9223372036854775807 ∧ (0 < n → ∃ ad, A = some ad ∧ ∀ j, j < n → w.cell? (ad.add j) = some (.bool (B j)))
theorem BoolRow.below {w w' : World} {A : Option Addr} {n : Nat} {B : Nat → Bool} (h : BoolRow w A n B) (hb : Below w.heap.size w w') : BoolRow w' A n B :=
  ⟨h.1, fun h0 => by
    obtain ⟨ad, e, hc⟩ := h.2 h0
    exact ⟨ad, e, fun j hj => (hb.cell (World.block_lt_of_cell? w _ (hc j hj))).trans (hc j hj)⟩⟩
theorem open_brow {H : Type} {enc : TypeId × Value → H} {P : Program} {W : World} {base : Nat} {held : Bool} {t e : TypeId} {a : Option Addr} {len cap : Nat} {d : DataW H} {ps : List MemPlace}
    (ht : P.underlying t = some (.slice e)) (he : P.underlying e = some .bool) (hc : P.cellsOf e = 1) (h : DataW.Trod enc P W base (fun _ => true) held t (.slice a len cap) d ps) : ∃ B, BoolRow W a len B := by
  obtain ⟨fuel, hf⟩ := h
  rcases open_bools ht he hc hf with ⟨hcs, _⟩ | ⟨x, l, c, B, hcs, _, hl, hm, _, hcell⟩
  · simp [Value.cells] at hcs
    obtain ⟨rfl, rfl, rfl⟩ := hcs
    exact ⟨fun _ => false, by omega, fun h => absurd h (by omega)⟩
  · simp [Value.cells] at hcs
    obtain ⟨rfl, rfl, rfl⟩ := hcs
    unfold maxLen at hm
    exact ⟨B, by omega, fun h0 => ⟨x, rfl, fun j hj => hcell j (by omega)⟩⟩
end Go.Proofs.Ytnnhdkchdjddkaa.C

namespace Go.Proofs.Ytnnhdkchdjddkaa.C
open Go.RowKit
set_option linter.unusedSimpArgs false
set_option linter.unusedVariables false
/-- The two texts. -/
def wsB (h : Bool) : ByteArray := if h then ⟨#[49, 32, 61, 61, 32, 49]⟩ else ⟨#[49, 32, 47, 32, 48, 32, 61, 61, 32, 49]⟩
def wsC (h : Bool) : List Cd := if h then [⟨1, 1, [⟨1, 1, 5, [], -1, -1, 0⟩], [⟨1, 1, 5, [], -1, -1, 5⟩], -1, -1, 2⟩] else [⟨1, 1, [⟨1, 1, 5, [], -1, -1, 0⟩, ⟨1, 0, 5, [], -1, -1, 4⟩, ⟨11, 0, 0, [], 0, 1, 2⟩], [⟨1, 1, 5, [], -1, -1, 9⟩], -1, -1, 6⟩]
def wsU (h : Bool) : Int := if h then 0 else 2
theorem ws_t : runC (wsB true).data.toList = some (wsC true, 0, 0) := by kernel_rfl
theorem ws_f : runC (wsB false).data.toList = some (wsC false, 0, 0) := by kernel_rfl
theorem ws_x (h : Bool) : runC (wsB h).data.toList = some (wsC h, 0, 0) := by cases h; (· exact ws_f); (· exact ws_t)
theorem wv_t : tF (wsC true) noEnv 0 0 noEnv 1 0 = (true, 0, 0) := by kernel_rfl
theorem wv_f : tF (wsC false) noEnv 0 0 noEnv 1 0 = (false, 2, 2) := by kernel_rfl
theorem wv_x (h : Bool) : tF (wsC h) noEnv 0 0 noEnv 1 0 = (h, wsU h, wsU h) := by cases h; (· exact wv_f); (· exact wv_t)
/-- What Test says of a text's conditions, in each world that leaves the blocks from lo to hi as they are. -/
def TstAt (h : Bool) (AC : Option Addr) (cc : Nat) (W : World) : Prop := Calls Try.prog 10 #[.slice AC 1 cc, .int .i64 (((1 : Nat) : Int) - 1), envA noNV noNV 0 0] W fun E' w2 => E' = .returned (.tuple #[.bool h, .int .i64 (wsU h), .int .i64 (wsU h)]) ∧ Below W.heap.size W w2
structure TS (h : Bool) (AC : Option Addr) (cc lo hi : Nat) (W : World) : Prop where
  hl : hi ≤ W.heap.size
  ts : ∀ S : Nat → Prop, (∀ k, S k → k < lo ∨ hi ≤ k) → ∀ W', Fr S W W' → TstAt h AC cc W'
theorem TS.fr {h : Bool} {AC : Option Addr} {cc lo hi : Nat} {W W2 : World} {S : Nat → Prop} (t : TS h AC cc lo hi W) (hf : Fr S W W2) (hS : ∀ k, S k → k < lo ∨ hi ≤ k) : TS h AC cc lo hi W2 :=
  ⟨Nat.le_trans t.hl hf.size, fun S' hS' W' hf' => t.ts (fun k => S k ∨ S' k) (fun k hk => hk.elim (hS k) (hS' k)) W' (Fr.trans ⟨hf.os, hf.tape, hf.output, hf.size, fun k hk hn => hf.block k hk (fun s => hn (.inl s))⟩ hf' (fun _ _ s => .inr s))⟩
theorem TS.below {h : Bool} {AC : Option Addr} {cc lo hi : Nat} {W W2 : World} (t : TS h AC cc lo hi W) (hb : Below W.heap.size W W2) : TS h AC cc lo hi W2 := t.fr (S := fun _ => False) (Fr.of hb) (fun _ x => x.elim)
theorem TS.now {h : Bool} {AC : Option Addr} {cc lo hi : Nat} {W : World} (t : TS h AC cc lo hi W) : TstAt h AC cc W := t.ts (fun _ => False) (fun _ x => x.elim) W ⟨rfl, rfl, rfl, Nat.le_refl _, fun _ _ _ => rfl⟩
def WsPost (h : Bool) (W0 : World) (En : Ending) (w1 : World) : Prop := ∃ AC cc, En = .returned (.tuple #[.slice AC 1 cc, .int .i64 0, .int .i64 0]) ∧ Below W0.heap.size W0 w1 ∧ TS h AC cc W0.heap.size w1.heap.size w1
theorem wsCond (h : Bool) (W0 : World) : Calls Try.prog 5 #[.string (wsB h)] W0 (WsPost h W0) := by
  refine (r_cond_c (wsB h) W0 (by cases h <;> decide)).mono ?_
  rintro En w' ⟨cv, A, c, E', P', hx', rfl, hE, hb⟩
  have hk := hx'.kids
  have hl := hx'.len
  have hu := hx'.uniq (runC_R (ws_x h))
  injection hu with hu1 hu2
  injection hu2 with hu2 hu3
  subst hu2 hu3
  have hln : cv.length = 1 := by rw [← csOf_len, hu1]; cases h <;> rfl
  refine ⟨A, c, by rw [hln], hb, Nat.le_refl _, fun S hS W hf => ?_⟩
  have hE2 : OC W W0.heap.size A cv c := hE.fr hf (fun k hk => fun s => by have := hE.ge hk; rcases hS k s with y | y <;> omega) (fun k hk => fun s => by have := hE.geN hk; rcases hS k s with y | y <;> omega)
  have := test_c cv hk hl A c noNV noNV noEnv noEnv 0 0 1 0 W (.inl (by omega)) hE2.rd (noNOK _ _) (noNOK _ _)
  rw [hu1, wv_x, hln] at this
  exact this
/-- The row of clauses. -/
def clC (AC : Nat → Option Addr) (cc : Nat → Nat) (k : Nat) : List Value := (List.range k).flatMap (fun (j : Nat) => [.int .i64 (10 * (j : Int)), .slice (AC j) 1 (cc j)])
theorem clC_upd (AC : Nat → Option Addr) (cc : Nat → Nat) (k : Nat) (A : Option Addr) (c : Nat) : clC (fun j => if j = k then A else AC j) (fun j => if j = k then c else cc j) (k + 1) = clC AC cc k ++ [.int .i64 (10 * (k : Int)), .slice A 1 c] := by
  unfold clC
  rw [List.range_succ, List.flatMap_append]
  congr 1
  · have key : ∀ l : List Nat, (∀ x ∈ l, x < k) → l.flatMap (fun (j : Nat) => [Value.int .i64 (10 * (j : Int)), .slice (if j = k then A else AC j) 1 (if j = k then c else cc j)]) = l.flatMap (fun (j : Nat) => [Value.int .i64 (10 * (j : Int)), .slice (AC j) 1 (cc j)]) := by
      intro l
      induction l with
      | nil => intro _; rfl
      | cons x l ih =>
        intro hx
        have h1 := hx x (by simp)
        rw [List.flatMap_cons, List.flatMap_cons, ih (fun y hy => hx y (by simp [hy])), if_neg (by omega), if_neg (by omega)]
    exact key _ (fun x hx => List.mem_range.1 hx)
  · simp
/-- The number that is wanted, so far. -/
def Wt (h : Nat → Bool) (n k y : Nat) : Prop := (y = n ∧ ∀ j, j < k → h j = true) ∨ ∃ f, f < k ∧ y = f + 1 ∧ (∀ j, j < f → h j = true) ∧ h f = false
structure WsS (w W : World) (h : Nat → Bool) (V : Value) (k : Nat) (AC : Nat → Option Addr) (cc : Nat → Nat) : Prop where
  hb : Below w.heap.size w W
  ow : W.ownsRow w.heap.size 29 2 V k (clC AC cc k)
  ts : ∀ j, j < k → ∃ lo hi, TS (h j) (AC j) (cc j) lo hi W ∧ ∀ g, V.ownBlock = some g → g < lo ∨ hi ≤ g
theorem ownsRow_b {w w' : World} {B : Nat} {e : TypeId} {s n : Nat} {v : Value} {xs : List Value} (h : w.ownsRow B e s v n xs) (hb : Below w.heap.size w w') : w'.ownsRow B e s v n xs := by
  refine ⟨h.1, ?_⟩
  rcases h.2 with q | ⟨g, cap, cur, e, hg, hh, r⟩
  · exact .inl q
  · exact .inr ⟨g, cap, cur, e, hg, (hb.block g (Array.getElem?_eq_some_iff.1 hh).1).trans hh, r⟩
theorem WsS.below {w W W' : World} {h : Nat → Bool} {V : Value} {k : Nat} {AC : Nat → Option Addr} {cc : Nat → Nat} (s : WsS w W h V k AC cc) (hb : Below W.heap.size W W') : WsS w W' h V k AC cc :=
  ⟨below_next s.hb s.hb.size hb, ownsRow_b s.ow hb, fun j hj => by obtain ⟨lo, hi, h1, h2⟩ := s.ts j hj; exact ⟨lo, hi, h1.below hb, h2⟩⟩
theorem WsS.snoc {w W W2 : World} {h : Nat → Bool} {V V2 : Value} {k : Nat} {AC : Nat → Option Addr} {cc : Nat → Nat} {A : Option Addr} {c lo hi : Nat} {O : Obj} (s : WsS w W h V k AC cc) (ht : TS (h k) A c lo hi W) (hlo : ∀ g, V.ownBlock = some g → g < lo)
    (hown : W2.ownsRow w.heap.size 29 2 V2 (k + 1) (clC AC cc k ++ [.int .i64 (10 * (k : Int)), .slice A 1 c])) (hg : (W.alloc O).grownBy W2 V.ownBlock) (hat : V2.ownBlock = V.ownBlock ∨ V2.ownBlock = some (W.alloc O).heap.size) :
    WsS w W2 h V2 (k + 1) (fun j => if j = k then A else AC j) (fun j => if j = k then c else cc j) := by
  have ha : Below W.heap.size W (W.alloc O) := (Below.refl _ _).alloc (Nat.le_refl _) _
  have hf : Fr (fun g => V.ownBlock = some g) W W2 := ⟨hg.os.trans ha.os, hg.tape.trans ha.tape, hg.output.trans ha.output, Nat.le_trans ha.size hg.size, fun k hk hn => (hg.block k (by have := ha.size; omega) (fun e => hn e.symm)).trans (ha.block k hk)⟩
  have hz := ha.size
  refine ⟨?_, by rw [clC_upd]; exact hown, fun j hj => ?_⟩
  · refine (below_next s.hb s.hb.size ha).grown hg (by have := s.hb.size; omega) (fun g hgg => (s.ow.lt _ hgg).1)
  · have hnew : ∀ lo' hi', hi' ≤ W.heap.size → (∀ g, V.ownBlock = some g → g < lo' ∨ hi' ≤ g) → ∀ g, V2.ownBlock = some g → g < lo' ∨ hi' ≤ g := by
      intro lo' hi' h1 h2 g hgg
      rcases hat with e | e
      · exact h2 g (e ▸ hgg)
      · rw [e] at hgg
        injection hgg with hgg
        right; omega
    by_cases q : j = k
    · subst q
      rw [if_pos rfl, if_pos rfl]
      exact ⟨lo, hi, ht.fr hf (fun g hgg => .inl (hlo g hgg)), hnew lo hi ht.hl (fun g hgg => .inl (hlo g hgg))⟩
    · rw [if_neg q, if_neg q]
      obtain ⟨lo', hi', h1, h2⟩ := s.ts j (by omega)
      exact ⟨lo', hi', h1.fr hf h2, hnew lo' hi' h1.hl h2⟩
theorem infoCl : (Try.prog.info? 29).map (fun i => (i.zero, i.size, i.bytes)) = some (some (.agg #[.int .i64 0, .slice none 0 0]), 2, 32) := by kernel_rfl
theorem Wt.start (h : Nat → Bool) (n : Nat) : Wt h n 0 n := .inl ⟨rfl, fun j hj => by omega⟩
theorem Wt.yes {h : Nat → Bool} {n k y : Nat} (a : Wt h n k y) (hk : h k = true) : Wt h n (k + 1) y := by
  rcases a with ⟨a1, a2⟩ | ⟨f, a1, a2, a3, a4⟩
  · exact .inl ⟨a1, fun j hj => by rcases Nat.lt_or_ge j k with q | q; (· exact a2 j q); (· obtain rfl : j = k := (by omega); exact hk)⟩
  · exact .inr ⟨f, by omega, a2, a3, a4⟩
theorem Wt.no {h : Nat → Bool} {n k y : Nat} (a : Wt h n k y) (hk : h k = false) (hn : k < n) : Wt h n (k + 1) (min y (k + 1)) := by
  rcases a with ⟨a1, a2⟩ | ⟨f, a1, a2, a3, a4⟩
  · exact .inr ⟨k, by omega, by omega, a2, hk⟩
  · exact .inr ⟨f, by omega, by omega, a3, a4⟩
theorem Wt.le {h : Nat → Bool} {n k y : Nat} (a : Wt h n k y) (hk : k ≤ n) : y ≤ n := by
  rcases a with ⟨a1, a2⟩ | ⟨f, a1, a2, a3, a4⟩ <;> omega
theorem Wt.first {h : Nat → Bool} {n y k : Nat} {ok : Bool} (a : Wt h n n y) (b : FirstC h n k ok) : k = y := by
  rcases a with ⟨a1, a2⟩ | ⟨f, a1, a2, a3, a4⟩
  · exact (b.uniq (k' := y) (ok' := true) (.inl ⟨a1, a2, rfl⟩)).1
  · exact (b.uniq (k' := y) (ok' := false) (.inr ⟨f, a2, a1, a3, a4, rfl⟩)).1
theorem clauses_ws (A : Option Addr) (n cap : Nat) (w : World) (hd : Nat → Bool) (AC : Nat → Option Addr) (cc : Nat → Nat) (W : World) (hn : n ≤ 30) (s : WsS w W hd (.slice A n cap) n AC cc) :
    Calls Try.prog 6 #[.slice A n cap, .int .i64 4, .agg #[.pointer none, .slice none 0 0, .pointer none, .slice none 0 0, .int .i64 0, .int .i64 0]] W (ClPost 4 (fun i => 10 * (i : Int)) hd n W) := by
  have key := clauses_c A (match A with | some a => a.block | none => 0) n cap 4 noNV noNV 0 0 (fun i => 10 * (i : Int)) AC (fun _ => 1) cc hd (fun i => wsU (hd i)) (fun i => wsU (hd i)) W (by omega) (fun h0 => by
    rcases s.ow.2 with ⟨_, q⟩ | ⟨g, c', cur, q, _⟩
    · omega
    · cases q; rfl) (fun i hi => by
    rcases s.ow.2 with ⟨_, q⟩ | ⟨g, c', cur, q, _⟩
    · omega
    · cases q
      have hF : ∀ j : Nat, ((fun (j : Nat) => [Value.int .i64 (10 * (j : Int)), .slice (AC j) 1 (cc j)]) j).length = 2 := fun _ => rfl
      refine ⟨?_, ?_, by omega⟩
      · rw [s.ow.cellAt (i * 2) (by omega)]
        exact flat_at hF hi (show 0 < 2 by omega)
      · rw [s.ow.cellAt (i * 2 + 1) (by omega)]
        exact flat_at hF hi (show 1 < 2 by omega)) (fun i hi W' hb => by
    obtain ⟨lo, hi', h1, _⟩ := s.ts i hi
    exact (h1.below hb).now)
  have e : (fun i => hd i && decide (wsU (hd i) = 0)) = hd := by
    funext i
    cases hd i <;> rfl
  rw [e] at key
  exact key
/-- The events, as they lie. -/
theorem ClPost.cells {W : World} {B g c k : Nat} {hd : Nat → Bool} (h : W.ownsRow B 39 6 (.slice (some ⟨g, 0, none⟩) k c) k (evsC 4 (fun i => 10 * (i : Int)) hd k)) {i : Nat} (hi : i < k) :
    W.cell? ⟨g, i * 6, none⟩ = some (.int .i64 3) ∧ W.cell? ⟨g, i * 6 + 1, none⟩ = some (.int .i64 (10 * (i : Int))) ∧ W.cell? ⟨g, i * 6 + 2, none⟩ = some (.int .i64 4) ∧ W.cell? ⟨g, i * 6 + 4, none⟩ = some (.int .i64 (if hd i then 1 else 0)) := by
  have hF : ∀ j : Nat, ((fun (j : Nat) => evC 4 (10 * (j : Int)) (hd j)) j).length = 6 := fun _ => rfl
  refine ⟨?_, ?_, ?_, ?_⟩
  · rw [h.cellAt (i * 6) (by omega)]; exact flat_at hF hi (show 0 < 6 by omega)
  · rw [h.cellAt (i * 6 + 1) (by omega)]; exact flat_at hF hi (show 1 < 6 by omega)
  · rw [h.cellAt (i * 6 + 2) (by omega)]; exact flat_at hF hi (show 2 < 6 by omega)
  · rw [h.cellAt (i * 6 + 4) (by omega)]; exact flat_at hF hi (show 4 < 6 by omega)
theorem clauses_nil (k : Int) (w : World) : Calls Try.prog 6 #[.slice none 0 0, .int .i64 k, .agg #[.pointer none, .slice none 0 0, .pointer none, .slice none 0 0, .int .i64 0, .int .i64 0]] w fun e w' => ∃ EV c, e = .returned (.tuple #[.slice EV 0 c, .bool true]) ∧ Below w.heap.size w w' := by
  refine (clauses_c none 0 0 0 k noNV noNV 0 0 (fun _ => 0) (fun _ => none) (fun _ => 0) (fun _ => 0) (fun _ => true) (fun _ => 0) (fun _ => 0) w (by omega) (fun h => by omega) (fun i h => by omega) (fun i h => by omega)).mono ?_
  rintro e w' ⟨EV, c, k', ok, rfl, _, hf, hb⟩
  obtain ⟨rfl, rfl⟩ : k' = 0 ∧ ok = true := hf.uniq (.inl ⟨rfl, fun j hj => by omega, rfl⟩)
  exact ⟨EV, c, rfl, hb⟩
theorem awake9_c (w : World) : Calls Try.prog 4 #[] w fun e w' => e = .returned (.bool true) ∧ Below w.heap.size w w' := by
  go_enter Try.func4, Try.ntmps4
  go_wp2_with (go_at_call 6; refine (clauses_nil 3 _).mono ?_; rintro e w' ⟨EV, c, rfl, hb⟩; have HB := Lib.hid hb; clear hb)
  go_ret
  exact ⟨rfl, HB.out⟩
set_option maxRecDepth 100000 in
set_option maxHeartbeats 6400000 in
theorem watchStops_c (A : Option Addr) (n cap : Nat) (hd : Nat → Bool) (w : World) (hA : BoolRow w A n hd) :
    Calls Try.prog 3 #[.slice A n cap] w fun e w' => e = .returned (.bool true) ∧ Below w.heap.size w w' := by
  have hmax := hA.1
  have HA := Lib.hid hA
  clear hA
  by_cases hn : 30 < n
  · have h1 : decide (30 < n) = true := decide_eq_true hn
    have h2 : (30 : Int) < (n : Int) := by omega
    go_enter Try.func3, Try.ntmps3
    go_wp2_with (go_at_call 4; refine (awake9_c w).mono ?_; rintro e w' ⟨rfl, hb⟩)
    go_ret
    exact ⟨rfl, hb⟩
  have h1 : decide (30 < n) = false := decide_eq_false hn
  have hn30 : n ≤ 30 := by omega
  obtain ⟨i0, hi0, hzz⟩ := Option.map_eq_some_iff.1 infoCl
  simp only [Prod.mk.injEq] at hzz
  have HIN := Lib.hid (And.intro hi0 hzz)
  clear hi0 hzz
  go_enter Try.func3, Try.ntmps3
  go_wp2_with fail
  go_loopw [3, 4, 5] (fun l y i wr => ∃ (k Y RC : Nat) (RA : Option Addr) (AC : Nat → Option Addr) (cc : Nat → Nat), k ≤ n ∧ i = .int .i64 k ∧ y = .int .i64 Y ∧ l = .slice RA k RC ∧ Hid (WsS w wr hd (.slice RA k RC) k AC cc ∧ Wt hd n k Y)) (fun _ _ i _ => n - (intOf i).toNat)
  case atStart => exact ⟨0, n, 0, none, fun _ => none, fun _ => 0, by omega, rfl, rfl, rfl, Lib.hid ⟨⟨Below.refl _ _, ⟨by simp [clC], .inl ⟨rfl, rfl⟩⟩, fun j hj => by omega⟩, Wt.start hd n⟩⟩
  case round =>
    obtain ⟨k, Y, RC, RA, AC, cc, hk, rfl, rfl, rfl, HI⟩ := hrel
    obtain ⟨wo, rfl⟩ : ∃ wo : World, wo = wr := ⟨_, rfl⟩
    have hY := HI.out.2.le hk
    by_cases hlt : k < n
    · have hltd : decide (k < n) = true := decide_eq_true hlt
      obtain ⟨ad, rfl, hc⟩ := HA.out.2 (by omega)
      have c0 := cell_later HI.out.1.hb (hc k hlt)
      clear hc
      obtain ⟨H, hH⟩ : ∃ H, hd k = H := ⟨_, rfl⟩
      rw [hH] at c0
      have HHK := Lib.hid hH
      clear hH
      have ek : IntKind.i64.wrap ((k : Int) + 1) = (k : Int) + 1 := IntWalk.i64_in _ (by omega)
      have ek10 : IntKind.i64.wrap (10 * (k : Int)) = 10 * (k : Int) := IntWalk.i64_in _ (by omega)
      cases H
      · obtain ⟨Y2, hY2⟩ : ∃ Y2 : Nat, min Y (k + 1) = Y2 := ⟨_, rfl⟩
        have hmin : (if (k : Int) + 1 < (Y : Int) then (k : Int) + 1 else (Y : Int)) = (Y2 : Int) := by rw [← hY2]; split <;> omega
        have HW : Hid (Wt hd n (k + 1) Y2) := Lib.hid (by rw [← hY2]; exact HI.out.2.no HHK.out hlt)
        have hmin2 : min (Y : Int) ((k : Int) + 1) = (Y2 : Int) := by omega
        clear hY2
        go_wp2_with (first | (go_at_call 5; refine (show Calls Try.prog 5 #[.string ⟨#[49, 32, 47, 32, 48, 32, 61, 61, 32, 49]⟩] wo (WsPost false wo) from wsCond false wo).mono ?_; rintro e w1 ⟨AC', cc', rfl, hb1, hts⟩; have HC := Lib.hid (And.intro (HI.out.1.below hb1) (And.intro (show TS (hd k) AC' cc' wo.heap.size w1.heap.size w1 from (by rw [HHK.out]; exact hts)) (show ∀ g, (Value.slice RA k RC).ownBlock = some g → g < wo.heap.size from fun g hg => (HI.out.1.ow.lt g hg).2))); clear hb1 hts) | (at_builtin; have HS4 := Lib.hid (HC.out.1.below ((by repeat' (first | exact Below.refl _ _ | (refine Below.alloc ?_ ?_ _) | (refine Below.setCell ?_ ?_ _) | (refine Below.drew ?_) | (refine below_next ?_ ?_ (by assumption)) | omega | (simp; done) | (simp; omega))) : Below w1.heap.size w1 (w1.alloc (.cells #[.int .i64 (10 * (k : Int)), .slice AC' 1 cc'] 29)))); refine wpList_append_own_at _ (by rfl) (.tmp 41) (.tmp 46) 24 (by rfl) w.heap.size 29 i0 (.agg #[.int .i64 0, .slice none 0 0]) 2 32 Try.underlying24 HIN.out.1 HIN.out.2.1 HIN.out.2.2.1 HIN.out.2.2.2 rfl (by omega) (.slice RA k RC) k (clC AC cc k) (by rfl) HS4.out.ow ⟨w1.heap.size, 0, none⟩ 1 1 [.int .i64 (10 * (k : Int)), .slice AC' 1 cc'] (by rfl) rfl (tok_bd w1 #[.int .i64 (10 * (k : Int)), .slice AC' 1 cc'] 29) (by intro u hu; simp only [List.mem_cons, List.not_mem_nil, or_false] at hu; rcases hu with rfl | rfl <;> rfl) (by unfold maxLen; omega) (by omega) (by have := HC.out.1.hb.size; simp; omega) ?_; intro v' w5 hown hg hnil hat; clear hnil; have HS5 := Lib.hid (HC.out.1.snoc HC.out.2.1 HC.out.2.2 hown hg hat); clear hown hg hat HS4 HC))
        obtain ⟨RA2, RC2, rfl⟩ : ∃ a c, v' = .slice a (k + 1) c := by rcases HS5.out.ow.2 with ⟨_, q⟩ | ⟨g, c', cur, q, _⟩; (· omega); (· exact ⟨_, _, q⟩)
        exact ⟨⟨k + 1, Y2, RC2, RA2, _, _, by omega, by go_num, rfl, rfl, Lib.hid ⟨HS5.out, HW.out⟩⟩, by simp [intOf]; omega⟩
      · have HW : Hid (Wt hd n (k + 1) Y) := Lib.hid (HI.out.2.yes HHK.out)
        go_wp2_with (first | (go_at_call 5; refine (show Calls Try.prog 5 #[.string ⟨#[49, 32, 61, 61, 32, 49]⟩] wo (WsPost true wo) from wsCond true wo).mono ?_; rintro e w1 ⟨AC', cc', rfl, hb1, hts⟩; have HC := Lib.hid (And.intro (HI.out.1.below hb1) (And.intro (show TS (hd k) AC' cc' wo.heap.size w1.heap.size w1 from (by rw [HHK.out]; exact hts)) (show ∀ g, (Value.slice RA k RC).ownBlock = some g → g < wo.heap.size from fun g hg => (HI.out.1.ow.lt g hg).2))); clear hb1 hts) | (at_builtin; have HS4 := Lib.hid (HC.out.1.below ((by repeat' (first | exact Below.refl _ _ | (refine Below.alloc ?_ ?_ _) | (refine Below.setCell ?_ ?_ _) | (refine Below.drew ?_) | (refine below_next ?_ ?_ (by assumption)) | omega | (simp; done) | (simp; omega))) : Below w1.heap.size w1 (w1.alloc (.cells #[.int .i64 (10 * (k : Int)), .slice AC' 1 cc'] 29)))); refine wpList_append_own_at _ (by rfl) (.tmp 41) (.tmp 46) 24 (by rfl) w.heap.size 29 i0 (.agg #[.int .i64 0, .slice none 0 0]) 2 32 Try.underlying24 HIN.out.1 HIN.out.2.1 HIN.out.2.2.1 HIN.out.2.2.2 rfl (by omega) (.slice RA k RC) k (clC AC cc k) (by rfl) HS4.out.ow ⟨w1.heap.size, 0, none⟩ 1 1 [.int .i64 (10 * (k : Int)), .slice AC' 1 cc'] (by rfl) rfl (tok_bd w1 #[.int .i64 (10 * (k : Int)), .slice AC' 1 cc'] 29) (by intro u hu; simp only [List.mem_cons, List.not_mem_nil, or_false] at hu; rcases hu with rfl | rfl <;> rfl) (by unfold maxLen; omega) (by omega) (by have := HC.out.1.hb.size; simp; omega) ?_; intro v' w5 hown hg hnil hat; clear hnil; have HS5 := Lib.hid (HC.out.1.snoc HC.out.2.1 HC.out.2.2 hown hg hat); clear hown hg hat HS4 HC))
        obtain ⟨RA2, RC2, rfl⟩ : ∃ a c, v' = .slice a (k + 1) c := by rcases HS5.out.ow.2 with ⟨_, q⟩ | ⟨g, c', cur, q, _⟩; (· omega); (· exact ⟨_, _, q⟩)
        exact ⟨⟨k + 1, Y, RC2, RA2, _, _, by omega, by go_num, rfl, rfl, Lib.hid ⟨HS5.out, HW.out⟩⟩, by simp [intOf]; omega⟩
    · have hltd : decide (k < n) = false := decide_eq_false hlt
      obtain rfl : n = k := by omega
      have HCL := clauses_ws RA n RC w hd AC cc wo (by omega) HI.out.1
      go_upto_region 15 with (go_at_call 6; refine HCL.mono ?_; rintro e w1 ⟨EV, c, K, ok, rfl, how, hf, hb⟩; have HE := Lib.hid (And.intro (below_next HI.out.1.hb HI.out.1.hb.size hb) (And.intro how hf)); have hKY := HI.out.2.first hf; clear how hf hb HCL)
      subst hKY
      have hK30 : K ≤ 30 := by have := HI.out.2.le (Nat.le_refl _); omega
      obtain ⟨B, hB⟩ : ∃ B, wo.heap.size = B := ⟨_, rfl⟩
      rw [hB] at HE
      clear hB HI
      go_wp2_with fail
      go_loopw [12, 13] (fun al i wr => ∃ (k : Nat) (X : Bool), k ≤ K ∧ i = .int .i64 k ∧ al = .bool X ∧ Hid (X = true ↔ ∀ j, j < k → hd j = true) ∧ Hid (Below w.heap.size w wr ∧ wr.ownsRow B 39 6 (.slice EV K c) K (evsC 4 (fun i => 10 * (i : Int)) hd K))) (fun _ i _ => K - (intOf i).toNat)
      case atStart => exact ⟨0, true, by omega, rfl, rfl, Lib.hid ⟨fun _ j hj => by omega, fun _ => rfl⟩, Lib.hid ⟨HE.out.1, HE.out.2.1⟩⟩
      case round =>
        obtain ⟨k, X, hk, rfl, rfl, HX, HJ⟩ := hrel
        have hfc := HE.out.2.2
        clear HE
        obtain ⟨wi, rfl⟩ : ∃ wi : World, wi = wr := ⟨_, rfl⟩
        by_cases hlt : k < K
        · have hltd : decide (k < K) = true := decide_eq_true hlt
          have hkn : k < n := by rcases hfc with ⟨q, _⟩ | ⟨f, q, q2, _⟩ <;> omega
          obtain rfl : X = true := HX.out.2 (fun j hj => by rcases hfc with ⟨q, q2, _⟩ | ⟨f, q, q2, q3, _⟩; (· exact q2 j (by omega)); (· exact q3 j (by omega)))
          have HFC := Lib.hid hfc
          clear hfc
          obtain ⟨ad, rfl, hc⟩ := HA.out.2 (by omega)
          have c0 := cell_later HJ.out.1 (hc k hkn)
          clear hc
          obtain ⟨g, rfl⟩ : ∃ g, EV = some ⟨g, 0, none⟩ := by rcases HJ.out.2.2 with ⟨_, q⟩ | ⟨g, c', cur, q, _⟩; (· omega); (· cases q; exact ⟨_, rfl⟩)
          obtain ⟨e0, e1, e2, e4⟩ := ClPost.cells HJ.out.2 hlt
          obtain ⟨H, hH⟩ : ∃ H, hd k = H := ⟨_, rfl⟩
          rw [hH] at c0 e4
          have HHK := Lib.hid hH
          clear hH
          have ek : IntKind.i64.wrap ((k : Int) + 1) = (k : Int) + 1 := IntWalk.i64_in _ (by omega)
          have ek10 : IntKind.i64.wrap (10 * (k : Int)) = 10 * (k : Int) := IntWalk.i64_in _ (by omega)
          have HX2 : Hid (H = true ↔ ∀ j, j < k + 1 → hd j = true) := Lib.hid ⟨fun e j hj => by rcases Nat.lt_or_ge j k with q | q; (· exact HX.out.1 rfl j q); (· obtain rfl : j = k := (by omega); rw [HHK.out]; exact e), fun e => by have := e k (by omega); rw [HHK.out] at this; exact this⟩
          cases H
          all_goals
            first | rw [if_pos rfl] at e4 | rw [if_neg (by decide)] at e4
            go_wp2_with fail
            go_quiet (fail)
            go_wp2_with fail
            exact ⟨⟨k + 1, _, by omega, by go_num, rfl, Lib.hid (by simpa using HX2.out), Lib.hid ⟨below_next HJ.out.1 HJ.out.1.size (by first | exact below_drewN (Below.refl _ _) _ | exact (by repeat' (first | exact Below.refl _ _ | (refine Below.alloc ?_ ?_ _) | (refine Below.setCell ?_ ?_ _) | (refine Below.drew ?_) | (refine below_next ?_ ?_ (by assumption)) | omega | (simp; done) | (simp; omega)))), ownsRow_b HJ.out.2 (by first | exact below_drewN (Below.refl _ _) _ | exact (by repeat' (first | exact Below.refl _ _ | (refine Below.alloc ?_ ?_ _) | (refine Below.setCell ?_ ?_ _) | (refine Below.drew ?_) | (refine below_next ?_ ?_ (by assumption)) | omega | (simp; done) | (simp; omega))))⟩⟩, by simp [intOf]; omega⟩
        · have hltd : decide (k < K) = false := decide_eq_false hlt
          obtain rfl : K = k := by omega
          have hXo : X = ok := by
            rcases hfc with ⟨q, q2, q3⟩ | ⟨f, q, q2, q3, q4, q5⟩
            · rw [q3]; exact HX.out.2 (fun j hj => q2 j (by omega))
            · rw [q5]
              rcases X with _ | _
              · rfl
              · have := HX.out.1 rfl f (by omega)
                rw [q4] at this; cases this
          subst hXo
          clear hfc
          cases X
          all_goals
            go_wp2_with (go_at_call 4; refine (awake9_c _).mono ?_; rintro e w' ⟨rfl, hb⟩; have HF := Lib.hid (below_next HJ.out.1 HJ.out.1.size hb); clear hb)
            go_ret
            exact ⟨rfl, HF.out⟩
end Go.Proofs.Ytnnhdkchdjddkaa.C

namespace Go.Proofs.Ytnnhdkchdjddkaa.C
open Go.RowKit
theorem wf_u8 {x : Int} (h : (Lit.int .u8 x).wf = true) : 0 ≤ x ∧ x ≤ 255 := by
  have : IntKind.min .u8 ≤ x ∧ x ≤ IntKind.max .u8 := by simpa [Lit.wf] using h
  simpa [IntKind.min, IntKind.max, IntKind.signed, IntKind.bits] using this
theorem wf_u16 {x : Int} (h : (Lit.int .u16 x).wf = true) : 0 ≤ x ∧ x ≤ 65535 := by
  have : IntKind.min .u16 ≤ x ∧ x ≤ IntKind.max .u16 := by simpa [Lit.wf] using h
  simpa [IntKind.min, IntKind.max, IntKind.signed, IntKind.bits] using this
theorem wf_u32 {x : Int} (h : (Lit.int .u32 x).wf = true) : 0 ≤ x ∧ x ≤ 4294967295 := by
  have : IntKind.min .u32 ≤ x ∧ x ≤ IntKind.max .u32 := by simpa [Lit.wf] using h
  simpa [IntKind.min, IntKind.max, IntKind.signed, IntKind.bits] using this
theorem wf_i8 {x : Int} (h : (Lit.int .i8 x).wf = true) : -128 ≤ x ∧ x ≤ 127 := by
  have : IntKind.min .i8 ≤ x ∧ x ≤ IntKind.max .i8 := by simpa [Lit.wf] using h
  simpa [IntKind.min, IntKind.max, IntKind.signed, IntKind.bits] using this
theorem wf_i16 {x : Int} (h : (Lit.int .i16 x).wf = true) : -32768 ≤ x ∧ x ≤ 32767 := by
  have : IntKind.min .i16 ≤ x ∧ x ≤ IntKind.max .i16 := by simpa [Lit.wf] using h
  simpa [IntKind.min, IntKind.max, IntKind.signed, IntKind.bits] using this
theorem wf_i32 {x : Int} (h : (Lit.int .i32 x).wf = true) : -2147483648 ≤ x ∧ x ≤ 2147483647 := by
  have : IntKind.min .i32 ≤ x ∧ x ≤ IntKind.max .i32 := by simpa [Lit.wf] using h
  simpa [IntKind.min, IntKind.max, IntKind.signed, IntKind.bits] using this
theorem wf_i64 {x : Int} (h : (Lit.int .i64 x).wf = true) : -9223372036854775808 ≤ x ∧ x ≤ 9223372036854775807 := by
  have : IntKind.min .i64 ≤ x ∧ x ≤ IntKind.max .i64 := by simpa [Lit.wf] using h
  simpa [IntKind.min, IntKind.max, IntKind.signed, IntKind.bits] using this
end Go.Proofs.Ytnnhdkchdjddkaa.C

namespace Go.Proofs.Ytnnhdkchdjddkaa.watchStops
open Go.ChangeShapes Go.WideShapes Go.ChangeAt Go.RowKit
open Go.ChangeMaps (open_string shut_string)
set_option linter.unusedVariables false
set_option linter.unusedSimpArgs false
theorem own : ownKnob Try.prog.godebug = none := by kernel_rfl
theorem laidOut : laidOutB Try.prog = true := by kernel_rfl
set_option maxRecDepth 100000 in
theorem lifted (os : Os) (started : os.Started) (H : Type) (enc : TypeId × Value → H) :
    ReturnsInHanded {} Try.checked os 3 .any (Rows.watchStopsSpec.pre6 enc Try.prog Try.f3 Rows.watchStopsRow.domain false) (Rows.watchStopsSpec.post enc Try.prog Try.f3 false true false false) := by
  refine returnsInHanded_of_change_sized (C := Try.checked) own started (by kernel_rfl) Try.func3
    (ChangeSpec.witness6 (enc := enc) (C := Try.checked) false ⟨#[], #[.slice none 0 0], []⟩ 8 (by kernel_rfl) (by kernel_rfl) (by kernel_rfl) (by kernel_rfl)) ?_
  intro W base args ds gs before hval0 hW hcnd hsz0 _
  have hsz : (DataW.weightsEach Try.prog (Try.f3.params.toList ++ Rows.watchStopsSpec.plain.varTypes Try.prog) (ds ++ gs)).all (· ≤ reachBytes) = true := hsz0
  have hval : ∀ (j : Nat) t v, Try.f3.params[j]? = some t → args[j]? = some v → Value.okWide Try.prog W .any base t v := hval0
  have hW' := hW
  obtain ⟨p, q, hA0, hV, rfl, hfz, hnd⟩ := hW
  have hA : DataW.TrodAll enc Try.prog W 0 (fun _ => true) true Try.f3.params.toList args.toList ds p := hA0
  rw [Try.params3] at hA hval hsz
  obtain ⟨v0, vs0, d0, ds0, p0, q0, hargs, rfl, rfl, h0, r0⟩ := trodAll_cons hA
  obtain ⟨rfl, rfl, rfl⟩ := trodAll_nil r0
  obtain rfl : args = #[v0] := by cases args; simp_all
  obtain ⟨rfl, rfl⟩ := trodVars_none hV
  obtain ⟨a0, len0, cap0, rfl⟩ := okWide_slice Try.underlying22 (hval 0 22 v0 rfl rfl)
  have k0 := h0
  have lt0 : ∀ x ∈ p0, x.block < W.heap.size := by obtain ⟨m, hm⟩ := k0; exact DataW.trod_lt m _ _ _ hm
  obtain ⟨z0, w0⟩ := C.open_brow Try.underlying22 Try.underlying4 (by kernel_rfl) h0
  clear hA0 hval0 hsz0 hsz
  refine (C.watchStops_c a0 len0 cap0 z0 W w0).mono fun e W' ⟨he, bel⟩ => ?_
  subst he
  exact ⟨_, rfl, _, _, _, [], _, [], hW', trodAll_mk1 (shut_bool Try.underlying4 _), (trodAll_cons_mk (Below.trod laidOut (by kernel_rfl) (of_decide_eq_true (by kernel_rfl)) k0 bel lt0) trodAll_mk0), rfl, bel.frame _, fun h => by cases h⟩
theorem over : Rows.watchStopsRow.holds Try.pinned (OpenSpec.ofChange Rows.watchStopsSpec) :=
  OpenClaim.holds_of_wide 3 Try.f3 rfl rfl rfl rfl rfl rfl rfl ⟨rfl, rfl, rfl, rfl, rfl⟩ rfl rfl rfl rfl rfl (by kernel_rfl) Try.func3 (by kernel_rfl)
    (of_decide_eq_true (by kernel_rfl)) (by unfold Func.isWrapper; first | (rw [if_pos (by decide +kernel)]; kernel_rfl) | (rw [if_neg (by decide +kernel)]; exact ⟨rfl, rfl⟩))
    (fun os started H enc _ => lifted os started H enc)
theorem proved : Rows.WatchStopsSaid := over
#print axioms proved
end Go.Proofs.Ytnnhdkchdjddkaa.watchStops
namespace Go.Proofs.Ytnnhdkchdjddkaa
/-- The row, under a short name, for the claim. -/
theorem watchStops_holds : Rows.WatchStopsSaid := watchStops.proved
end Go.Proofs.Ytnnhdkchdjddkaa

