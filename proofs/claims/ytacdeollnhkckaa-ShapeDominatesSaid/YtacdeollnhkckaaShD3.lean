/- shape.Dominators: the walk (printed by gen_shd3.py). -/
import Derived.Test.YtacdeollnhkckaaShD2
import Derived.WalkMore
namespace Go.Proofs.Ytacdeollnhkckaa.C
open Go.Shelf Go.RowKit Go.Lib Go.Sort
set_option linter.unusedSimpArgs false
set_option linter.unusedVariables false
theorem infoR : (Try.prog.info? 25).map (fun i => (i.zero, i.size, i.bytes)) = some (some (.slice none 0 0), 1, 24) := by kernel_rfl
def bnd (i j : Nat) : Nat := 1000000 * i + j
theorem bnd_step {x i j : Nat} (h : x ≤ bnd i j) (hj : j ≤ 1000000) : x ≤ bnd (i + 1) 0 := by
  have h1 : bnd i j = 1000000 * i + j := rfl
  have h2 : bnd (i + 1) 0 = 1000000 * (i + 1) + 0 := rfl
  rw [h1] at h
  rw [h2, Nat.mul_add]
  omega
/-- The best so far, as the program keeps it. -/
def ofO : Option Nat → Int
  | none => -1
  | some b => b
def FF (gI gR gO Dr Di g : Nat) : Prop := g = gI ∨ g = gR ∨ g = gO ∨ g = Dr ∨ g = Di
theorem made_rows (w : World) (B n : Nat) (hB : B ≤ w.heap.size) (hn : n ≤ 1000000) : (w.alloc (.cells (madeCells #[.slice none 0 0] n) 25)).ownsRow B 25 1 (.slice (some ⟨w.heap.size, 0, none⟩) n n) n ((List.range n).map (fun _ => Value.slice none ([] : List Nat).length 0)) := by
  have := World.ownsRow_lit (base := B) (e := 25) (size := 1) w (madeCells #[.slice none 0 0] n) n hB (by unfold maxLen; omega) (by rw [size_madeCells]; omega)
  rw [toList_madeCells_one] at this
  have e : (List.range n).map (fun _ => Value.slice none ([] : List Nat).length 0) = List.replicate n (.slice none 0 0) := by
    apply List.ext_getElem?
    intro i
    rw [List.getElem?_map, List.getElem?_replicate]
    rcases Nat.lt_or_ge i n with h | h
    · rw [List.getElem?_range h, if_pos h]; rfl
    · rw [List.getElem?_eq_none (by simp; omega), if_neg (by omega)]; rfl
  rw [e]
  exact this
/-- The row of dominators, whatever the root. -/
noncomputable def domR (n : Nat) (E : Nat → Nat → Prop) (r : Int) : List Int := open Classical in if 0 ≤ r ∧ r < n then Sh.domL E r.toNat n else List.replicate n (-1)
theorem domR_len {n : Nat} {E : Nat → Nat → Prop} {r : Int} : (domR n E r).length = n := by
  unfold domR
  split
  · exact Sh.domL_len
  · simp
def DomPost (l : List Int) (w : World) (e : Ending) (w' : World) : Prop := ∃ g c, e = .returned (.slice (some ⟨g, 0, none⟩) l.length c) ∧ IL w' w.heap.size (.slice (some ⟨g, 0, none⟩) l.length c) l ∧ Below w.heap.size w w'
/-- The state between two rounds. -/
def DSt (w : World) (gO gR gB gI Dr Di n : Nat) (E : Nat → Nat → Prop) (r : Nat) (rank : Nat → Nat) (od : List Nat) (rl : List Int) (A : Nat → Option Addr) (c : Nat → Nat) (bl : Nat → List Nat) (W : World) (il : List Int) : Prop :=
  FX w W gO gR gB gI Dr Di n od rl A c bl ∧ IL W w.heap.size (.slice (some ⟨gI, 0, none⟩) n n) il ∧ il.length = n ∧ (∀ x v : Int, v ∈ il → v = -1 ∨ 0 ≤ v) ∧ Sh.Inv E r rank (fL il) (prL il) ∧ ∃ D, Sh.DIn E r (fL il) (prL il) D
set_option maxRecDepth 100000 in
set_option maxHeartbeats 12800000 in
theorem dominators_c (A0 : Option Addr) (n cap : Nat) (L : Nat → Nat) (m : Nat → Nat → Int) (r : Int) (w : World) (hG : GR w A0 n L m) (hn : n ≤ 2000) (hL : ∀ a, a < n → L a ≤ 1000000) :
    Calls Try.prog 9 #[.slice A0 n cap, .int .i64 r] w (DomPost (domR n (EG n L m) r) w) := by
  have hmkI := fun W => run_make_row' (P := Try.prog) 25 3 (.int .i64 0) 8 Try.underlying25 infoI rfl .i64 .i64 n (by omega) (by omega) W
  have hmkR := fun W => run_make_row' (P := Try.prog) 22 25 (.slice none 0 0) 24 Try.underlying22 infoR rfl .i64 .i64 n (by omega) (by omega) W
  have hn1 : decide (2000 < n) = false := decide_eq_false (by omega)
  have HG := Lib.hid hG
  have HLL := Lib.hid hL
  clear hG hL
  go_enter Try.func9, Try.ntmps9
  go_wp2_with fail
  go_step3
  go_upto_region 4 with fail
  refine at_world (fun W => Hid (Below w.heap.size w W ∧ IL W w.heap.size (.slice (some ⟨w.heap.size, 0, none⟩) n n) (List.replicate n 0) ∧ W.cell? ⟨w.heap.size + 1, 0, none⟩ = some (.slice (some ⟨w.heap.size, 0, none⟩) n n) ∧ w.heap.size + 1 < W.heap.size)) (Lib.hid ⟨(by repeat' (first | exact Below.refl _ _ | (refine Below.alloc ?_ ?_ _) | (refine Below.setCell ?_ ?_ _) | (refine Below.drew ?_) | (refine below_next ?_ ?_ (by assumption)) | omega | (simp; done) | (simp; omega))), (made_ints w n (by omega)).below (by repeat' (first | exact Below.refl _ _ | (refine Below.alloc ?_ ?_ _) | (refine Below.setCell ?_ ?_ _) | (refine Below.drew ?_) | (refine below_next ?_ ?_ (by assumption)) | omega | (simp; done) | (simp; omega))), by simp [go_sem], by simp⟩) ?_
  intro W1 H1
  obtain ⟨gI, hgI⟩ : ∃ b, w.heap.size = b := ⟨_, rfl⟩
  have HgI := Lib.hid hgI
  obtain ⟨Di, hDi⟩ : ∃ b, w.heap.size + 1 = b := ⟨_, rfl⟩
  have HDi := Lib.hid (show Di ≠ gI ∧ Di = gI + 1 by omega)
  simp only [hDi]
  simp only [hgI]
  have H1' : Hid (Below w.heap.size w W1 ∧ IL W1 w.heap.size (.slice (some ⟨gI, 0, none⟩) n n) (List.replicate n 0) ∧ W1.cell? ⟨Di, 0, none⟩ = some (.slice (some ⟨gI, 0, none⟩) n n) ∧ Di < W1.heap.size) := Lib.hid (by have := H1.out; rw [hgI] at this; rw [← hDi]; rw [hgI]; exact this)
  clear H1 hgI hDi hmkI
  have d20 : W1.cell? ⟨Di, 0, none⟩ = some (.slice (some ⟨gI, 0, none⟩) n n) := H1'.out.2.2.1
  go_wp2_with fail
  clear d20
  go_loopw [29] (fun i wr => ∃ k : Nat, k ≤ n ∧ i = .int .i64 k ∧ Hid (Below w.heap.size w wr ∧ IL wr w.heap.size (.slice (some ⟨gI, 0, none⟩) n n) (List.replicate k (-1) ++ List.replicate (n - k) 0) ∧ wr.cell? ⟨Di, 0, none⟩ = some (.slice (some ⟨gI, 0, none⟩) n n) ∧ Di < wr.heap.size)) (fun i _ => n - (intOf i).toNat)
  case atStart => exact ⟨0, by omega, rfl, H1'⟩
  case round =>
    clear H1'
    obtain ⟨k, hk, rfl, HI⟩ := hrel
    obtain ⟨wo, rfl⟩ : ∃ wo : World, wo = wr := ⟨_, rfl⟩
    have d2 : wo.cell? ⟨Di, 0, none⟩ = some (.slice (some ⟨gI, 0, none⟩) n n) := HI.out.2.2.1
    by_cases hlt : k < n
    · have hltd : decide (k < n) = true := decide_eq_true hlt
      have ek : IntKind.i64.wrap ((k : Int) + 1) = (k : Int) + 1 := IntWalk.i64_in _ (by omega)
      have c1 : wo.cell? ⟨gI, k, none⟩ = some (.int .i64 0) := HI.out.2.1.at_ (by rw [List.getElem?_append_right (by simp), List.length_replicate, List.getElem?_replicate, if_pos (by omega)])
      have c2 := HI.out.2.1.fz k
      go_wp2_with fail
      have hd2 : (wo.setCell ⟨gI, k, none⟩ (.int .i64 (-1))).cell? ⟨Di, 0, none⟩ = some (.slice (some ⟨gI, 0, none⟩) n n) := by rw [World.cell?_of_block (heap_setCell_other wo ⟨gI, k, none⟩ Di _ (fun e => HDi.out.1 (by simpa using e)))]; exact HI.out.2.2.1
      exact ⟨⟨k + 1, by omega, by go_num, Lib.hid ⟨HI.out.1.setCell (HI.out.2.1.lt gI rfl).1 _, by rw [← fill_step k n hlt]; exact HI.out.2.1.set k (-1), hd2, by simpa using HI.out.2.2.2⟩⟩, by simp [intOf]; omega⟩
    · have hltd : decide (k < n) = false := decide_eq_false hlt
      obtain rfl : n = k := by omega
      rw [Nat.sub_self, List.replicate_zero, List.append_nil] at HI
      by_cases h0 : 0 ≤ r ∧ r < n
      rotate_left
      · have hdr : domR n (EG n L m) r = List.replicate n (-1) := by unfold domR; rw [if_neg h0]
        have HDR := Lib.hid hdr
        clear hdr
        have hfinal : ∀ wf, wf = wo → DomPost (domR n (EG n L m) r) w (.returned (.slice (some ⟨gI, 0, none⟩) n n)) wf := by
          rintro wf rfl
          exact ⟨gI, n, by rw [domR_len], by rw [HDR.out, List.length_replicate]; exact HI.out.2.1, HI.out.1⟩
        have HF := Lib.hid hfinal
        clear hfinal
        by_cases h1 : r < 0
        · have hd : decide (r < 0) = true := decide_eq_true h1
          go_wp2_with fail
          go_ret
          exact HF.out _ rfl
        · have hd : decide (r < 0) = false := decide_eq_false h1
          have hd2 : (n : Int) ≤ r := by omega
          have hd3 : decide ((n : Int) ≤ r) = true := decide_eq_true hd2
          go_wp2_with fail
          go_ret
          exact HF.out _ rfl
      obtain ⟨r0, rfl⟩ := Int.eq_ofNat_of_zero_le h0.1
      have hr : r0 < n := by omega
      have hrd : decide (n ≤ r0) = false := decide_eq_false (by omega)
      clear h0
      have HRK := ranks_c A0 n cap L m r0 wo (HG.out.below HI.out.1) hn HLL.out hr
      go_upto_region 12 with (go_at_call 23; refine HRK.mono ?_; rintro e w1 ⟨od, rank, rl, gO, cO, gR, rfl, q1, q2, q3, q4, q5, q6, q7, q8⟩; have HQ := Lib.hid (And.intro q1 (And.intro q2 (And.intro q3 (And.intro q4 (And.intro q5 (And.intro q6 (And.intro q7 q8))))))); clear q1 q2 q3 q4 q5 q6 q8 HRK)
      go_upto_region 13 with fail
      have HP0 : Hid (∃ cc : Nat → Nat, PB w ((w1.alloc (.cells #[.slice (some ⟨gR, 0, none⟩) n n] 25)).alloc (.cells (madeCells #[.slice none 0 0] n) 25)) gO cO gR (w1.heap.size + 1) gI w1.heap.size Di n od rl (List.replicate n (-1)) (FF gI gR gO w1.heap.size Di) (fun _ => none) (fun _ => 0) (fun _ => [])) := Lib.hid (by
        obtain ⟨q1, q2, q3, q4, q5, q6, q7, q8⟩ := HQ.out
        have hb1 := below_next HI.out.1 HI.out.1.size q8
        have hba : Below w1.heap.size w1 ((w1.alloc (.cells #[.slice (some ⟨gR, 0, none⟩) n n] 25)).alloc (.cells (madeCells #[.slice none 0 0] n) 25)) := (by repeat' (first | exact Below.refl _ _ | (refine Below.alloc ?_ ?_ _) | (refine Below.setCell ?_ ?_ _) | (refine Below.drew ?_) | (refine below_next ?_ ?_ (by assumption)) | omega | (simp; done) | (simp; omega)))
        have hz := q8.size
        have hz2 := HI.out.2.2.2
        have hge := HI.out.1.size
        have l1 := q1.lt gO rfl
        have l2 := q2.lt gR rfl
        have l3 := HI.out.2.1.lt gI rfl
        have hrows := made_rows (w1.alloc (.cells #[.slice (some ⟨gR, 0, none⟩) n n] 25)) w.heap.size n (by have := hb1.size; simp; omega) (by omega)
        refine ⟨fun _ => 0, below_next hb1 hb1.size hba, (HI.out.2.1.below q8).below hba, (q2.wider hge).below hba, (q1.wider hge).below hba, by simp [go_sem], ?_, ⟨by simpa using hrows, fun x hx => ⟨rfl, .inl ⟨rfl, rfl⟩⟩, fun x hx g e => (by cases e), fun x y hx hy hne g e => (by cases e)⟩, .inl rfl, .inr (.inl rfl), .inr (.inr (.inl rfl)), .inr (.inr (.inr (.inl rfl))), .inr (.inr (.inr (.inr rfl))), ?_, by omega, by omega⟩
        · exact (hba.cell (p := ⟨Di, 0, none⟩) (by show Di < _; omega)).trans ((q8.cell (p := ⟨Di, 0, none⟩) hz2).trans HI.out.2.2.1)
        · rintro g (e | e | e | e | e) <;> simp <;> omega)
      refine at_world (fun W => Hid (∃ (A : Nat → Option Addr) (c : Nat → Nat) (bl : Nat → List Nat), PB w W gO cO gR (w1.heap.size + 1) gI w1.heap.size Di n od rl (List.replicate n (-1)) (FF gI gR gO w1.heap.size Di) A c bl ∧ ∀ x, x < n → bl x = [])) (Lib.hid (by obtain ⟨cc, h⟩ := HP0.out; exact ⟨_, _, _, h, fun x hx => rfl⟩)) ?_
      clear HP0
      intro W2 HP
      have hnI : Hid (gO ≠ gI ∧ gR ≠ gI ∧ w1.heap.size ≠ gI) := Lib.hid (by
        obtain ⟨q1, q2, q3, q4, q5, q6, q7, q8⟩ := HQ.out
        have l1 := q1.lt gO rfl
        have l2 := q2.lt gR rfl
        have l3 := HI.out.2.1.lt gI rfl
        have hz := q8.size
        refine ⟨?_, ?_, ?_⟩ <;> omega)
      obtain ⟨Dr, hDr⟩ : ∃ b, w1.heap.size = b := ⟨_, rfl⟩
      obtain ⟨gB, hgB⟩ : ∃ b, w1.heap.size + 1 = b := ⟨_, rfl⟩
      simp only [hgB] at HP ⊢
      simp only [hDr] at HP hnI ⊢
      have hBr : Hid (∀ g, FF gI gR gO Dr Di g → True) := Lib.hid (fun _ _ => trivial)
      obtain ⟨_, _, q3, q4, q5, q6, q7', _⟩ := HQ.out
      have HO := Lib.hid (And.intro q3 (And.intro q4 (And.intro (And.intro q5 q6) q7')))
      clear hDr hgB HQ hBr q3 q4 q5 q6 q7' HI d2 hmkR
      obtain ⟨i0, hi0, hzz⟩ := Option.map_eq_some_iff.1 infoI
      simp only [Prod.mk.injEq] at hzz
      have HIN := Lib.hid (And.intro hi0 hzz)
      clear hi0 hzz
      go_wp2_with fail
      go_loopw [56] (fun v wr => ∃ (i : Nat) (A : Nat → Option Addr) (c : Nat → Nat) (bl : Nat → List Nat), i ≤ od.length ∧ v = .int .i64 i ∧ Hid (PB w wr gO cO gR gB gI Dr Di n od rl (List.replicate n (-1)) (FF gI gR gO Dr Di) A c bl ∧ ∀ x, x < n → ∀ k : Nat, (k ∈ bl x ↔ ∃ j : Nat, j < i ∧ od[j]? = some k ∧ EG n L m k x) ∧ (bl x).length ≤ bnd i 0)) (fun v _ => od.length - (intOf v).toNat)
      case atStart =>
        obtain ⟨A, c, bl, h1, h2⟩ := HP.out
        exact ⟨0, A, c, bl, by omega, rfl, Lib.hid ⟨h1, fun x hx k => by rw [h2 x hx]; exact ⟨⟨fun h => (by cases h), fun ⟨j, hj, _⟩ => (by omega)⟩, Nat.zero_le _⟩⟩⟩
      case round =>
        clear HP
        obtain ⟨i, A, c, bl, hi, rfl, HI⟩ := hrel
        obtain ⟨wo, rfl⟩ : ∃ wo : World, wo = wr := ⟨_, rfl⟩
        by_cases hlt2 : i < od.length
        · have hltd2 : decide (i < od.length) = true := decide_eq_true hlt2
          have ei : IntKind.i64.wrap ((i : Int) + 1) = (i : Int) + 1 := IntWalk.i64_in _ (by omega)
          obtain ⟨a, hai⟩ : ∃ a, od[i]? = some a := ⟨_, List.getElem?_eq_getElem hlt2⟩
          have ha : a < n := rc_lt hr (HO.out.2.1.rc i a hai).1
          have ca := HI.out.1.od.at_ (nI_at hai)
          have HAI := Lib.hid hai
          clear hai
          have HTO := to_c A0 n cap L m a wo (HG.out.below HI.out.1.hb) ha (HLL.out a ha)
          go_upto_region 17 with (go_at_call 24; refine HTO.mono ?_; rintro e w3 ⟨Bk, ck, rfl, hkid, hbt⟩; have HKID := Lib.hid (And.intro hkid hbt); clear hkid hbt HTO)
          obtain ⟨K2, hK2⟩ : ∃ K2, (toL n L m a).length = K2 := ⟨_, rfl⟩
          rw [hK2] at HKID
          simp only [hK2]
          have HKL : Hid ((toN n L m a).length = K2) := Lib.hid (by rw [toN_len]; exact hK2)
          have hK2b : K2 ≤ 1000000 := by rw [← hK2]; exact Nat.le_trans toL_len (HLL.out a ha)
          clear hK2
          have HJ0 : Hid ((PB w w3 gO cO gR gB gI Dr Di n od rl (List.replicate n (-1)) (fun g => FF gI gR gO Dr Di g ∨ (Value.slice Bk K2 ck).ownBlock = some g) A c bl) ∧ IL w3 w.heap.size (.slice Bk K2 ck) (nI (toN n L m a)) ∧ ∀ x, x < n → ∀ k : Nat, (k ∈ bl x ↔ (∃ j : Nat, j < i ∧ od[j]? = some k ∧ EG n L m k x) ∨ (k = a ∧ x ∈ (toN n L m a).take 0)) ∧ (bl x).length ≤ bnd i 0) := Lib.hid (by
            have h1 := HI.out.1.below HKID.out.2
            refine ⟨h1.more (fun g => .inl) (fun g hg => ?_) (fun x hx g hg q => ?_), by rw [toN_nI]; exact HKID.out.1.wider HI.out.1.hb.size, fun x hx k => ⟨by rw [(HI.out.2 x hx k).1]; simp, (HI.out.2 x hx k).2⟩⟩
            · rcases hg with hg | hg
              · exact h1.fl g hg
              · exact (HKID.out.1.lt g hg).2
            · rcases q with q | q
              · exact HI.out.1.bk.sp x hx g hg q
              · have z1 := ((HI.out.1.bk.rw_ x hx).lt g hg).2
                have z2 := (HKID.out.1.lt g q).1
                omega)
          clear HKID ca HI
          go_loopw [64] (fun v wr => ∃ (j : Nat) (A : Nat → Option Addr) (c : Nat → Nat) (bl : Nat → List Nat), j ≤ K2 ∧ v = .int .i64 j ∧ Hid ((PB w wr gO cO gR gB gI Dr Di n od rl (List.replicate n (-1)) (fun g => FF gI gR gO Dr Di g ∨ (Value.slice Bk K2 ck).ownBlock = some g) A c bl) ∧ IL wr w.heap.size (.slice Bk K2 ck) (nI (toN n L m a)) ∧ ∀ x, x < n → ∀ k : Nat, (k ∈ bl x ↔ (∃ j : Nat, j < i ∧ od[j]? = some k ∧ EG n L m k x) ∨ (k = a ∧ x ∈ (toN n L m a).take j)) ∧ (bl x).length ≤ bnd i j)) (fun v _ => K2 - (intOf v).toNat)
          case atStart => exact ⟨0, A, c, bl, by omega, rfl, HJ0⟩
          case round =>
            clear HJ0
            obtain ⟨j, A, c, bl, hj, rfl, HJ⟩ := hrel
            obtain ⟨wj, rfl⟩ : ∃ wj : World, wj = wr := ⟨_, rfl⟩
            by_cases hlt3 : j < K2
            · have hltd3 : decide (j < K2) = true := decide_eq_true hlt3
              have ej : IntKind.i64.wrap ((j : Int) + 1) = (j : Int) + 1 := IntWalk.i64_in _ (by omega)
              obtain ⟨gk, rfl, _, _⟩ := HJ.out.2.1.some_ (by omega)
              have hlen := HKL.out
              obtain ⟨y, hy1⟩ : ∃ y, (toN n L m a)[j]? = some y := ⟨_, List.getElem?_eq_getElem (by omega)⟩
              have cy := HJ.out.2.1.at_ (nI_at hy1)
              have hym := List.mem_of_getElem? hy1
              have hy : y < n := toN_lt hym
              have hyd : decide (y < n) = true := decide_eq_true hy
              have HY := Lib.hid hy1
              have cB := HJ.out.1.bk.cell hy
              have hcap := (HJ.out.1.bk.rw_ y hy).cap
              obtain ⟨Ax, hAx⟩ : ∃ z, A y = z := ⟨_, rfl⟩
              obtain ⟨cx, hcx⟩ : ∃ z, c y = z := ⟨_, rfl⟩
              obtain ⟨bx, hbx⟩ : ∃ z, bl y = z := ⟨_, rfl⟩
              obtain ⟨lx, hlx⟩ : ∃ z, bx.length = z := ⟨_, rfl⟩
              have hbn : lx ≤ 4000000000 := by have z1 := (HJ.out.2.2 y hy 0).2; have z2 := HO.out.2.2.2; rw [hbx, hlx] at z1; unfold bnd at z1; omega
              have hown0 : wj.ownsRow w.heap.size 3 1 (.slice Ax lx cx) lx ((nI bx).map (Value.int .i64)) := by
                have := HJ.out.1.bk.rw_ y hy
                rw [hAx, hcx, hbx, hlx] at this
                unfold IL at this
                rw [nI_len, hlx] at this
                exact this
              have HOT : Hid ((wj.alloc (.cells #[.int .i64 (a : Int)] 3)).ownsRow w.heap.size 3 1 (.slice Ax lx cx) lx ((nI bx).map (Value.int .i64))) := Lib.hid (ownsRow_b hown0 ((Below.refl _ _).alloc (Nat.le_refl _) _))
              have HPUT : Hid (∀ (V : Value) (w5 : World), w5.ownsRow w.heap.size 3 1 V (lx + 1) ((nI bx).map (Value.int .i64) ++ [.int .i64 (a : Int)]) → (wj.alloc (.cells #[.int .i64 (a : Int)] 3)).grownBy w5 (Value.slice Ax lx cx).ownBlock → (V.ownBlock = (Value.slice Ax lx cx).ownBlock ∨ V.ownBlock = some (wj.alloc (.cells #[.int .i64 (a : Int)] 3)).heap.size) → ∃ A2 c2, V = .slice A2 (lx + 1) c2 ∧ (PB w (w5.setCell ⟨gB, y, none⟩ (.slice A2 (lx + 1) c2)) gO cO gR gB gI Dr Di n od rl (List.replicate n (-1)) (fun g => FF gI gR gO Dr Di g ∨ (Value.slice (some ⟨gk, 0, none⟩) K2 ck).ownBlock = some g) (updO A y A2) (updO c y c2) (updO bl y (bl y ++ [a])))) := Lib.hid (fun V w5 h1 h2 h3 => by
                subst hlx hAx hcx
                subst hbx
                exact HJ.out.1.put hy h1 h2 h3)
              have HCB : Hid (∀ w5 : World, (wj.alloc (.cells #[.int .i64 (a : Int)] 3)).grownBy w5 (Value.slice Ax lx cx).ownBlock → w5.cell? ⟨gB, y, none⟩ = some (.slice Ax lx cx) ∧ w5.frozen? ⟨gB, y, none⟩ = false) := Lib.hid (fun w5 h2 => by
                have hb9 : Below wj.heap.size wj (wj.alloc (.cells #[.int .i64 (a : Int)] 3)) := (Below.refl _ _).alloc (Nat.le_refl _) _
                have hbk := HJ.out.1.bk.below hb9
                have hne := own_kind hbk.hd (ownsRow_b hown0 hb9) tR_ne_tI gB rfl
                have hblk := h2.block gB (hbk.hd.lt gB rfl).2 (fun q => hne q.symm)
                have hc9 := hbk.cell hy
                rw [hAx, hcx, hbx, hlx] at hc9
                refine ⟨(World.cell?_of_block hblk).trans hc9, ?_⟩
                have := World.ownsRow.frozenAt hbk.hd y
                unfold World.frozen? at this ⊢
                rw [hblk]
                exact this)
              rw [hAx, hcx, hbx, hlx] at cB
              rw [hcx, hbx, nI_len, hlx] at hcap
              have HEQ := Lib.hid (And.intro hAx (And.intro hcx (And.intro hbx hlx)))
              clear hlen hy1 hym hAx hcx hown0 hbx hlx
              go_wp2_with (at_builtin; refine wpList_append_own_at _ (by rfl) (.tmp 73) (.tmp 75) 25 (by rfl) w.heap.size 3 i0 (.int .i64 0) 1 8 Try.underlying25 HIN.out.1 HIN.out.2.1 HIN.out.2.2.1 HIN.out.2.2.2 rfl (by omega) (.slice Ax lx cx) lx ((nI bx).map (Value.int .i64)) (by rfl) HOT.out ⟨wj.heap.size, 0, none⟩ 1 1 [.int .i64 (a : Int)] (by rfl) rfl (by have := tok_bd wj #[.int .i64 (a : Int)] 3; simpa using this) (by intro u hu; rw [List.mem_singleton] at hu; subst hu; rfl) (by unfold maxLen; omega) (by omega) (by have := HJ.out.1.hb.size; simp; omega) ?_; intro v' w5 hown hg hnil hat; clear hnil; have hput := HPUT.out v' w5 hown hg hat; obtain ⟨A2, c2, rfl, hj2⟩ := hput; have HP2 := Lib.hid hj2; obtain ⟨hcB, hfB⟩ := HCB.out w5 hg; have HGR := Lib.hid hg; clear hj2 hown hg hat HOT HPUT HCB)
              have HMEM : Hid (∀ x, x < n → ∀ k : Nat, (k ∈ updO bl y (bl y ++ [a]) x ↔ (∃ j : Nat, j < i ∧ od[j]? = some k ∧ EG n L m k x) ∨ (k = a ∧ x ∈ (toN n L m a).take (j + 1))) ∧ (updO bl y (bl y ++ [a]) x).length ≤ bnd i (j + 1)) := Lib.hid (fun x hx k => by
                obtain ⟨z1, z2⟩ := HJ.out.2.2 x hx k
                have z3 : x ∈ (toN n L m a).take (j + 1) ↔ x ∈ (toN n L m a).take j ∨ x = y := by rw [List.take_add_one, HY.out]; simp
                unfold updO
                by_cases q : x = y
                · subst q
                  rw [if_pos rfl, List.mem_append, List.mem_singleton, z1, z3]
                  refine ⟨⟨fun h => ?_, fun h => ?_⟩, by unfold bnd at z2 ⊢; simp; omega⟩
                  · rcases h with (h | h) | h
                    · exact .inl h
                    · exact .inr ⟨h.1, .inl h.2⟩
                    · exact .inr ⟨h, .inr rfl⟩
                  · rcases h with h | ⟨h, _⟩
                    · exact .inl (.inl h)
                    · exact .inr h
                · rw [if_neg q, z1, z3]
                  exact ⟨⟨fun h => h.elim .inl (fun h => .inr ⟨h.1, .inl h.2⟩), fun h => h.elim .inl (fun h => .inr ⟨h.1, h.2.resolve_right q⟩)⟩, by unfold bnd at z2 ⊢; omega⟩)
              have hIK := (show IL (w5.setCell ⟨gB, y, none⟩ (.slice A2 (lx + 1) c2)) w.heap.size (.slice (some ⟨gk, 0, none⟩) K2 ck) (nI (toN n L m a)) from by
                have hb9 : Below wj.heap.size wj (wj.alloc (.cells #[.int .i64 (a : Int)] 3)) := (Below.refl _ _).alloc (Nat.le_refl _) _
                have z1 := HJ.out.2.1.below hb9
                have z2 := z1.grown HGR.out (fun g hgg q => HJ.out.1.bk.sp y hy g (by rw [HEQ.out.1, HEQ.out.2.1, HEQ.out.2.2.1, HEQ.out.2.2.2]; exact q) (.inr hgg))
                refine z2.far (p := ⟨gB, y, none⟩) (fun q => ?_) _
                have z3 := own_kind (HJ.out.1.bk.below hb9).hd z1 tR_ne_tI gB rfl
                exact z3 q)
              exact ⟨⟨j + 1, _, _, _, by omega, by go_num, Lib.hid ⟨HP2.out, hIK, HMEM.out⟩⟩, by simp [intOf]; omega⟩
            · have hltd3 : decide (j < K2) = false := decide_eq_false hlt3
              obtain rfl : K2 = j := by omega
              go_wp2_with fail
              refine ⟨⟨i + 1, A, c, bl, by omega, by go_num, Lib.hid ⟨HJ.out.1.less (fun g => .inl) (.inl rfl) (.inr (.inl rfl)) (.inr (.inr (.inl rfl))) (.inr (.inr (.inr (.inl rfl)))) (.inr (.inr (.inr (.inr rfl)))), fun x hx k => ?_⟩⟩, by simp [intOf]; omega⟩
              obtain ⟨z1, z2⟩ := HJ.out.2.2 x hx k
              refine ⟨?_, bnd_step z2 hK2b⟩
              rw [z1, List.take_of_length_le (by have := HKL.out; omega)]
              constructor
              · rintro (⟨j, h1, h2, h3⟩ | ⟨h1, h2⟩)
                · exact ⟨j, by omega, h2, h3⟩
                · subst h1; exact ⟨i, by omega, HAI.out, (toN_mem ha x).1 h2⟩
              · rintro ⟨j, h1, h2, h3⟩
                rcases Nat.lt_or_ge j i with q | q
                · exact .inl ⟨j, q, h2, h3⟩
                · obtain rfl : j = i := by omega
                  rw [HAI.out] at h2
                  cases h2
                  exact .inr ⟨rfl, (toN_mem ha x).2 h3⟩
        · have hltd2 : decide (i < od.length) = false := decide_eq_false hlt2
          obtain rfl : od.length = i := by omega
          have hc0 : wo.cell? ⟨gI, r0, none⟩ = some (.int .i64 (-1)) := HI.out.1.il.at_ (by rw [List.getElem?_replicate, if_pos hr])
          have hf0 := HI.out.1.il.fz r0
          have d20 := HI.out.1.d2
          have hrd2 : decide (r0 < n) = true := decide_eq_true hr
          go_wp2_with fail
          have HD0 : Hid (∃ il, DSt w gO gR gB gI Dr Di n (EG n L m) r0 rank od rl A c bl (wo.setCell ⟨gI, r0, none⟩ (.int .i64 (r0 : Int))) il) := Lib.hid (by
            obtain ⟨z1, z2, z3⟩ := hnI.out
            have hml : (List.replicate n (-1 : Int)).length = n := List.length_replicate
            have hxl : r0 < (List.replicate n (-1 : Int)).length := by omega
            have hpr : prL ((List.replicate n (-1)).set r0 (r0 : Int)) = (· = r0) := by
              rw [prL_set hxl]
              funext y
              apply propext
              unfold prL
              rw [List.getD_eq_getElem?_getD, List.getElem?_replicate]
              constructor
              · rintro (q | q)
                · split at q <;> simp at q
                · exact q
              · exact .inr
            have hfr : fL ((List.replicate n (-1)).set r0 (r0 : Int)) r0 = r0 := by rw [fL_set hxl]; exact if_pos rfl
            refine ⟨(List.replicate n (-1)).set r0 (r0 : Int), (HI.out.1.fx z1 z2 z3 HDi.out.1).set _ _, HI.out.1.il.set r0 _, by rw [List.length_set, hml], fun _ v hv => ?_, ?_, ?_⟩
            · rcases List.mem_or_eq_of_mem_set hv with q | q
              · exact .inl (List.eq_of_mem_replicate q)
              · exact .inr (by omega)
            · rw [hpr]; exact Sh.Inv.init' hfr
            · rw [hpr]; exact ⟨_, Sh.DIn.init⟩)
          have HKM : Hid (∀ x, x < n → ∀ k : Nat, k ∈ bl x ↔ Sh.Rc (EG n L m) r0 k ∧ EG n L m k x) := Lib.hid (fun x hx k => by
            rw [(HI.out.2 x hx k).1]
            constructor
            · rintro ⟨j, h1, h2, h3⟩
              exact ⟨(HO.out.2.1.rc j k h2).1, h3⟩
            · rintro ⟨h1, h2⟩
              have h3 := HO.out.2.1.at_ k h1
              exact ⟨_, (List.getElem?_eq_some_iff.1 h3).1, h3, h2⟩)
          have HLB : Hid (∀ x, x < n → (bl x).length ≤ 4000000000) := Lib.hid (fun x hx => by
            have z1 := (HI.out.2 x hx 0).2
            have z2 := HO.out.2.2.2
            unfold bnd at z1
            omega)
          have hOc := HI.out.1.od.cap
          have hcO : od.length ≤ cO := hOc.1
          have hcO2 : cO ≤ 9223372036854775807 := hOc.2.1
          clear HI hc0 hf0 d20 hOc hnI HDi HIN
          refine at_world (fun W => Hid (∃ il, DSt w gO gR gB gI Dr Di n (EG n L m) r0 rank od rl A c bl W il)) HD0 ?_
          clear HD0
          intro W3 HD
          have hol1 : 0 < od.length := (List.getElem?_eq_some_iff.1 HO.out.2.1.zero).1
          obtain ⟨off, hoff, HOF⟩ : ∃ off, (if cO = 1 then (some ⟨gO, 0, none⟩ : Option Addr) else some ⟨gO, 1, none⟩) = some ⟨gO, off, none⟩ ∧ Hid (1 < od.length → off = 1) := by
            by_cases h1 : cO = 1
            · exact ⟨0, by rw [if_pos h1], Lib.hid (by omega)⟩
            · exact ⟨1, by rw [if_neg h1], Lib.hid (fun _ => rfl)⟩
          go_step3
          go_wp2_with fail
          go_loopw [15] (fun v wr => Hid (∃ il, DSt w gO gR gB gI Dr Di n (EG n L m) r0 rank od rl A c bl wr il)) (fun v wr => leastM (fun k => ∃ il, DSt w gO gR gB gI Dr Di n (EG n L m) r0 rank od rl A c bl wr il ∧ k = Sh.potM (EG n L m) r0 n (fL il) (prL il)))
          case atStart => exact HD
          case round =>
            clear HD
            obtain ⟨il0, hx0⟩ := hrel.out
            have hx := leastM_is (P := fun k => ∃ il, DSt w gO gR gB gI Dr Di n (EG n L m) r0 rank od rl A c bl wr il ∧ k = Sh.potM (EG n L m) r0 n (fL il) (prL il)) ⟨il0, hx0, rfl⟩
            obtain ⟨ils, hds, hms⟩ := hx
            clear hx0 il0 hrel
            have HMS := Lib.hid hms
            have HDS := Lib.hid hds
            obtain ⟨Ds0, hDs0⟩ := hds.2.2.2.2.2
            obtain ⟨Ds, hDs, hDp⟩ := Sh.potM_is (N := n) hDs0
            have HDP := Lib.hid (And.intro hDs hDp)
            clear hms hds hDs0 hDs hDp
            obtain ⟨wi, rfl⟩ : ∃ wi : World, wi = wr := ⟨_, rfl⟩
            go_upto_region 26 with fail
            (try simp only [hoff])
            obtain ⟨M, hM⟩ : ∃ M, od.length - 1 = M := ⟨_, rfl⟩
            have HM1 : Hid (od.length = M + 1) := Lib.hid (by omega)
            have hMb : M ≤ 2000 := by omega
            simp only [hM]
            clear hM
            go_loopw [15, 88] (fun u v wr => ∃ (J : Nat) (il : List Int) (D : Nat → Nat → Prop) (ch : Bool), J ≤ M ∧ v = .int .i64 J ∧ u = .bool ch ∧ Hid (FX w wr gO gR gB gI Dr Di n od rl A c bl ∧ IL wr w.heap.size (.slice (some ⟨gI, 0, none⟩) n n) il ∧ il.length = n ∧ (∀ x v : Int, v ∈ il → v = -1 ∨ 0 ≤ v) ∧ Sh.Rnd (EG n L m) r0 rank n od (fL ils) (prL ils) Ds (J + 1) (fL il) (prL il) D ch)) (fun _ v _ => M - (intOf v).toNat)
            case atStart => exact ⟨0, ils, Ds, false, by omega, rfl, rfl, Lib.hid ⟨HDS.out.1, HDS.out.2.1, HDS.out.2.2.1, HDS.out.2.2.2.1, Sh.Rnd.start HDS.out.2.2.2.2.1 HDP.out.1 HO.out.2.1⟩⟩
            case round =>
              obtain ⟨J, il, D, ch, hJ, rfl, rfl, HJ⟩ := hrel
              obtain ⟨wj, rfl⟩ : ∃ wj : World, wj = wr := ⟨_, rfl⟩
              by_cases hlt3 : J < M
              · have hltd3 : decide (J < M) = true := decide_eq_true hlt3
                have eJ : IntKind.i64.wrap ((J : Int) + 1) = (J : Int) + 1 := IntWalk.i64_in _ (by omega)
                obtain rfl : off = 1 := HOF.out (by have := HM1.out; omega)
                obtain ⟨x, hx⟩ : ∃ x, od[J + 1]? = some x := ⟨_, List.getElem?_eq_getElem (by have := HM1.out; omega)⟩
                have hxr := (HO.out.2.1.rc (J + 1) x hx)
                have hxn : x < n := rc_lt hr hxr.1
                have hxd : decide (x < n) = true := decide_eq_true hxn
                have cx : wj.cell? ⟨gO, 1 + J, none⟩ = some (.int .i64 (x : Int)) := by have := HJ.out.1.od (J + 1) x hx; rwa [Nat.add_comm] at this
                have cB := HJ.out.1.bh x hxn
                have hlb := HLB.out x hxn
                have HX := Lib.hid (And.intro hx hxr)
                clear hx hxr
                obtain ⟨lx, hlx⟩ : ∃ z, (bl x).length = z := ⟨_, rfl⟩
                obtain ⟨Ax, hAx⟩ : ∃ z, A x = z := ⟨_, rfl⟩
                rw [hlx, hAx] at cB
                rw [hlx] at hlb
                have HLX := Lib.hid (And.intro hlx hAx)
                clear hlx hAx
                have d2 := HJ.out.1.d2
                go_upto_region 30 with fail
                have HW0 : Hid (FX w wj gO gR gB gI Dr Di n od rl A c bl ∧ IL wj w.heap.size (.slice (some ⟨gI, 0, none⟩) n n) il ∧ Sh.Bst (fL il) (prL il) ((bl x).take 0) none) := Lib.hid ⟨HJ.out.1, HJ.out.2.1, Sh.Bst.nil⟩
                clear cx cB d2
                go_loopw [18, 97] (fun u v wr => ∃ (i : Nat) (o : Option Nat), i ≤ lx ∧ v = .int .i64 i ∧ u = .int .i64 (ofO o) ∧ Hid (FX w wr gO gR gB gI Dr Di n od rl A c bl ∧ IL wr w.heap.size (.slice (some ⟨gI, 0, none⟩) n n) il ∧ Sh.Bst (fL il) (prL il) ((bl x).take i) o)) (fun _ v _ => lx - (intOf v).toNat)
                case atStart => exact ⟨0, none, by omega, rfl, rfl, HW0⟩
                case round =>
                  clear HW0
                  obtain ⟨i, o, hi, rfl, rfl, HK⟩ := hrel
                  obtain ⟨wk, rfl⟩ : ∃ wk : World, wk = wr := ⟨_, rfl⟩
                  by_cases hlt4 : i < lx
                  · have hltd4 : decide (i < lx) = true := decide_eq_true hlt4
                    have ei : IntKind.i64.wrap ((i : Int) + 1) = (i : Int) + 1 := IntWalk.i64_in _ (by omega)
                    obtain ⟨k, hk⟩ : ∃ k, (bl x)[i]? = some k := ⟨_, List.getElem?_eq_getElem (by rw [HLX.out.1]; exact hlt4)⟩
                    obtain ⟨gk, e1, _, ck⟩ := HK.out.1.br x hxn i k hk
                    rw [HLX.out.2] at e1
                    subst e1
                    have hkm := (HKM.out x hxn k).1 (List.mem_of_getElem? hk)
                    have hkn : k < n := rc_lt hr hkm.1
                    have hkd : decide (k < n) = true := decide_eq_true hkn
                    have htk : (bl x).take (i + 1) = (bl x).take i ++ [k] := by rw [List.take_add_one, hk]; rfl
                    have HTK := Lib.hid (And.intro htk hkm)
                    obtain ⟨v, hv⟩ : ∃ v, il[k]? = some v := ⟨_, List.getElem?_eq_getElem (by rw [HJ.out.2.2.1]; exact hkn)⟩
                    have cv := HK.out.2.1.at_ hv
                    have hvv := HJ.out.2.2.2.1 0 v (List.mem_of_getElem? hv)
                    have HV := Lib.hid hv
                    have d2 := HK.out.1.d2
                    clear hk hkm htk hv
                    by_cases hv0 : v < 0
                    · have hvd : decide (v < 0) = true := decide_eq_true hv0
                      have hnp : ¬ prL il k := by
                        unfold prL
                        rw [List.getD_eq_getElem?_getD, HV.out]
                        simp only [Option.getD_some]
                        omega
                      have HN := Lib.hid hnp
                      clear hnp hvv
                      go_wp2_with fail
                      exact ⟨⟨i + 1, o, by omega, by go_num, rfl, Lib.hid ⟨HK.out.1, HK.out.2.1, by rw [HTK.out.1]; exact HK.out.2.2.skip HN.out⟩⟩, by simp [intOf]; omega⟩
                    · have hvd : decide (v < 0) = false := decide_eq_false hv0
                      have hp : prL il k := by
                        unfold prL
                        rw [List.getD_eq_getElem?_getD, HV.out]
                        simp only [Option.getD_some]
                        omega
                      have HPK := Lib.hid hp
                      clear hp hvv
                      cases o with
                      | none =>
                        simp only [ofO]
                        go_wp2_with fail
                        exact ⟨⟨i + 1, some k, by omega, by go_num, rfl, Lib.hid ⟨HK.out.1, HK.out.2.1, by rw [HTK.out.1]; exact HK.out.2.2.first HPK.out⟩⟩, by simp [intOf]; omega⟩
                      | some b =>
                        simp only [ofO]
                        have hbd : decide ((b : Int) < 0) = false := decide_eq_false (by omega)
                        have hbp : prL il b := by cases HK.out.2.2 with | yes h _ _ => exact h
                        have HME := meet_c w.heap.size gR gI Dr Di b k rl il wk HJ.out.2.2.2.2.inv (fun a b' h1 h2 h3 => by have z1 := HO.out.2.1.at_ a h1; have z2 := HO.out.2.1.at_ b' h2; rw [h3, z2] at z1; exact (Option.some.inj z1).symm) (HO.out.2.1.rc 0 r0 HO.out.2.1.zero).2 hn (fun y hy => rc_lt hr (HJ.out.2.2.2.2.inv.rc y hy)) HK.out.1.rk HO.out.2.2.1.2 HK.out.2.1 (fun y hy => fL_at hy) HK.out.1.d1 d2 hbp HPK.out
                        go_wp2_with (go_at_call 25; refine HME.mono ?_; rintro e wm ⟨cc, q, hme, rfl, rfl⟩; have HMT := Lib.hid hme; clear hme HME)
                        exact ⟨⟨i + 1, some cc, by omega, by go_num, rfl, Lib.hid ⟨HK.out.1.drew q, HK.out.2.1.below (below_drewN (Below.refl _ _) q), by rw [HTK.out.1]; exact HK.out.2.2.more HPK.out HMT.out⟩⟩, by simp [intOf]; omega⟩
                  · have hltd4 : decide (i < lx) = false := decide_eq_false hlt4
                    obtain rfl : lx = i := by omega
                    have hks := HK.out.2.2
                    rw [List.take_of_length_le (by rw [HLX.out.1]; exact Nat.le_refl _)] at hks
                    have hlow : ∃ k, prL il k ∧ EG n L m k x ∧ rank k < rank x := by
                      obtain ⟨k, k1, k2, k3⟩ := HO.out.2.1.par x HX.out.2.1 (fun e => by
                        have z1 := HX.out.2.2
                        have z2 := (HO.out.2.1.rc 0 r0 HO.out.2.1.zero).2
                        rw [e, z2] at z1; omega)
                      exact ⟨k, HJ.out.2.2.2.2.pre (rank k) k (by rw [HX.out.2.2] at k3; exact k3) (HO.out.2.1.at_ k k1), k2, k3⟩
                    obtain ⟨b, rfl, hbp, hbest⟩ := hks.best (fun k => HKM.out x hxn k) HJ.out.2.2.2.2.inv hlow
                    have HBS := Lib.hid (And.intro hbp hbest)
                    clear hks hlow hbp hbest
                    simp only [ofO]
                    obtain ⟨v, hv⟩ : ∃ v, il[x]? = some v := ⟨_, List.getElem?_eq_getElem (by rw [HJ.out.2.2.1]; exact hxn)⟩
                    have cv := HK.out.2.1.at_ hv
                    have fv := HK.out.2.1.fz x
                    have hvv := HJ.out.2.2.2.1 0 v (List.mem_of_getElem? hv)
                    have HV := Lib.hid hv
                    have d2 := HK.out.1.d2
                    clear hv
                    by_cases hvb : v = (b : Int)
                    · subst hvb
                      have hne : ((b : Int) != (b : Int)) = false := by simp
                      have hp : prL il x := by
                        unfold prL
                        rw [List.getD_eq_getElem?_getD, HV.out]
                        simp only [Option.getD_some]
                        omega
                      have hfx : fL il x = b := by
                        unfold fL
                        rw [List.getD_eq_getElem?_getD, HV.out]
                        simp
                      have HPF := Lib.hid (And.intro hp hfx)
                      clear hp hfx hvv
                      go_wp2_with fail
                      have hnext := HJ.out.2.2.2.2.next HO.out.2.1 (fun y hy => rc_lt hr hy) (show 0 < J + 1 by omega) HX.out.1 HBS.out.2 ch ⟨fun h => ⟨h, HPF.out.1, HPF.out.2⟩, fun h => h.1⟩
                      rw [fL_same HPF.out.2, prL_same HPF.out.1] at hnext
                      exact ⟨⟨J + 1, il, _, ch, by omega, by go_num, rfl, Lib.hid ⟨HK.out.1, HK.out.2.1, HJ.out.2.2.1, HJ.out.2.2.2.1, hnext⟩⟩, by simp [intOf]; omega⟩
                    · have hne : (v != (b : Int)) = true := by rw [bne_iff_ne]; exact hvb
                      have hne2 : (v == (b : Int)) = false := by rw [beq_eq_false_iff_ne]; exact hvb
                      have hnpf : ¬ (prL il x ∧ fL il x = b) := by
                        rintro ⟨z1, z2⟩
                        have z3 := fL_at z1
                        rw [HV.out, z2] at z3
                        exact hvb (Option.some.inj z3)
                      have HNP := Lib.hid hnpf
                      clear hnpf hvb hvv
                      go_wp2_with fail
                      have hxl : x < il.length := by rw [HJ.out.2.2.1]; exact hxn
                      have hnext := HJ.out.2.2.2.2.next HO.out.2.1 (fun y hy => rc_lt hr hy) (show 0 < J + 1 by omega) HX.out.1 HBS.out.2 true ⟨fun h => (by cases h), fun h => absurd h.2 HNP.out⟩
                      rw [← fL_set hxl, ← prL_set hxl] at hnext
                      exact ⟨⟨J + 1, il.set x (b : Int), _, true, by omega, by go_num, rfl, Lib.hid ⟨HK.out.1.set x _, HK.out.2.1.set x _, by rw [List.length_set]; exact HJ.out.2.2.1, fun _ u hu => by rcases List.mem_or_eq_of_mem_set hu with z | z; (· exact HJ.out.2.2.2.1 0 u z); (· exact .inr (by omega)), hnext⟩⟩, by simp [intOf]; omega⟩
              · have hltd3 : decide (J < M) = false := decide_eq_false hlt3
                obtain rfl : M = J := by omega
                have hrnd := HJ.out.2.2.2.2
                rw [← HM1.out] at hrnd
                have hdone := hrnd.done HO.out.2.1 (fun y hy => rc_lt hr hy)
                have HDN := Lib.hid (And.intro hrnd hdone)
                clear hrnd hdone
                have d2 := HJ.out.1.d2
                cases ch with
                | true =>
                  go_wp2_with fail
                  have hlt5 := HDN.out.2.2 rfl
                  have hle5 := Sh.potM_le (N := n) HDN.out.1.din
                  have hex : ∃ il, DSt w gO gR gB gI Dr Di n (EG n L m) r0 rank od rl A c bl wj il ∧ Sh.potM (EG n L m) r0 n (fL il) (prL il) = Sh.potM (EG n L m) r0 n (fL il) (prL il) := ⟨il, ⟨HJ.out.1, HJ.out.2.1, HJ.out.2.2.1, HJ.out.2.2.2.1, HDN.out.1.inv, _, HDN.out.1.din⟩, rfl⟩
                  refine ⟨Lib.hid ⟨il, HJ.out.1, HJ.out.2.1, HJ.out.2.2.1, HJ.out.2.2.2.1, HDN.out.1.inv, _, HDN.out.1.din⟩, ?_⟩
                  rw [HMS.out]
                  refine Nat.lt_of_le_of_lt (leastM_le (k := Sh.potM (EG n L m) r0 n (fL il) (prL il)) ⟨il, ⟨HJ.out.1, HJ.out.2.1, HJ.out.2.2.1, HJ.out.2.2.2.1, HDN.out.1.inv, _, HDN.out.1.din⟩, rfl⟩) ?_
                  rw [← HDP.out.2]
                  omega
                | false =>
                  obtain ⟨v, hv⟩ : ∃ v, il[r0]? = some v := ⟨_, List.getElem?_eq_getElem (by rw [HJ.out.2.2.1]; exact hr)⟩
                  have cv := HJ.out.2.1.at_ hv
                  have fv := HJ.out.2.1.fz r0
                  have HV := Lib.hid hv
                  have d3 : (wj.setCell ⟨gI, r0, none⟩ (.int .i64 (-1))).cell? ⟨Di, 0, none⟩ = some (.slice (some ⟨gI, 0, none⟩) n n) := (HJ.out.1.set r0 (.int .i64 (-1))).d2
                  clear hv
                  go_wp2_with fail
                  (try simp only [Exit.noGoto_ret])
                  go_ret
                  have hexa := HDN.out.2.1 (by first | rfl | trivial)
                  have heq : il.set r0 (-1) = domR n (EG n L m) (r0 : Int) := by
                    unfold domR
                    rw [if_pos ⟨by omega, by omega⟩, Int.toNat_natCast]
                    apply List.ext_getElem?
                    intro y
                    rcases Nat.lt_or_ge y n with hy | hy
                    · have hdl : (Sh.domL (EG n L m) r0 n)[y]? = some (Sh.domF (EG n L m) r0 y) := by
                        unfold Sh.domL
                        rw [List.getElem?_map, List.getElem?_range hy]; rfl
                      rw [hdl, List.getElem?_set]
                      by_cases q : r0 = y
                      · subst q
                        rw [if_pos rfl, if_pos (by rw [HJ.out.2.2.1]; exact hr), Sh.domF_no (fun g => g.2 rfl)]
                      · rw [if_neg q]
                        by_cases hrc : Sh.Rc (EG n L m) r0 y
                        · rw [Sh.domF_of hrc (hexa.1 y hrc (Ne.symm q))]
                          exact fL_at (hexa.2 y hrc)
                        · rw [Sh.domF_no (fun g => hrc g.1)]
                          obtain ⟨u, hu⟩ : ∃ u, il[y]? = some u := ⟨_, List.getElem?_eq_getElem (by rw [HJ.out.2.2.1]; exact hy)⟩
                          rw [hu]
                          rcases HJ.out.2.2.2.1 0 u (List.mem_of_getElem? hu) with z | z
                          · rw [z]
                          · exact absurd (HDN.out.1.inv.rc y (by unfold prL; rw [List.getD_eq_getElem?_getD, hu]; exact z)) hrc
                    · rw [List.getElem?_eq_none (by rw [List.length_set, HJ.out.2.2.1]; exact hy), List.getElem?_eq_none (by rw [Sh.domL_len]; exact hy)]
                  have hil := HJ.out.2.1.set r0 (-1)
                  rw [heq] at hil
                  exact ⟨gI, n, by rw [domR_len]; rfl, by rw [domR_len]; exact hil, (HJ.out.1.set r0 _).hb⟩
end Go.Proofs.Ytacdeollnhkckaa.C
