/- shape.edges: walk (printed by gen_she.py). -/
import Derived.Test.YtacdeollnhkckaaShH
namespace Go.Proofs.Ytacdeollnhkckaa.C
open Go.Shelf Go.RowKit Go.Lib Go.Sort
set_option linter.unusedSimpArgs false
set_option linter.unusedVariables false
def edgeC (p : Nat × Nat) : List Value := [.int .i64 (p.1 : Int), .int .i64 (p.2 : Int)]
theorem edgeC_len (l : List (Nat × Nat)) : (l.flatMap edgeC).length = l.length * 2 := by
  induction l with
  | nil => rfl
  | cons x l ih => rw [List.flatMap_cons, List.length_append, ih]; simp [edgeC]; omega
def EL (w : World) (B : Nat) (v : Value) (l : List (Nat × Nat)) : Prop := w.ownsRow B 42 2 v l.length (l.flatMap edgeC)
theorem infoE : (Try.prog.info? 42).map (fun i => (i.zero, i.size, i.bytes)) = some (some (.agg #[.int .i64 0, .int .i64 0]), 2, 16) := by kernel_rfl
theorem tE_ne_tI : (42 : TypeId) ≠ 3 := by decide
theorem tE_ne_tB : (42 : TypeId) ≠ 4 := by decide
/-- The edges of the nodes below i: those that go back, or not. -/
noncomputable def edL (n : Nat) (L : Nat → Nat) (m : Nat → Nat → Int) (r : Int) (b : Bool) (i : Nat) : List (Nat × Nat) :=
  (List.range i).flatMap (fun a => if (rcL n (EG n L m) (fun _ => True) r)[a]? = some true then ((toN n L m a).filter (fun (k : Nat) => Sh.domB (domR n (EG n L m) r) (k : Int) (n + 1) (a : Int) == b)).map (fun k => (a, k)) else [])
noncomputable def edP (n : Nat) (L : Nat → Nat) (m : Nat → Nat → Int) (r : Int) (b : Bool) (a j : Nat) : List (Nat × Nat) := (((toN n L m a).take j).filter (fun (k : Nat) => Sh.domB (domR n (EG n L m) r) (k : Int) (n + 1) (a : Int) == b)).map (fun k => (a, k))
theorem edL_no {n : Nat} {L : Nat → Nat} {m : Nat → Nat → Int} {r : Int} {b : Bool} {i : Nat} (h : (rcL n (EG n L m) (fun _ => True) r)[i]? = some false) : edL n L m r b (i + 1) = edL n L m r b i := by
  unfold edL
  rw [List.range_succ, List.flatMap_append]
  simp [h]
theorem edL_yes {n : Nat} {L : Nat → Nat} {m : Nat → Nat → Int} {r : Int} {b : Bool} {i : Nat} (h : (rcL n (EG n L m) (fun _ => True) r)[i]? = some true) : edL n L m r b (i + 1) = edL n L m r b i ++ edP n L m r b i (toN n L m i).length := by
  unfold edL edP
  rw [List.range_succ, List.flatMap_append, List.take_length]
  simp [h]
theorem edP_step {n : Nat} {L : Nat → Nat} {m : Nat → Nat → Int} {r : Int} {b : Bool} {a j y : Nat} (h : (toN n L m a)[j]? = some y) : edP n L m r b a (j + 1) = if Sh.domB (domR n (EG n L m) r) (y : Int) (n + 1) (a : Int) == b then edP n L m r b a j ++ [(a, y)] else edP n L m r b a j := by
  unfold edP
  rw [List.take_add_one, h]
  split
  · rename_i q; simp [List.filter_cons, q]
  · rename_i q; simp [List.filter_cons, q]
theorem edP_len {n : Nat} {L : Nat → Nat} {m : Nat → Nat → Int} {r : Int} {b : Bool} {a j : Nat} : (edP n L m r b a j).length ≤ (toN n L m a).length := by
  unfold edP
  rw [List.length_map]
  refine Nat.le_trans (List.length_filter_le _ _) ?_
  rw [List.length_take]; omega
theorem edL_len {n : Nat} {L : Nat → Nat} {m : Nat → Nat → Int} {r : Int} {b : Bool} (hL : ∀ a, a < n → L a ≤ 1000000) : ∀ i, i ≤ n → (edL n L m r b i).length ≤ bnd i 0
  | 0, _ => by simp [edL]
  | i + 1, hi => by
    have ih := edL_len (m := m) (r := r) (b := b) hL i (by omega)
    obtain ⟨x, hx⟩ : ∃ x, (rcL n (EG n L m) (fun _ => True) r)[i]? = some x := ⟨_, List.getElem?_eq_getElem (by rw [rcL_len]; omega)⟩
    have h1 : (toN n L m i).length ≤ 1000000 := by rw [toN_len]; exact Nat.le_trans toL_len (hL i (by omega))
    cases x with
    | true =>
      rw [edL_yes hx, List.length_append]
      have h2 := edP_len (n := n) (L := L) (m := m) (r := r) (b := b) (a := i) (j := (toN n L m i).length)
      have h3 : (edL n L m r b i).length + (edP n L m r b i (toN n L m i).length).length ≤ bnd i 1000000 := by
        have e1 : bnd i 0 = 1000000 * i + 0 := rfl
        have e2 : bnd i 1000000 = 1000000 * i + 1000000 := rfl
        rw [e1] at ih
        rw [e2]
        omega
      exact bnd_step h3 (Nat.le_refl _)
    | false =>
      rw [edL_no hx]
      exact bnd_step ih (by omega)
structure ES (w W : World) (gD cD gQ cQ n : Nat) (dl : List Int) (rl : List Bool) (V1 V2 : Value) (bl ol : List (Nat × Nat)) : Prop where
  hb : Below w.heap.size w W
  di : IL W w.heap.size (.slice (some ⟨gD, 0, none⟩) n cD) dl
  rr : BL' W w.heap.size (.slice (some ⟨gQ, 0, none⟩) n cQ) rl
  be : EL W w.heap.size V1 bl
  oe : EL W w.heap.size V2 ol
  ap : ∀ g, V1.ownBlock = some g → V2.ownBlock ≠ some g
theorem ES.below {w W W' : World} {gD cD gQ cQ n : Nat} {dl : List Int} {rl : List Bool} {V1 V2 : Value} {bl ol : List (Nat × Nat)} (h : ES w W gD cD gQ cQ n dl rl V1 V2 bl ol) (hb : Below W.heap.size W W') : ES w W' gD cD gQ cQ n dl rl V1 V2 bl ol :=
  ⟨below_next h.hb h.hb.size hb, h.di.below hb, h.rr.below hb, ownsRow_b h.be hb, ownsRow_b h.oe hb, h.ap⟩
theorem ES.swap {w W : World} {gD cD gQ cQ n : Nat} {dl : List Int} {rl : List Bool} {V1 V2 : Value} {bl ol : List (Nat × Nat)} (h : ES w W gD cD gQ cQ n dl rl V1 V2 bl ol) : ES w W gD cD gQ cQ n dl rl V2 V1 ol bl :=
  ⟨h.hb, h.di, h.rr, h.oe, h.be, fun g h1 h2 => h.ap g h2 h1⟩
theorem ES.put {w W W2 : World} {gD cD gQ cQ n : Nat} {dl : List Int} {rl : List Bool} {V1 V2 V : Value} {bl ol : List (Nat × Nat)} {O : Obj} {a y k : Nat} (h : ES w W gD cD gQ cQ n dl rl V1 V2 bl ol) (hk : k = bl.length)
    (hown : W2.ownsRow w.heap.size 42 2 V (k + 1) (bl.flatMap edgeC ++ [.int .i64 (a : Int), .int .i64 (y : Int)])) (hg : (W.alloc O).grownBy W2 V1.ownBlock) (hat : V.ownBlock = V1.ownBlock ∨ V.ownBlock = some (W.alloc O).heap.size) :
    ∃ A3 c3, V = .slice A3 (k + 1) c3 ∧ ES w W2 gD cD gQ cQ n dl rl V V2 (bl ++ [(a, y)]) ol := by
  subst hk
  have ha : Below W.heap.size W (W.alloc O) := (Below.refl _ _).alloc (Nat.le_refl _) _
  have h2 := h.below ha
  have e : bl.flatMap edgeC ++ [.int .i64 (a : Int), .int .i64 (y : Int)] = (bl ++ [(a, y)]).flatMap edgeC := by simp [edgeC]
  rw [e] at hown
  have hl : (bl ++ [(a, y)]).length = bl.length + 1 := by simp
  obtain ⟨A3, c3, hV⟩ : ∃ A3 c3, V = .slice A3 (bl.length + 1) c3 := by
    rcases hown.2 with ⟨_, q⟩ | ⟨g, cap, cur, q, _⟩
    · omega
    · exact ⟨_, _, q⟩
  refine ⟨A3, c3, hV, h2.hb.grown hg h2.hb.size (fun g hgg => (h2.be.lt _ hgg).1), h2.di.grown hg (fun g hg1 q => own_kind h2.be h2.di tE_ne_tI g q hg1), h2.rr.grown hg (fun g hg1 q => own_kind h2.be h2.rr tE_ne_tB g q hg1), by unfold EL; rw [hl]; exact hown, World.ownsRow.kept h2.oe hg ?_, fun g hg1 hg2 => ?_⟩
  · rcases hv : V2.ownBlock with _ | g
    · exact .inl rfl
    · exact .inr (fun q => h2.ap g q.symm hv)
  · rcases hat with q | q
    · exact h2.ap g (q ▸ hg1) hg2
    · rw [q] at hg1
      injection hg1 with hg1
      have := (h2.oe.lt g hg2).2
      omega
def EdPost (bl ol : List (Nat × Nat)) (w : World) (e : Ending) (w' : World) : Prop := ∃ A1 c1 A2 c2, e = .returned (.tuple #[.slice A1 bl.length c1, .slice A2 ol.length c2]) ∧ EL w' w.heap.size (.slice A1 bl.length c1) bl ∧ EL w' w.heap.size (.slice A2 ol.length c2) ol ∧ Below w.heap.size w w'
set_option maxRecDepth 100000 in
set_option maxHeartbeats 6400000 in
theorem edges_c (A0 : Option Addr) (n cap : Nat) (L : Nat → Nat) (m : Nat → Nat → Int) (r : Int) (w : World) (hG : GR w A0 n L m) (hn : n ≤ 2000) (hL : ∀ a, a < n → L a ≤ 1000000) :
    Calls Try.prog 27 #[.slice A0 n cap, .int .i64 r] w (EdPost (edL n L m r true n) (edL n L m r false n) w) := by
  have HDM := dominators_c A0 n cap L m r w hG hn hL
  have HRC : Hid (∀ W, Below w.heap.size w W → Calls Try.prog 10 #[.slice A0 n cap, .int .i64 r] W (ReachPost (rcL n (EG n L m) (fun _ => True) r) W)) := Lib.hid (fun W hb => reach_c A0 n cap L m r W (hG.below hb) hn hL)
  have HG := Lib.hid hG
  have HLL := Lib.hid hL
  clear hG hL
  obtain ⟨dl, hdl⟩ : ∃ dl, domR n (EG n L m) r = dl := ⟨_, rfl⟩
  obtain ⟨rl, hrl⟩ : ∃ rl, rcL n (EG n L m) (fun _ => True) r = rl := ⟨_, rfl⟩
  have hdlen : dl.length = n := by rw [← hdl]; exact domR_len
  have hrlen : rl.length = n := by rw [← hrl]; exact rcL_len
  have HD := Lib.hid hdl
  have HR := Lib.hid hrl
  rw [hdl] at HDM
  rw [hrl] at HRC
  clear hdl hrl
  obtain ⟨i0, hi0, hzz⟩ := Option.map_eq_some_iff.1 infoE
  simp only [Prod.mk.injEq] at hzz
  have HIN := Lib.hid (And.intro hi0 hzz)
  clear hi0 hzz
  go_enter Try.func27, Try.ntmps27
  go_upto_region 2 with (go_at_call 9; refine HDM.mono ?_; rintro e w1 ⟨gD, cD, rfl, h1, h2⟩; have HDS := Lib.hid (And.intro h1 h2); clear h1 h2 HDM)
  have HRC1 := HRC.out w1 HDS.out.2
  go_upto_region 3 with (go_at_call 10; refine HRC1.mono ?_; rintro e w2 ⟨gQ, cQ, rfl, h1, h2⟩; have HRS := Lib.hid (And.intro h1 h2); clear h1 h2 HRC1)
  have HE0 : Hid (ES w w2 gD cD gQ cQ n dl rl (.slice none 0 0) (.slice none 0 0) (edL n L m r true 0) (edL n L m r false 0)) := Lib.hid (by
    have hD1 := HDS.out.1
    have hR1 := HRS.out.1
    rw [hdlen] at hD1
    rw [hrlen] at hR1
    exact ⟨below_next HDS.out.2 HDS.out.2.size HRS.out.2, hD1.below HRS.out.2, hR1.wider HDS.out.2.size, ⟨rfl, .inl ⟨rfl, rfl⟩⟩, ⟨rfl, .inl ⟨rfl, rfl⟩⟩, fun g e => by cases e⟩)
  clear HDS HRS HRC
  go_wp2_with fail
  go_loopw [4, 5, 18] (fun v1 v2 v wr => ∃ (i : Nat) (A1 A2 : Option Addr) (c1 c2 : Nat), i ≤ n ∧ v = .int .i64 i ∧ v1 = .slice A1 (edL n L m r true i).length c1 ∧ v2 = .slice A2 (edL n L m r false i).length c2 ∧ Hid (ES w wr gD cD gQ cQ n dl rl (.slice A1 (edL n L m r true i).length c1) (.slice A2 (edL n L m r false i).length c2) (edL n L m r true i) (edL n L m r false i))) (fun _ _ v _ => n - (intOf v).toNat)
  case atStart => exact ⟨0, none, none, 0, 0, by omega, rfl, rfl, rfl, HE0⟩
  case round =>
    clear HE0
    obtain ⟨i, A1, A2, c1, c2, hi, rfl, rfl, rfl, HI⟩ := hrel
    obtain ⟨wo, rfl⟩ : ∃ wo : World, wo = wr := ⟨_, rfl⟩
    by_cases hlt : i < n
    · have hltd : decide (i < n) = true := decide_eq_true hlt
      have ei : IntKind.i64.wrap ((i : Int) + 1) = (i : Int) + 1 := IntWalk.i64_in _ (by omega)
      obtain ⟨X, hX⟩ : ∃ X, rl[i]? = some X := ⟨_, List.getElem?_eq_getElem (by omega)⟩
      have cX := HI.out.rr.at_ hX
      have HX := Lib.hid hX
      clear hX
      cases X with
      | false =>
        go_wp2_with fail
        have hx2 := HX.out
        rw [← HR.out] at hx2
        have hes := HI.out
        rw [← edL_no (b := true) hx2, ← edL_no (b := false) hx2] at hes
        exact ⟨⟨i + 1, A1, A2, c1, c2, by omega, by go_num, by rw [edL_no hx2], by rw [edL_no hx2], Lib.hid hes⟩, by simp [intOf]; omega⟩
      | true =>
        have HTO := to_c A0 n cap L m i wo (HG.out.below HI.out.hb) hlt (HLL.out i hlt)
        go_upto_region 7 with (go_at_call 24; refine HTO.mono ?_; rintro e w3 ⟨Bk, ck, rfl, hkid, hbt⟩; have HKID := Lib.hid (And.intro hkid hbt); clear hkid hbt HTO)
        obtain ⟨K2, hK2⟩ : ∃ K2, (toL n L m i).length = K2 := ⟨_, rfl⟩
        rw [hK2] at HKID
        simp only [hK2]
        have HKL : Hid ((toN n L m i).length = K2) := Lib.hid (by rw [toN_len]; exact hK2)
        have hK2b : K2 ≤ 1000000 := by rw [← hK2]; exact Nat.le_trans toL_len (HLL.out i hlt)
        clear hK2
        obtain ⟨b0, hb0⟩ : ∃ z, edL n L m r true i = z := ⟨_, rfl⟩
        obtain ⟨o0, ho0⟩ : ∃ z, edL n L m r false i = z := ⟨_, rfl⟩
        have hbl : b0.length ≤ bnd i 0 := by rw [← hb0]; exact edL_len HLL.out i hi
        have hol : o0.length ≤ bnd i 0 := by rw [← ho0]; exact edL_len HLL.out i hi
        have HBO := Lib.hid (And.intro hb0 ho0)
        rw [hb0, ho0] at HI
        simp only [hb0, ho0]
        have hbl2 : b0.length ≤ 3000000000 := by unfold bnd at hbl; omega
        have hol2 : o0.length ≤ 3000000000 := by unfold bnd at hol; omega
        have HJ0 : Hid (ES w w3 gD cD gQ cQ n dl rl (.slice A1 b0.length c1) (.slice A2 o0.length c2) (b0 ++ edP n L m r true i 0) (o0 ++ edP n L m r false i 0) ∧ IL w3 w.heap.size (.slice Bk K2 ck) (nI (toN n L m i))) := Lib.hid ⟨by have h := HI.out.below HKID.out.2; simpa [edP] using h, by rw [toN_nI]; exact HKID.out.1.wider HI.out.hb.size⟩
        clear hb0 ho0 hbl hol cX HKID HI
        have e00 : b0.length = (b0 ++ edP n L m r true i 0).length := by simp [edP]
        have e01 : o0.length = (o0 ++ edP n L m r false i 0).length := by simp [edP]
        have HE00 := Lib.hid (And.intro e00 e01)
        clear e00 e01
        go_loopw [4, 5, 29] (fun v1 v2 v wr => ∃ (j : Nat) (A1 A2 : Option Addr) (c1 c2 k1 k2 : Nat), j ≤ K2 ∧ v = .int .i64 j ∧ v1 = .slice A1 k1 c1 ∧ v2 = .slice A2 k2 c2 ∧ Hid (k1 = (b0 ++ edP n L m r true i j).length ∧ k2 = (o0 ++ edP n L m r false i j).length) ∧ Hid (ES w wr gD cD gQ cQ n dl rl (.slice A1 k1 c1) (.slice A2 k2 c2) (b0 ++ edP n L m r true i j) (o0 ++ edP n L m r false i j) ∧ IL wr w.heap.size (.slice Bk K2 ck) (nI (toN n L m i)))) (fun _ _ v _ => K2 - (intOf v).toNat)
        case atStart => exact ⟨0, A1, A2, c1, c2, _, _, by omega, rfl, rfl, rfl, HE00, HJ0⟩
        case round =>
          clear HJ0 HE00
          obtain ⟨j, A1, A2, c1, c2, k1, k2, hj, rfl, rfl, rfl, HK12, HJ⟩ := hrel
          obtain ⟨wj, rfl⟩ : ∃ wj : World, wj = wr := ⟨_, rfl⟩
          by_cases hlt3 : j < K2
          · have hltd3 : decide (j < K2) = true := decide_eq_true hlt3
            have ej : IntKind.i64.wrap ((j : Int) + 1) = (j : Int) + 1 := IntWalk.i64_in _ (by omega)
            obtain ⟨gk, rfl, _, _⟩ := HJ.out.2.some_ (by omega)
            have hlen := HKL.out
            obtain ⟨y, hy1⟩ : ∃ y, (toN n L m i)[j]? = some y := ⟨_, List.getElem?_eq_getElem (by omega)⟩
            have cy := HJ.out.2.at_ (nI_at hy1)
            have hst1 := edP_step (r := r) (b := true) hy1
            have hst2 := edP_step (r := r) (b := false) hy1
            have hpl1 := edP_len (n := n) (L := L) (m := m) (r := r) (b := true) (a := i) (j := j)
            have hpl2 := edP_len (n := n) (L := L) (m := m) (r := r) (b := false) (a := i) (j := j)
            have hk1 : k1 ≤ 4000000000 := by have := HK12.out.1; rw [List.length_append] at this; omega
            have hk2 : k2 ≤ 4000000000 := by have := HK12.out.2; rw [List.length_append] at this; omega
            rw [HD.out] at hst1 hst2
            obtain ⟨a, hai⟩ : ∃ a, i = a := ⟨_, rfl⟩
            have HDO := dominates_c (some ⟨gD, 0, none⟩) n cD dl (y : Int) (i : Int) wj (HJ.out.1.di.rowL (by omega))
            obtain ⟨Bd, hBd⟩ : ∃ Bd, Sh.domB dl (y : Int) (n + 1) (i : Int) = Bd := ⟨_, rfl⟩
            rw [hBd] at HDO hst1 hst2
            have HST := Lib.hid (And.intro hst1 hst2)
            have HHB := Lib.hid hBd
            clear hlen hy1 hst1 hst2 hpl1 hpl2 hBd hai a
            cases Bd with
            | true =>
              go_wp2_with (first | (go_at_call 11; refine HDO.mono ?_; rintro e w' ⟨rfl, rfl⟩; clear HDO) | (at_builtin; have HOT : Hid ((wj.alloc (.cells #[.int .i64 (i : Int), .int .i64 (y : Int)] 42)).ownsRow w.heap.size 42 2 (.slice A1 k1 c1) k1 ((b0 ++ edP n L m r true i j).flatMap edgeC)) := Lib.hid (by have h := ownsRow_b HJ.out.1.be ((Below.refl _ _).alloc (Nat.le_refl _) (.cells #[.int .i64 (i : Int), .int .i64 (y : Int)] 42)); unfold EL at h; rw [← HK12.out.1] at h; exact h); refine wpList_append_own_at _ (by rfl) (.tmp 37) (.tmp 41) 38 (by rfl) w.heap.size 42 i0 (.agg #[.int .i64 0, .int .i64 0]) 2 16 Try.underlying38 HIN.out.1 HIN.out.2.1 HIN.out.2.2.1 HIN.out.2.2.2 rfl (by omega) (.slice A1 k1 c1) k1 ((b0 ++ edP n L m r true i j).flatMap edgeC) (by rfl) HOT.out ⟨wj.heap.size, 0, none⟩ 1 1 [.int .i64 (i : Int), .int .i64 (y : Int)] (by rfl) rfl (tok_bd wj #[.int .i64 (i : Int), .int .i64 (y : Int)] 42) (by intro u hu; simp only [List.mem_cons, List.not_mem_nil, or_false] at hu; rcases hu with rfl | rfl <;> rfl) (by unfold maxLen; omega) (by omega) (by have := HJ.out.1.hb.size; simp; omega) ?_; intro v' w5 hown hg hnil hat; clear hnil; have hput := HJ.out.1.put HK12.out.1 hown hg hat; obtain ⟨A3, c3, rfl, hj2⟩ := hput; have HP2 := Lib.hid hj2; have HGR := Lib.hid hg; clear hj2 hown hg hat HOT))
              have hes : ES w w5 gD cD gQ cQ n dl rl (.slice A3 (k1 + 1) c3) (.slice A2 k2 c2) (b0 ++ edP n L m r true i (j + 1)) (o0 ++ edP n L m r false i (j + 1)) := by
                have h := HP2.out
                rw [HST.out.1, HST.out.2]
                simpa [List.append_assoc] using h
              have hks : k1 + 1 = (b0 ++ edP n L m r true i (j + 1)).length ∧ k2 = (o0 ++ edP n L m r false i (j + 1)).length := by
                have h1 := HK12.out.1
                have h2 := HK12.out.2
                rw [HST.out.1, HST.out.2]
                simp only [List.length_append] at h1 h2
                constructor <;> simp <;> omega
              have hkd : IL w5 w.heap.size (.slice (some ⟨gk, 0, none⟩) K2 ck) (nI (toN n L m i)) := (HJ.out.2.below ((Below.refl _ _).alloc (Nat.le_refl _) (.cells #[.int .i64 (i : Int), .int .i64 (y : Int)] 42))).grown HGR.out (fun g hg1 q => own_kind (ownsRow_b HJ.out.1.be ((Below.refl _ _).alloc (Nat.le_refl _) (.cells #[.int .i64 (i : Int), .int .i64 (y : Int)] 42))) (HJ.out.2.below ((Below.refl _ _).alloc (Nat.le_refl _) (.cells #[.int .i64 (i : Int), .int .i64 (y : Int)] 42))) tE_ne_tI g q hg1)
              exact ⟨⟨j + 1, A3, A2, c3, c2, k1 + 1, k2, by omega, by go_num, rfl, rfl, Lib.hid hks, Lib.hid ⟨hes, hkd⟩⟩, by simp [intOf]; omega⟩
            | false =>
              go_wp2_with (first | (go_at_call 11; refine HDO.mono ?_; rintro e w' ⟨rfl, rfl⟩; clear HDO) | (at_builtin; have HOT : Hid ((wj.alloc (.cells #[.int .i64 (i : Int), .int .i64 (y : Int)] 42)).ownsRow w.heap.size 42 2 (.slice A2 k2 c2) k2 ((o0 ++ edP n L m r false i j).flatMap edgeC)) := Lib.hid (by have h := ownsRow_b HJ.out.1.oe ((Below.refl _ _).alloc (Nat.le_refl _) (.cells #[.int .i64 (i : Int), .int .i64 (y : Int)] 42)); unfold EL at h; rw [← HK12.out.2] at h; exact h); refine wpList_append_own_at _ (by rfl) (.tmp 43) (.tmp 47) 38 (by rfl) w.heap.size 42 i0 (.agg #[.int .i64 0, .int .i64 0]) 2 16 Try.underlying38 HIN.out.1 HIN.out.2.1 HIN.out.2.2.1 HIN.out.2.2.2 rfl (by omega) (.slice A2 k2 c2) k2 ((o0 ++ edP n L m r false i j).flatMap edgeC) (by rfl) HOT.out ⟨wj.heap.size, 0, none⟩ 1 1 [.int .i64 (i : Int), .int .i64 (y : Int)] (by rfl) rfl (tok_bd wj #[.int .i64 (i : Int), .int .i64 (y : Int)] 42) (by intro u hu; simp only [List.mem_cons, List.not_mem_nil, or_false] at hu; rcases hu with rfl | rfl <;> rfl) (by unfold maxLen; omega) (by omega) (by have := HJ.out.1.hb.size; simp; omega) ?_; intro v' w5 hown hg hnil hat; clear hnil; have hput := HJ.out.1.swap.put HK12.out.2 hown hg hat; obtain ⟨A3, c3, rfl, hj2⟩ := hput; have HP2 := Lib.hid hj2; have HGR := Lib.hid hg; clear hj2 hown hg hat HOT))
              have hes : ES w w5 gD cD gQ cQ n dl rl (.slice A1 k1 c1) (.slice A3 (k2 + 1) c3) (b0 ++ edP n L m r true i (j + 1)) (o0 ++ edP n L m r false i (j + 1)) := by
                have h := HP2.out.swap
                rw [HST.out.1, HST.out.2]
                simpa [List.append_assoc] using h
              have hks : k1 = (b0 ++ edP n L m r true i (j + 1)).length ∧ k2 + 1 = (o0 ++ edP n L m r false i (j + 1)).length := by
                have h1 := HK12.out.1
                have h2 := HK12.out.2
                rw [HST.out.1, HST.out.2]
                simp only [List.length_append] at h1 h2
                constructor <;> simp <;> omega
              have hkd : IL w5 w.heap.size (.slice (some ⟨gk, 0, none⟩) K2 ck) (nI (toN n L m i)) := (HJ.out.2.below ((Below.refl _ _).alloc (Nat.le_refl _) (.cells #[.int .i64 (i : Int), .int .i64 (y : Int)] 42))).grown HGR.out (fun g hg1 q => own_kind (ownsRow_b HJ.out.1.oe ((Below.refl _ _).alloc (Nat.le_refl _) (.cells #[.int .i64 (i : Int), .int .i64 (y : Int)] 42))) (HJ.out.2.below ((Below.refl _ _).alloc (Nat.le_refl _) (.cells #[.int .i64 (i : Int), .int .i64 (y : Int)] 42))) tE_ne_tI g q hg1)
              exact ⟨⟨j + 1, A1, A3, c1, c3, k1, k2 + 1, by omega, by go_num, rfl, rfl, Lib.hid hks, Lib.hid ⟨hes, hkd⟩⟩, by simp [intOf]; omega⟩
          · have hltd3 : decide (j < K2) = false := decide_eq_false hlt3
            obtain rfl : K2 = j := by omega
            go_wp2_with fail
            have hx2 := HX.out
            rw [← HR.out] at hx2
            have e1 : edL n L m r true (i + 1) = b0 ++ edP n L m r true i K2 := by rw [edL_yes hx2, HBO.out.1, HKL.out]
            have e2 : edL n L m r false (i + 1) = o0 ++ edP n L m r false i K2 := by rw [edL_yes hx2, HBO.out.2, HKL.out]
            have hes := HJ.out.1
            rw [← e1, ← e2] at hes
            have hk1 := HK12.out.1
            have hk2 := HK12.out.2
            rw [← e1] at hk1
            rw [← e2] at hk2
            subst hk1 hk2
            exact ⟨⟨i + 1, A1, A2, c1, c2, by omega, by go_num, rfl, rfl, Lib.hid hes⟩, by simp [intOf]; omega⟩
    · have hltd : decide (i < n) = false := decide_eq_false hlt
      obtain rfl : n = i := by omega
      go_wp2_with fail
      go_ret2
      exact ⟨A1, c1, A2, c2, rfl, HI.out.be, HI.out.oe, HI.out.hb⟩
end Go.Proofs.Ytacdeollnhkckaa.C
