/- ShapeDominates: walk (printed by gen_shdm.py). -/
import Derived.Test.YtacdeollnhkckaaShA
import Derived.Test.YtacdeollnhkckaaShR3
namespace Go.Proofs.Ytacdeollnhkckaa.C
open Go.Shelf Go.RowKit Go.Lib Go.Sort
set_option linter.unusedSimpArgs false
set_option linter.unusedVariables false
theorem EG.bd {n : Nat} {L : Nat → Nat} {m : Nat → Nat → Int} {r : Nat} (hr : r < n) : ∀ x, Sh.Rc (EG n L m) r x → x < n := by
  intro x hx
  cases hx with
  | refl => exact hr
  | step _ e _ => exact e.2.1
/-- Without the ways out of the last one ahead of it a node is not reached. -/
theorem cut_no {E : Nat → Nat → Prop} {r d b : Nat} (hd : Sh.Dom E r d b) (hne : d ≠ b) : ¬ Sh.Rc (fun x y => E x y ∧ x ≠ d) r b := by
  intro h
  have key : ∀ x, Sh.Rc (fun x y => E x y ∧ x ≠ d) r x → x = d ∨ Sh.RW E (· ≠ d) r x := by
    intro x hx
    induction hx with
    | refl _ =>
      by_cases q : r = d
      · exact .inl q
      · exact .inr (.refl q)
    | step _ e _ ih =>
      rename_i y c _ _
      rcases ih with q | q
      · exact absurd q e.2
      · by_cases p : c = d
        · exact .inl p
        · exact .inr (.step q e.1 p)
  rcases key b h with q | q
  · exact hne q.symm
  · exact hd q
theorem domR_at {n : Nat} {E : Nat → Nat → Prop} {r b : Nat} (hr : r < n) (hb : b < n) : (domR n E (r : Int))[b]? = some (Sh.domF E r b) := by
  unfold domR
  rw [if_pos ⟨by omega, by omega⟩]
  unfold Sh.domL
  rw [List.getElem?_map, List.getElem?_range hb]
  rfl
theorem domR_is {n : Nat} {E : Nat → Nat → Prop} {r : Nat} (hr : r < n) : domR n E (r : Int) = Sh.domL E r n := by
  unfold domR
  rw [if_pos ⟨by omega, by omega⟩]
  rfl
/-- What the row of last ones says of a node. -/
theorem dom_said {n : Nat} {E : Nat → Nat → Prop} {r b : Nat} (hr : r < n) (hb : b < n) (hn : ∀ x, Sh.Rc E r x → x < n) :
    (domR n E (r : Int))[r]? = some (-1) ∧ (¬ Sh.Rc E r b → (domR n E (r : Int))[b]? = some (-1)) ∧ (Sh.Rc E r b → Sh.domB (domR n E (r : Int)) (r : Int) (n + 1) (b : Int) = true) ∧
    (Sh.Rc E r b → b ≠ r → ∃ d : Nat, d < n ∧ d ≠ b ∧ (domR n E (r : Int))[b]? = some (d : Int) ∧ ¬ Sh.Rc (fun x y => E x y ∧ x ≠ d) r b) := by
  refine ⟨?_, fun h => ?_, fun h => ?_, fun h hne => ?_⟩
  · rw [domR_at hr hr, Sh.domF_no (fun g => g.2 rfl)]
  · rw [domR_at hr hb, Sh.domF_no (fun g => h g.1)]
  · rw [domR_is hr, Sh.domB_dom hn h]
    exact Sh.dc_iff.2 (Sh.Dom.root b)
  · obtain ⟨d, hd⟩ := Sh.IDom.ex hn h hne
    exact ⟨d, hn d (hd.2.1.rc h), hd.1, by rw [domR_at hr hb, Sh.domF_of h hd], cut_no hd.2.1 hd.1⟩
theorem rcL_yes {n : Nat} {E : Nat → Nat → Prop} {r b : Nat} (hr : r < n) (hb : b < n) : (rcL n E (fun _ => True) (r : Int))[b]? = some (Sh.dc (Sh.Rc E r b)) := by
  rw [rcL_at hb]
  congr 1
  refine Sh.dc_eq ⟨fun g => ?_, fun g => ⟨by omega, by omega, ?_⟩⟩
  · have := g.2.2; rwa [Int.toNat_natCast] at this
  · rwa [Int.toNat_natCast]
/-- The changed graph. -/
def cutC (R : Nat → Option Addr) (L C : Nat → Nat) (d a : Nat) : Value := if a = d then .slice none 0 0 else .slice (R a) (L a) (C a)
def cutL (L : Nat → Nat) (d a : Nat) : Nat := if a = d then 0 else L a
theorem cut_EG {n : Nat} {L : Nat → Nat} {m : Nat → Nat → Int} {d : Nat} : EG n (cutL L d) m = fun x y => EG n L m x y ∧ x ≠ d := by
  funext x y
  apply propext
  unfold EG cutL
  constructor
  · rintro ⟨h1, h2, j, h3, h4⟩
    by_cases q : x = d
    · rw [if_pos q] at h3; omega
    · rw [if_neg q] at h3; exact ⟨⟨h1, h2, j, h3, h4⟩, q⟩
  · rintro ⟨⟨h1, h2, j, h3, h4⟩, q⟩
    exact ⟨h1, h2, j, by rw [if_neg q]; exact h3, h4⟩
/-- What the law holds while it runs. -/
structure DmS (w W : World) (gD cD gQ cQ n : Nat) (dl : List Int) (rl : List Bool) : Prop where
  hb : Below w.heap.size w W
  di : IL W w.heap.size (.slice (some ⟨gD, 0, none⟩) n cD) dl
  rr : BL' W w.heap.size (.slice (some ⟨gQ, 0, none⟩) n cQ) rl
theorem DmS.below {w W W' : World} {gD cD gQ cQ n : Nat} {dl : List Int} {rl : List Bool} (h : DmS w W gD cD gQ cQ n dl rl) (hb : Below W.heap.size W W') : DmS w W' gD cD gQ cQ n dl rl :=
  ⟨below_next h.hb h.hb.size hb, h.di.below hb, h.rr.below hb⟩
structure DmH (w W : World) (gD cD gQ cQ n : Nat) (dl : List Int) (rl : List Bool) (V : Value) (k : Nat) (l : List Value) : Prop extends DmS w W gD cD gQ cQ n dl rl where
  h : W.ownsRow w.heap.size 25 1 V k l
theorem tR_ne_tI' : (25 : TypeId) ≠ 3 := by decide
theorem tR_ne_tB' : (25 : TypeId) ≠ 4 := by decide
theorem DmH.put {w W W2 : World} {gD cD gQ cQ n : Nat} {dl : List Int} {rl : List Bool} {V V2 : Value} {k k2 : Nat} {l l2 : List Value} {O : Obj} (h : DmH w W gD cD gQ cQ n dl rl V k l) (hown : W2.ownsRow w.heap.size 25 1 V2 k2 l2) (hg : (W.alloc O).grownBy W2 V.ownBlock) : DmH w W2 gD cD gQ cQ n dl rl V2 k2 l2 := by
  have ha : Below W.heap.size W (W.alloc O) := (Below.refl _ _).alloc (Nat.le_refl _) _
  have h2 := h.toDmS.below ha
  have h3 := ownsRow_b h.h ha
  exact ⟨⟨h2.hb.grown hg h2.hb.size (fun g hgg => (h3.lt _ hgg).1), h2.di.grown hg (fun g hg1 q => own_kind h3 h2.di tR_ne_tI' g q hg1), h2.rr.grown hg (fun g hg1 q => own_kind h3 h2.rr tR_ne_tB' g q hg1)⟩, hown⟩
theorem DmH.gr {w W : World} {gD cD gQ cQ n c : Nat} {dl : List Int} {rl : List Bool} {A : Option Addr} {L : Nat → Nat} {m : Nat → Nat → Int} {R : Nat → Option Addr} {C : Nat → Nat} {d : Nat} (h : DmH w W gD cD gQ cQ n dl rl (.slice A n c) n ((List.range n).map (cutC R L C d)))
    (h0 : n ≤ 9223372036854775807) (h1 : ∀ i, i < n → L i ≤ C i ∧ C i ≤ 9223372036854775807) (h2 : ∀ i, i < n → R i = none → C i = 0) (h3 : ∀ i j, i < n → j < L i → ∃ r, R i = some r ∧ w.cell? (r.add j) = some (.int .i64 (m i j))) : GR W A n (cutL L d) m := by
  refine ⟨h0, fun hp => ?_⟩
  rcases h.h.2 with ⟨q, q2⟩ | ⟨g, cap, cur, q, _⟩
  · omega
  · injection q with e1 e2 e3
    subst e1
    refine ⟨_, fun a => if a = d then none else R a, fun a => if a = d then 0 else C a, rfl, fun i hi => ⟨?_, ?_, ?_⟩, ⟨fun i hi hr => ?_, fun i j hi hj => ?_⟩⟩
    · rw [add_plain, Nat.zero_add, World.ownsRow.cellAt h.h i (by omega), List.getElem?_map, List.getElem?_range hi]
      show some (cutC R L C d i) = some (.slice (if i = d then none else R i) (cutL L d i) (if i = d then 0 else C i))
      unfold cutC cutL
      by_cases q : i = d
      · rw [if_pos q, if_pos q, if_pos q, if_pos q]
      · rw [if_neg q, if_neg q, if_neg q, if_neg q]
    · unfold cutL
      show (if i = d then 0 else L i) ≤ if i = d then 0 else C i
      split
      · exact Nat.le_refl _
      · exact (h1 i hi).1
    · show (if i = d then 0 else C i) ≤ _
      split
      · omega
      · exact (h1 i hi).2
    · by_cases q : i = d
      · show (if i = d then 0 else C i) = 0
        rw [if_pos q]
      · have hr2 : (if i = d then none else R i) = none := hr
        rw [if_neg q] at hr2
        show (if i = d then 0 else C i) = 0
        rw [if_neg q]
        exact h2 i hi hr2
    · by_cases q : i = d
      · have hj2 : j < cutL L d i := hj
        unfold cutL at hj2
        rw [if_pos q] at hj2; omega
      · have hj2 : j < cutL L d i := hj
        unfold cutL at hj2
        rw [if_neg q] at hj2
        obtain ⟨r, e, hc⟩ := h3 i j hi hj2
        exact ⟨r, by show (if i = d then none else R i) = some r; rw [if_neg q]; exact e, cell_later h.hb hc⟩
set_option maxRecDepth 100000 in
set_option maxHeartbeats 6400000 in
theorem law_dominates_c (A0 : Option Addr) (n cap : Nat) (L : Nat → Nat) (m : Nat → Nat → Int) (r : Int) (w : World) (hG : GR w A0 n L m) :
    Calls Try.prog 3 #[.slice A0 n cap, .int .i64 r] w (AwPost w) := by
  have HGT := great_c A0 n cap L m w hG
  obtain ⟨G, hg⟩ : ∃ G, greatB n L = G := ⟨_, rfl⟩
  unfold GreatPost at HGT
  rw [hg] at HGT
  have HAW : Hid (∀ W, Calls Try.prog 8 #[] W (AwPost W)) := Lib.hid awake_c
  have hnm := hG.1
  cases G with
  | true =>
    clear hg hG
    go_enter Try.func3, Try.ntmps3
    go_wp2_with (first | (go_at_call 7; refine HGT.mono ?_; rintro e w' ⟨rfl, rfl⟩) | (go_at_call 8; refine (HAW.out w).mono ?_; rintro e w' ⟨rfl, hb⟩))
    go_ret
    exact ⟨rfl, hb⟩
  | false =>
    obtain ⟨hn, hL⟩ := greatB_no hg
    clear hg
    by_cases hr0 : 0 ≤ r ∧ r < n
    · obtain ⟨r0, rfl⟩ : ∃ r0 : Nat, r = (r0 : Int) := ⟨r.toNat, by omega⟩
      have hr : r0 < n := by omega
      clear hr0
      obtain ⟨ad, R, C, rfl, hw1, hw2, hw3⟩ := hG.2 (by omega)
      have HRW := Lib.hid (And.intro hw1 (And.intro hw2 hw3))
      clear hw1 hw2 hw3
      obtain ⟨i0, hi0, hzz⟩ := Option.map_eq_some_iff.1 infoR
      simp only [Prod.mk.injEq] at hzz
      have HIN := Lib.hid (And.intro hi0 hzz)
      clear hi0 hzz
      have HDM := dominators_c (some ad) n cap L m (r0 : Int) w hG (by omega) (fun a ha => by have := hL a ha; omega)
      have HRC : Hid (∀ W, Below w.heap.size w W → Calls Try.prog 10 #[.slice (some ad) n cap, .int .i64 (r0 : Int)] W (ReachPost (rcL n (EG n L m) (fun _ => True) (r0 : Int)) W)) := Lib.hid (fun W hb => reach_c (some ad) n cap L m (r0 : Int) W (hG.below hb) (by omega) (fun a ha => by have := hL a ha; omega))
      obtain ⟨dl, hdl⟩ : ∃ dl, domR n (EG n L m) (r0 : Int) = dl := ⟨_, rfl⟩
      obtain ⟨rl, hrl⟩ : ∃ rl, rcL n (EG n L m) (fun _ => True) (r0 : Int) = rl := ⟨_, rfl⟩
      have hdlen : dl.length = n := by rw [← hdl]; exact domR_len
      have hrlen : rl.length = n := by rw [← hrl]; exact rcL_len
      have HSAY : Hid (∀ b, b < n → dl[r0]? = some (-1) ∧ (¬ Sh.Rc (EG n L m) r0 b → dl[b]? = some (-1)) ∧ (Sh.Rc (EG n L m) r0 b → Sh.domB dl (r0 : Int) (n + 1) (b : Int) = true) ∧
          (Sh.Rc (EG n L m) r0 b → b ≠ r0 → ∃ d : Nat, d < n ∧ d ≠ b ∧ dl[b]? = some (d : Int) ∧ ¬ Sh.Rc (fun x y => EG n L m x y ∧ x ≠ d) r0 b)) := Lib.hid (fun b hb => by rw [← hdl]; exact dom_said hr hb (EG.bd hr))
      have HRL : Hid (∀ b, b < n → rl[b]? = some (Sh.dc (Sh.Rc (EG n L m) r0 b))) := Lib.hid (fun b hb => by rw [← hrl]; exact rcL_yes hr hb)
      rw [hdl] at HDM
      rw [hrl] at HRC
      clear hdl hrl
      have HG := Lib.hid hG
      have HLL := Lib.hid hL
      clear hG hL
      have hrd1 : decide ((r0 : Int) < 0) = false := decide_eq_false (by omega)
      have hrd2 : decide ((n : Int) ≤ (r0 : Int)) = false := decide_eq_false (by omega)
      have hrd3 : decide (n ≤ r0) = false := decide_eq_false (by omega)
      have hrd4 : decide (r0 < n) = true := decide_eq_true hr
      go_enter Try.func3, Try.ntmps3
      go_upto_region 3 with (go_at_call 7; refine HGT.mono ?_; rintro e w' ⟨rfl, rfl⟩)
      go_upto_region 4 with (first | (go_at_call 9; refine HDM.mono ?_; rintro e w1 ⟨gD, cD, rfl, h1, h2⟩; have HDS := Lib.hid (And.intro h1 h2); have HRC1 := HRC.out w1 h2; clear h1 h2 HDM) | (go_at_call 10; refine HRC1.mono ?_; rintro e w2 ⟨gQ, cQ, rfl, h1, h2⟩; have HRS := Lib.hid (And.intro h1 h2); clear h1 h2 HRC1))
      have HS0 : Hid (DmS w w2 gD cD gQ cQ n dl rl) := Lib.hid (by
        have hD1 := HDS.out.1
        have hR1 := HRS.out.1
        rw [hdlen] at hD1
        rw [hrlen] at hR1
        exact ⟨below_next HDS.out.2 HDS.out.2.size HRS.out.2, hD1.below HRS.out.2, hR1.wider HDS.out.2.size⟩)
      try simp only [hdlen, hrlen]
      clear HDS HRS HRC hdlen hrlen HGT
      have cr := HS0.out.di.at_ (HSAY.out r0 hr).1
      go_wp2_with fail
      clear cr
      go_loopw [7] (fun v wr => ∃ b : Nat, b ≤ n ∧ v = .int .i64 b ∧ Hid (DmS w wr gD cD gQ cQ n dl rl)) (fun v _ => n - (intOf v).toNat)
      case atStart => exact ⟨0, by omega, rfl, HS0⟩
      case round =>
        clear HS0
        obtain ⟨b, hb, rfl, HI⟩ := hrel
        obtain ⟨wo, rfl⟩ : ∃ wo : World, wo = wr := ⟨_, rfl⟩
        by_cases hlt : b < n
        · have hltd : decide (b < n) = true := decide_eq_true hlt
          have eb : IntKind.i64.wrap ((b : Int) + 1) = (b : Int) + 1 := IntWalk.i64_in _ (by omega)
          obtain ⟨X, hX⟩ : ∃ X, Sh.dc (Sh.Rc (EG n L m) r0 b) = X := ⟨_, rfl⟩
          have hrb := HRL.out b hlt
          rw [hX] at hrb
          have cX := HI.out.rr.at_ hrb
          clear hrb
          have HDO : Hid (∀ k, Calls Try.prog 11 #[.slice (some ⟨gD, 0, none⟩) n cD, .int .i64 (r0 : Int), .int .i64 (b : Int)] (wo.drewN k) fun e w' => e = .returned (.bool (Sh.domB dl (r0 : Int) (n + 1) (b : Int))) ∧ w' = wo.drewN k) := Lib.hid (fun k => (dominates_c (some ⟨gD, 0, none⟩) n cD dl (r0 : Int) (b : Int) (wo.drewN k) ((HI.out.di.rowL (by omega)).below (below_drewN (Below.refl _ _) k))).mono (fun e w' h => ⟨h.1, h.2.symm⟩))
          cases X with
          | false =>
            have hno := Sh.dc_no.1 hX
            have kD := HI.out.di.at_ ((HSAY.out b hlt).2.1 hno)
            clear hX hno
            go_wp2_with fail
            go_quiet (fail)
            go_wp2_with fail
            exact ⟨⟨b + 1, by omega, by go_num, Lib.hid (HI.out.below (below_drewN (Below.refl _ _) _))⟩, by simp [intOf]; omega⟩
          | true =>
            have hyes := Sh.dc_iff.1 hX
            have HDO2 := HDO.out
            rw [(HSAY.out b hlt).2.2.1 hyes] at HDO2
            clear hX
            by_cases hbr : b = r0
            · subst hbr
              have kD := HI.out.di.at_ (HSAY.out b hlt).1
              have HDO3 := Lib.hid HDO2
              clear HDO2 hyes HDO
              go_wp2_with fail
              go_quiet ((go_at_call 11; refine Calls.quiet_of_same (HDO3.out _)))
              go_wp2_with fail
              exact ⟨⟨b + 1, by omega, by go_num, Lib.hid (HI.out.below (below_drewN (Below.refl _ _) _))⟩, by simp [intOf]; omega⟩
            · obtain ⟨d, hdn, hdb, hdd, hcut⟩ := (HSAY.out b hlt).2.2.2 hyes hbr
              have kD := HI.out.di.at_ hdd
              have HDO3 := Lib.hid HDO2
              have HCUT := Lib.hid (And.intro hdd hcut)
              clear HDO2 hyes HDO hdd hcut
              have hbrd : decide (b = r0) = false := decide_eq_false hbr
              have hbri : ¬ (b : Int) = (r0 : Int) := by omega
              have hbre : decide ((b : Int) = (r0 : Int)) = false := decide_eq_false hbri
              have hbrf : ((b : Int) == (r0 : Int)) = false := beq_eq_false_iff_ne.2 hbri
              have hbrg : ((b : Int) != (r0 : Int)) = true := bne_iff_ne.2 hbri
              have hbrh : (b == r0) = false := beq_eq_false_iff_ne.2 hbr
              have hbrj : (b != r0) = true := bne_iff_ne.2 hbr
              have hd0 : decide ((0 : Int) ≤ (d : Int)) = true := decide_eq_true (by omega)
              have hd1 : decide ((d : Int) < 0) = false := decide_eq_false (by omega)
              go_wp2_with fail
              go_quiet ((go_at_call 11; refine Calls.quiet_of_same (HDO3.out _)))
              go_wp2_with fail
              refine at_world (fun W => Hid (DmS w W gD cD gQ cQ n dl rl)) (Lib.hid (HI.out.below (below_drewN (Below.refl _ _) _))) ?_
              intro W2 HI2
              clear HI cX HDO3 kD
              go_wp2_with fail
              have HH0 : Hid (DmH w W2 gD cD gQ cQ n dl rl (.slice none 0 0) 0 ((List.range 0).map (cutC R L C d))) := Lib.hid ⟨HI2.out, ⟨rfl, .inl ⟨rfl, rfl⟩⟩⟩
              clear HI2
              go_loopw [8, 9] (fun u v wr => ∃ (k ch : Nat) (Ah : Option Addr), k ≤ n ∧ v = .int .i64 k ∧ u = .slice Ah k ch ∧ Hid (DmH w wr gD cD gQ cQ n dl rl (.slice Ah k ch) k ((List.range k).map (cutC R L C d)))) (fun _ v _ => n - (intOf v).toNat)
              case atStart => exact ⟨0, 0, none, by omega, rfl, rfl, HH0⟩
              case round =>
                clear HH0
                obtain ⟨k, ch, Ah, hk, rfl, rfl, HJ⟩ := hrel
                obtain ⟨wj, rfl⟩ : ∃ wj : World, wj = wr := ⟨_, rfl⟩
                by_cases hlt2 : k < n
                · have hltd2 : decide (k < n) = true := decide_eq_true hlt2
                  have ek : IntKind.i64.wrap ((k : Int) + 1) = (k : Int) + 1 := IntWalk.i64_in _ (by omega)
                  have kD := HJ.out.di.at_ HCUT.out.1
                  obtain ⟨l0, hl0⟩ : ∃ l0, (List.range k).map (cutC R L C d) = l0 := ⟨_, rfl⟩
                  have hl1 : (List.range (k + 1)).map (cutC R L C d) = l0 ++ [cutC R L C d k] := by rw [List.range_succ, List.map_append, hl0]; rfl
                  rw [hl0] at HJ
                  clear hl0
                  by_cases hkd : k = d
                  · have HL1 : Hid ((List.range (k + 1)).map (cutC R L C d) = l0 ++ [.slice none 0 0]) := Lib.hid (by rw [hl1]; unfold cutC; rw [if_pos hkd])
                    clear hl1
                    have hxi : ((k : Int) = (d : Int)) := by omega
                    have hxa : decide ((k : Int) = (d : Int)) = true := decide_eq_true hxi
                    have hxb : decide (k = d) = true := decide_eq_true (by omega)
                    have hxc : ((k : Int) == (d : Int)) = true := beq_iff_eq.2 hxi
                    have hxd : (k == d) = true := beq_iff_eq.2 (by omega)
                    clear hxi
                    have hyi : ¬ ((k : Int) = (b : Int)) := by omega
                    have hya : decide ((k : Int) = (b : Int)) = false := decide_eq_false hyi
                    have hyb : decide (k = b) = false := decide_eq_false (by omega)
                    have hyc : ((k : Int) == (b : Int)) = false := beq_eq_false_iff_ne.2 hyi
                    have hyd : (k == b) = false := beq_eq_false_iff_ne.2 (by omega)
                    have hye : ((k : Int) != (b : Int)) = true := bne_iff_ne.2 hyi
                    have hyf : (k != b) = true := bne_iff_ne.2 (by omega)
                    clear hkd
                    have HOT : Hid ((wj.alloc (.cells #[.slice none 0 0] 25)).ownsRow w.heap.size 25 1 (.slice Ah k ch) k l0) := Lib.hid (ownsRow_b HJ.out.h ((Below.refl _ _).alloc (Nat.le_refl _) _))
                    have HTK := Lib.hid (tok_bd wj #[.slice none 0 0] 25)
                    go_wp2_with (at_builtin; refine wpList_append_own_at _ (by rfl) (.tmp 105) (.tmp 106) 22 (by rfl) w.heap.size 25 i0 (.slice none 0 0) 1 24 Try.underlying22 HIN.out.1 HIN.out.2.1 HIN.out.2.2.1 HIN.out.2.2.2 rfl (by omega) (.slice Ah k ch) k l0 (by rfl) HOT.out ⟨wj.heap.size, 0, none⟩ 1 1 [.slice none 0 0] (by rfl) rfl HTK.out (by intro u hu; rw [List.mem_singleton] at hu; subst hu; rfl) (by unfold maxLen; omega) (by omega) (by have := HJ.out.hb.size; simp; omega) ?_; intro v' w5 hown hg hnil hat; clear hnil hat; have HOW := Lib.hid (And.intro hown hg); clear hown hg HTK)
                    have hown := HOW.out.1
                    obtain ⟨A3, c3, rfl⟩ : ∃ A3 c3, v' = .slice A3 (k + 1) c3 := by
                      rcases hown.2 with ⟨_, q⟩ | ⟨g, cap, cur, q, _⟩
                      · omega
                      · exact ⟨_, _, q⟩
                    rw [← HL1.out] at hown
                    exact ⟨⟨k + 1, c3, A3, by omega, by go_num, rfl, Lib.hid (HJ.out.put hown HOW.out.2)⟩, by simp [intOf]; omega⟩
                  · obtain ⟨Rk, hRk⟩ : ∃ x, R k = x := ⟨_, rfl⟩
                    obtain ⟨Lk, hLk⟩ : ∃ x, L k = x := ⟨_, rfl⟩
                    obtain ⟨Ck, hCk⟩ : ∃ x, C k = x := ⟨_, rfl⟩
                    have HL1 : Hid ((List.range (k + 1)).map (cutC R L C d) = l0 ++ [.slice Rk Lk Ck]) := Lib.hid (by rw [hl1]; unfold cutC; rw [if_neg hkd, hRk, hLk, hCk])
                    have cK := cell_later HJ.out.hb (HRW.out.1 k hlt2).1
                    rw [hRk, hLk, hCk] at cK
                    clear hl1 hRk hLk hCk
                    have hxi : ¬ ((k : Int) = (d : Int)) := by omega
                    have hxa : decide ((k : Int) = (d : Int)) = false := decide_eq_false hxi
                    have hxb : decide (k = d) = false := decide_eq_false (by omega)
                    have hxc : ((k : Int) == (d : Int)) = false := beq_eq_false_iff_ne.2 hxi
                    have hxd : (k == d) = false := beq_eq_false_iff_ne.2 (by omega)
                    have hxe : ((k : Int) != (d : Int)) = true := bne_iff_ne.2 hxi
                    have hxf : (k != d) = true := bne_iff_ne.2 (by omega)
                    clear hkd
                    have HOT : Hid ((wj.alloc (.cells #[.slice Rk Lk Ck] 25)).ownsRow w.heap.size 25 1 (.slice Ah k ch) k l0) := Lib.hid (ownsRow_b HJ.out.h ((Below.refl _ _).alloc (Nat.le_refl _) _))
                    have HTK := Lib.hid (tok_bd wj #[.slice Rk Lk Ck] 25)
                    go_wp2_with (at_builtin; refine wpList_append_own_at _ (by rfl) (.tmp 108) (.tmp 113) 22 (by rfl) w.heap.size 25 i0 (.slice none 0 0) 1 24 Try.underlying22 HIN.out.1 HIN.out.2.1 HIN.out.2.2.1 HIN.out.2.2.2 rfl (by omega) (.slice Ah k ch) k l0 (by rfl) HOT.out ⟨wj.heap.size, 0, none⟩ 1 1 [.slice Rk Lk Ck] (by rfl) rfl HTK.out (by intro u hu; rw [List.mem_singleton] at hu; subst hu; rfl) (by unfold maxLen; omega) (by omega) (by have := HJ.out.hb.size; simp; omega) ?_; intro v' w5 hown hg hnil hat; clear hnil hat; have HOW := Lib.hid (And.intro hown hg); clear hown hg HTK)
                    have hown := HOW.out.1
                    obtain ⟨A3, c3, rfl⟩ : ∃ A3 c3, v' = .slice A3 (k + 1) c3 := by
                      rcases hown.2 with ⟨_, q⟩ | ⟨g, cap, cur, q, _⟩
                      · omega
                      · exact ⟨_, _, q⟩
                    rw [← HL1.out] at hown
                    exact ⟨⟨k + 1, c3, A3, by omega, by go_num, rfl, Lib.hid (HJ.out.put hown HOW.out.2)⟩, by simp [intOf]; omega⟩
                · have hltd2 : decide (k < n) = false := decide_eq_false hlt2
                  obtain rfl : n = k := by omega
                  have hgr := HJ.out.gr HG.out.1 (fun i hi => (HRW.out.1 i hi).2) HRW.out.2.1 HRW.out.2.2
                  have HRR := rreach_c Ah n ch (cutL L d) m (r0 : Int) wj hgr (by omega) (fun a ha => by have := HLL.out a ha; unfold cutL; split <;> omega)
                  have h2b : (rcL n (EG n (cutL L d) m) (fun _ => True) (r0 : Int))[b]? = some false := by
                    rw [rcL_yes hr hlt, cut_EG]
                    congr 1
                    exact Sh.dc_no.2 HCUT.out.2
                  obtain ⟨r2, hr2⟩ : ∃ r2, rcL n (EG n (cutL L d) m) (fun _ => True) (r0 : Int) = r2 := ⟨_, rfl⟩
                  have hr2len : r2.length = n := by rw [← hr2]; exact rcL_len
                  rw [hr2] at HRR h2b
                  have H2B := Lib.hid (And.intro h2b hr2len)
                  clear hgr hr2 h2b hr2len
                  go_upto_region 20 with (go_at_call 12; refine HRR.mono ?_; rintro e w5 ⟨g2, c2, rfl, h1, h2⟩; have HR2 := Lib.hid (And.intro h1 h2); clear h1 h2 HRR)
                  have hon := HR2.out.1.at_ H2B.out.1
                  have HJ5 := Lib.hid (HJ.out.toDmS.below HR2.out.2)
                  have kD := HJ5.out.di.at_ HCUT.out.1
                  have hr2len := H2B.out.2
                  try simp only [hr2len]
                  clear hr2len
                  have hdn1 : decide ((n : Int) ≤ (d : Int)) = false := decide_eq_false (by omega)
                  have hdn2 : decide (n ≤ d) = false := decide_eq_false (by omega)
                  have hxi : ¬ ((d : Int) = (b : Int)) := by omega
                  have hxa : decide ((d : Int) = (b : Int)) = false := decide_eq_false hxi
                  have hxb : decide (d = b) = false := decide_eq_false (by omega)
                  have hxc : ((d : Int) == (b : Int)) = false := beq_eq_false_iff_ne.2 hxi
                  have hxd : (d == b) = false := beq_eq_false_iff_ne.2 (by omega)
                  have hxe : ((d : Int) != (b : Int)) = true := bne_iff_ne.2 hxi
                  have hxf : (d != b) = true := bne_iff_ne.2 (by omega)
                  go_wp2_with fail
                  exact ⟨⟨b + 1, by omega, by go_num, HJ5⟩, by simp [intOf]; omega⟩
        · have hltd : decide (b < n) = false := decide_eq_false hlt
          obtain rfl : n = b := by omega
          go_wp2_with (go_at_call 8; refine (HAW.out wo).mono ?_; rintro e w' ⟨rfl, hb⟩)
          go_ret
          exact ⟨rfl, below_next HI.out.hb HI.out.hb.size hb⟩
    · have hnr : (decide (r < 0) = true) ∨ (decide (r < 0) = false ∧ decide ((n : Int) ≤ r) = true) := by
        by_cases q : r < 0
        · exact .inl (decide_eq_true q)
        · exact .inr ⟨decide_eq_false q, decide_eq_true (by omega)⟩
      clear hG hL
      rcases hnr with q1 | ⟨q1, q2⟩
      · go_enter Try.func3, Try.ntmps3
        go_wp2_with (first | (go_at_call 7; refine HGT.mono ?_; rintro e w' ⟨rfl, rfl⟩) | (go_at_call 8; refine (HAW.out w).mono ?_; rintro e w' ⟨rfl, hb⟩))
        go_ret
        exact ⟨rfl, hb⟩
      · go_enter Try.func3, Try.ntmps3
        go_wp2_with (first | (go_at_call 7; refine HGT.mono ?_; rintro e w' ⟨rfl, rfl⟩) | (go_at_call 8; refine (HAW.out w).mono ?_; rintro e w' ⟨rfl, hb⟩))
        go_ret
        exact ⟨rfl, hb⟩
end Go.Proofs.Ytacdeollnhkckaa.C
