/- MemoryApart: a walk. -/
import Derived.Test.YtfhpijemjcdhoaaLaw7
import Derived.Test.YtfhpijemjcdhoaaMem8
import Derived.Test.YtfhpijemjcdhoaaOpen
import Derived.Test.YtfhpijemjcdhoaaWf
namespace Go.Proofs.Ytfhpijemjcdhoaa.C
open Go.RowKit
set_option linter.unusedSimpArgs false
set_option linter.unusedVariables false
theorem MR.congr {w : World} {base p n : Nat} {L : Value} {ts ts' : Nat → Int} {ad ln ln' cp : Nat → Nat} {f f' : Nat → Nat → Int} (hm : MR w base p L n ts ad ln cp f) (h1 : ∀ i, i < n → ts i = ts' i) (h2 : ∀ i, i < n → ln i = ln' i) (h3 : ∀ i j, i < n → f i j = f' i j) : MR w base p L n ts' ad ln' cp f' :=
  ⟨hm.hp, hm.cell, hm.frz, by rw [← xsM_congr n (fun i hi => ⟨h1 i hi, rfl, h2 i hi, rfl⟩)]; exact hm.own, hm.hL, fun i hi => by rw [← h2 i hi]; exact hm.hA i hi, hm.inj, fun i j hi hj => by rw [← h3 i j hi]; exact hm.inner i j hi (by rw [h2 i hi]; exact hj), fun i j hi hj => hm.ifrz i j hi (by rw [h2 i hi]; exact hj)⟩
def sizeS (zs : List Int) : Nat → Nat := fun i => sizeM (1 + zs.getD i 0 % 16)
theorem MR.snoc {w : World} {base p k : Nat} {L : Value} {ad cp : Nat → Nat} {zs : List Int} {a : Nat}
    (hm : MR w base p L (k + 1) (addT k (fun _ => 5) 5) (addN k ad a) (addN k (sizeS zs) (sizeM (1 + zs.getD k 0 % 16))) cp (addF k (fun _ _ => 0) fun _ => 0)) :
    MR w base p L (k + 1) (fun _ => 5) (addN k ad a) (sizeS zs) cp (fun _ _ => 0) :=
  hm.congr (fun i _ => by unfold addT; split <;> rfl) (fun i _ => by unfold addN sizeS; split <;> simp_all) (fun i j _ => by unfold addF; split <;> rfl)
theorem wpList_at {P : Program} {ops : Array Oper} {Q : Exit → Act → World → Prop} {l : List Oper} {a : Act} {w : World} (F : World → Prop) (h : F w) (k : ∀ W, F W → wpList P ops Q l a W) : wpList P ops Q l a w := k w h
set_option maxRecDepth 100000 in
set_option maxHeartbeats 3200000 in
theorem memoryApart_c (A : Option Addr) (n cap : Nat) (zs : List Int) (id at' v : Int) (w : World) (hz : IntRow w .u8 A n zs) (hid : 0 ≤ id ∧ id ≤ 255) (hat : 0 ≤ at' ∧ at' ≤ 255) (hv : -32768 ≤ v ∧ v ≤ 32767) :
    Calls Try.prog 4 #[.slice A n cap, .int .u8 id, .int .u8 at', .int .i16 v] w fun e w' => e = .returned (.bool true) ∧ Below w.heap.size w w' := by
  have hmax : n ≤ 9223372036854775807 := by have := hz.2.1; unfold maxLen at this; exact this
  by_cases hn0 : n = 0
  · subst hn0
    clear hz
    go_enter Try.func4, Try.ntmps4
    go_wp2_with ((go_at_call 12; refine (awake7_c _).mono ?_; rintro e w' ⟨rfl, hb⟩))
    go_ret
    exact ⟨rfl, hb⟩
  by_cases hn20 : 20 < n
  · have g0 : ((n : Int) == 0) = false := by simp; omega
    have g1 : decide (20 < n) = true := decide_eq_true hn20
    clear hz
    go_enter Try.func4, Try.ntmps4
    go_wp2_with ((go_at_call 12; refine (awake7_c _).mono ?_; rintro e w' ⟨rfl, hb⟩))
    go_ret
    exact ⟨rfl, hb⟩
  have g0 : ((n : Int) == 0) = false := by simp; omega
  have g1 : decide (20 < n) = false := decide_eq_false hn20
  obtain ⟨ad0, rfl, hablk, hcells⟩ := hz.2.2.2 (by omega)
  have HZ := Lib.hid hz
  have HCE := Lib.hid hcells
  clear hz hcells
  go_enter Try.func4, Try.ntmps4
  go_upto_region 4 with ((go_at_call 7; refine (new_c _).mono ?_; rintro e w' ⟨rfl, hb1, hm1⟩))
  go_upto_region 6 with fail
  go_wp2_with fail
  go_loopw [10] (fun i wr => ∃ (k : Nat) (L : Value) (ad cp : Nat → Nat), k ≤ n ∧ i = .int .i64 k ∧ MR wr w.heap.size w.heap.size L k (fun _ => 5) ad (sizeS zs) cp (fun _ _ => 0) ∧ Below w.heap.size w wr) (fun i _ => n - (intOf i).toNat)
  case atStart => exact ⟨0, _, _, _, by omega, rfl, hm1.congr (fun i hi => absurd hi (by omega)) (fun i hi => absurd hi (by omega)) (fun i j hi => absurd hi (by omega)), hb1⟩
  case round =>
    clear hb1 hm1
    obtain ⟨k, L, ad, cp, hk, rfl, hm, hb⟩ := hrel
    by_cases hlt : k < n
    · have HM := Lib.hid hm
      have HB := Lib.hid hb
      have hk0 : (0 : Int) ≤ (k : Int) := by omega
      have hk1 : (k : Int) < (n : Int) := by omega
      have c1 := cell_later hb (HCE.out k hlt)
      obtain ⟨z, hzk⟩ : ∃ z, zs.getD k 0 = z := ⟨_, rfl⟩
      have hzb : 0 ≤ z ∧ z ≤ 255 := by
        have hl := HZ.out.1
        have : zs.getD k 0 ∈ zs := by rw [List.getD_eq_getElem?_getD, List.getElem?_eq_getElem (by omega)]; exact List.getElem_mem _
        rw [hzk] at this
        exact wf_u8 (HZ.out.2.2.1 z this)
      rw [hzk] at c1
      have hs : sizeS zs k = sizeM (1 + z % 16) := by unfold sizeS; rw [hzk]
      clear hm hb
      obtain ⟨wo, rfl⟩ : ∃ wo : World, wo = wr := ⟨_, rfl⟩
      have HADD : Hid (Calls Try.prog 8 #[.pointer (some ⟨w.heap.size, 0, none⟩), .int .i64 5, .int .i64 (1 + z % 16)] wo fun e w' => e = .returned (.int .i64 k) ∧ ∃ L' ad' cp', MR w' w.heap.size w.heap.size L' (k + 1) (fun _ => 5) ad' (sizeS zs) cp' (fun _ _ => 0) ∧ Below w.heap.size w w') := Lib.hid ((add_c w.heap.size w.heap.size k L (fun _ => 5) ad (sizeS zs) cp (fun _ _ => 0) 5 (1 + z % 16) wo HM.out (by omega) HB.out.size).mono (by
        rintro e w' ⟨rfl, hb2, L', a, hm2⟩
        rw [← hzk] at hm2
        exact ⟨rfl, L', _, _, hm2.snoc, HB.out.trans hb2⟩))
      go_wp2_with ((go_at_call 8; refine (HADD.out).mono ?_; rintro e w' ⟨rfl, L', ad', cp', hm2, hb2⟩))
      all_goals exact ⟨⟨k + 1, _, _, _, by omega, by go_num, hm2, hb2⟩, by simp [intOf]; omega⟩
    · obtain rfl : k = n := by omega
      have HM := Lib.hid hm
      have HB := Lib.hid hb
      clear hm hb hk hlt
      obtain ⟨q, hq, hqn⟩ := rem_nat id k (by omega)
      obtain ⟨s0, hs0⟩ : ∃ s0, sizeS zs q = s0 := ⟨_, rfl⟩
      have hs0b : 1 ≤ s0 ∧ s0 ≤ 16 := by rw [← hs0]; exact sizeM_bd _
      obtain ⟨r, hr, hrs⟩ := rem_nat at' s0 hs0b.1
      have c1 := cell_later HB.out (HCE.out q hqn)
      obtain ⟨z, hzk⟩ : ∃ z, zs.getD q 0 = z := ⟨_, rfl⟩
      have hzb : 0 ≤ z ∧ z ≤ 255 := by
        have hl := HZ.out.1
        have : zs.getD q 0 ∈ zs := by rw [List.getD_eq_getElem?_getD, List.getElem?_eq_getElem (by omega)]; exact List.getElem_mem _
        rw [hzk] at this
        exact wf_u8 (HZ.out.2.2.1 z this)
      have hsz : 1 + z % 16 = (s0 : Int) := by rw [← hs0, ← hzk]; unfold sizeS; exact (sizeM_in _).symm
      rw [hzk] at c1
      have hq0 : (0 : Int) ≤ (q : Int) := by omega
      have hq1 : (q : Int) < (k : Int) := by omega
      have hk0 : ((k : Int) == 0) = false := by simp; omega
      have hs00 : ((s0 : Int) == 0) = false := by simp; omega
      obtain ⟨g, capg, rfl, hv0, hg1, hg2, hg3, hg4⟩ := HM.out.view (by omega)
      have HV0 := Lib.hid hv0
      clear hv0
      obtain ⟨wo, rfl⟩ : ∃ wo : World, wo = wr := ⟨_, rfl⟩
      go_upto_region 13 with fail
      go_upto_region 14 with (go_at_call 13; refine (copy_c _ _ _ _ _ _ _ _ _ _ HV0.out (by omega) (by omega) (fun i _ => sizeM_bd _)).mono ?_; rintro e w2 ⟨p', g', c', ad', cp', rfl, hv2, hp2, hg2', ha2, hpl, hgl, hal, hb2⟩)
      have hf1 : ∀ a b, setF (fun _ _ => 0) q r v a b = (if a = q ∧ b = r then v else 0) := fun a b => rfl
      have HM2 := HM.out.below hb2
      have hadq : ad q < wo.heap.size := (HM.out.hA q hqn).2.1
      have hlt2 := HV0.out.lt (by omega) (fun i _ => (sizeM_bd _).1)
      have HSET : Hid (Calls Try.prog 9 #[.pointer (some ⟨w.heap.size, 0, none⟩), .int .i64 q, .int .i64 r, .int .i64 v] w2 fun e w3 => e = .returned (.bool true) ∧ Calls Try.prog 9 #[.pointer (some ⟨w.heap.size, 0, none⟩), .int .i64 q, .int .i64 s0, .int .i64 1] w3 (fun e w' => e = .returned (.bool false) ∧ w3 = w') ∧ Calls Try.prog 9 #[.pointer (some ⟨w.heap.size, 0, none⟩), .int .i64 k, .int .i64 0, .int .i64 1] w3 (fun e w' => e = .returned (.bool false) ∧ w3 = w') ∧ ∃ g3 cap3, Hid (Below w.heap.size w w3 ∧ MV w3 w.heap.size g3 k cap3 (fun _ => 5) ad (sizeS zs) cp (setF (fun _ _ => 0) q r v) ∧ MV w3 p' g' k c' (fun _ => 5) ad' (sizeS zs) cp' (fun _ _ => 0))) :=
        Lib.hid ((set_in2 _ _ _ _ _ _ _ _ _ q r v w2 HM2 hqn (by rw [hs0]; exact hrs) (Nat.le_trans HB.out.size hb2.size)).mono (by
          rintro e w3 ⟨rfl, hb3, hm3, hk3⟩
          rw [wrapT5 v hv] at hm3
          obtain ⟨g3, cap3, _, hv3, _⟩ := hm3.view (by omega)
          refine ⟨rfl, set_out _ _ _ _ _ _ _ _ _ q s0 1 w3 hv3 (decide_eq_false (fun x => ?_)), set_out _ _ _ _ _ _ _ _ _ k 0 1 w3 hv3 (decide_eq_false (fun x => ?_)), g3, cap3, Lib.hid ⟨HB.out.trans ((hb2.mono HB.out.size).trans hb3), hv3, hv2.keep (hk3 p' hpl (by omega)) (hk3 g' hgl (by omega)) (fun i hi => hk3 (ad' i) (hal i hi) (by have := ha2 i hi; omega))⟩⟩
          · have := x.2.2.2
            simp [hs0] at this
          · have := x.2.1
            omega))
      clear HM2 hv2 hp2 hg2' ha2 hpl hgl hal hb2 hlt2 hadq
      have hv64 : IntKind.i64.wrap v = v := by simp [IntKind.wrap, IntKind.bits, IntKind.signed]; omega
      go_upto_region 16 with (first | (go_at_call 9; refine (HSET.out).mono ?_; rintro e w3 ⟨rfl, hS2, hS3, g3, cap3, H3⟩; clear HSET) | (go_at_call 9; refine (hS2).mono ?_; rintro e w' ⟨rfl, rfl⟩; clear hS2) | (go_at_call 9; refine (hS3).mono ?_; rintro e w' ⟨rfl, rfl⟩; clear hS3))
      have HBLK : Hid (Calls Try.prog 14 #[.pointer (some ⟨w.heap.size, 0, none⟩), .int .i64 q] w3 (BlockPost 5 s0 (setF (fun _ _ => 0) q r v q) w3)) := Lib.hid (by
        rw [← hs0]
        exact block_c w.heap.size g3 k cap3 (fun _ => 5) ad (sizeS zs) cp (setF (fun _ _ => 0) q r v) q w3 H3.out.2.1 hqn (by rw [hs0]; exact hs0b))
      clear HM HB HV0 c1
      go_upto_region 17 with (go_at_call 14; refine (HBLK.out).mono ?_; rintro e w4 ⟨gb, cb, rfl, hrn⟩; clear HBLK)
      have hx1 := H3.out.2.1.lt (by omega) (fun i _ => (sizeM_bd _).1)
      have hx2 := H3.out.2.2.lt (by omega) (fun i _ => (sizeM_bd _).1)
      refine at_world (fun W => ∃ bb, bb = w4.heap.size ∧ bb < W.heap.size ∧ (∀ o, W.cell? ⟨bb, o, none⟩ = [Value.int .i64 5, Value.slice (some ⟨gb, 0, none⟩) s0 cb][o]?) ∧ (∃ x, W.cell? ⟨gb, r, none⟩ = some x) ∧ W.frozen? ⟨gb, r, none⟩ = false ∧ Hid (∀ W', Below W.heap.size W W' → ∀ x, Below w.heap.size w (W'.setCell ⟨gb, r, none⟩ x) ∧ MV (W'.setCell ⟨gb, r, none⟩ x) w.heap.size g3 k cap3 (fun _ => 5) ad (sizeS zs) cp (setF (fun _ _ => 0) q r v) ∧ MV (W'.setCell ⟨gb, r, none⟩ x) p' g' k c' (fun _ => 5) ad' (sizeS zs) cp' (fun _ _ => 0))) ⟨_, rfl, by simp, by intro o; simp [go_sem], ?_⟩ ?_
      · obtain ⟨r1, r2, r3, r4, r5, r6⟩ := hrn
        have al := fun (o : Obj) => (Below.refl w4.heap.size w4).alloc (Nat.le_refl _) o
        have al6 := fun (o : Obj) => r6.alloc r6.size o
        have hsz3 := H3.out.1.size
        refine ⟨⟨_, ((al _).cell (p := ⟨gb, r, none⟩) r2).trans (r4 r hrs)⟩, ((al _).frozen (p := ⟨gb, r, none⟩) r2).trans (r5 r hrs), Lib.hid (fun W' hW' x => ⟨((H3.out.1.trans ((al6 _).mono hsz3)).trans (hW'.mono (by simp; omega))).setCell (p := ⟨gb, r, none⟩) (by show w.heap.size ≤ gb; omega) _, ?_, ?_⟩)⟩
        · exact ((H3.out.2.1.below (al6 _)).below hW').keep (Below.heap_setCell _ ⟨gb, r, none⟩ _ _ (by show _ ≠ gb; omega)) (Below.heap_setCell _ ⟨gb, r, none⟩ _ _ (by show _ ≠ gb; omega)) (fun i hi => Below.heap_setCell _ ⟨gb, r, none⟩ _ _ (by have := hx1.2.2 i hi; show _ ≠ gb; omega))
        · exact ((H3.out.2.2.below (al6 _)).below hW').keep (Below.heap_setCell _ ⟨gb, r, none⟩ _ _ (by show _ ≠ gb; omega)) (Below.heap_setCell _ ⟨gb, r, none⟩ _ _ (by show _ ≠ gb; omega)) (fun i hi => Below.heap_setCell _ ⟨gb, r, none⟩ _ _ (by have := hx2.2.2 i hi; show _ ≠ gb; omega))
      intro W5 ⟨bb, hbb, hbs, kb, ⟨x0, kg⟩, fg, H5⟩
      simp only [← hbb]
      have kb0 := kb 0
      have kb1 := kb 1
      simp at kb0 kb1
      have hr0 : (0 : Int) ≤ (r : Int) := by omega
      have hr1 : (r : Int) < (s0 : Int) := by omega
      clear hx1 hx2 kb hbb hrn H3 w3 w4
      go_upto_region 19 with fail
      have d1 := fun (x' : WIn (Below W5.heap.size W5)) => cell_later x'.h kb1
      have HKG : Hid (gb < W5.heap.size) := Lib.hid (World.block_lt_of_cell? W5 _ kg)
      refine region_tail 7 (Below W5.heap.size W5) (by kernel_rfl) (by kernel_rfl) (Below.refl _ _).drew (fun inst => ?_)
      simp only [List.take_succ_cons, List.take_zero, List.drop_succ_cons, List.drop_zero]
      iterate 7 (go_big_quiet_step (fail))
      refine wpQuiet_nil ?_
      intro wd hbd
      have kgd : wd.cell? ⟨gb, r, none⟩ = some x0 := cell_later hbd kg
      have fgd : wd.frozen? ⟨gb, r, none⟩ = false := (hbd.frozen (p := ⟨gb, r, none⟩) HKG.out).trans fg
      have H6 := Lib.hid (H5.out wd hbd (.int .i64 7777777))
      refine wpList_at (fun wd => wd.cell? ⟨gb, r, none⟩ = some x0 ∧ wd.frozen? ⟨gb, r, none⟩ = false ∧ Hid (Below w.heap.size w (wd.setCell ⟨gb, r, none⟩ (.int .i64 7777777)) ∧ MV (wd.setCell ⟨gb, r, none⟩ (.int .i64 7777777)) w.heap.size g3 k cap3 (fun _ => 5) ad (sizeS zs) cp (setF (fun _ _ => 0) q r v) ∧ MV (wd.setCell ⟨gb, r, none⟩ (.int .i64 7777777)) p' g' k c' (fun _ => 5) ad' (sizeS zs) cp' (fun _ _ => 0))) ⟨kgd, fgd, H6⟩ ?_
      clear d1 H6 H5 kgd fgd kg fg HKG kb0 kb1 hbs hbd
      intro wd ⟨kgd, fgd, H6⟩
      go_upto_region 20 with fail
      refine at_world (fun W => Hid (Below w.heap.size w W ∧ MV W w.heap.size g3 k cap3 (fun _ => 5) ad (sizeS zs) cp (setF (fun _ _ => 0) q r v) ∧ MV W p' g' k c' (fun _ => 5) ad' (sizeS zs) cp' (fun _ _ => 0))) H6 ?_
      clear H6 kgd fgd wd
      intro W6 H6
      have hq16 := hs0b
      go_wp2_with fail
      clear hzk hzb hsz
      go_loopw [16] (fun i wr => ∃ a : Nat, a ≤ k ∧ i = .int .i64 a ∧ wr = W6) (fun i _ => k - (intOf i).toNat)
      case atStart => exact ⟨0, by omega, rfl, rfl⟩
      case round =>
        obtain ⟨a, ha, rfl, rfl⟩ := hrel
        obtain ⟨W6, rfl⟩ : ∃ x : World, x = wr := ⟨_, rfl⟩
        by_cases hlt : a < k
        · have c1 := cell_later H6.out.1 (HCE.out a hlt)
          obtain ⟨sa, hsa⟩ : ∃ s, sizeS zs a = s := ⟨_, rfl⟩
          obtain ⟨z, hzk⟩ : ∃ z, zs.getD a 0 = z := ⟨_, rfl⟩
          have hzb : 0 ≤ z ∧ z ≤ 255 := by
            have hl := HZ.out.1
            have : zs.getD a 0 ∈ zs := by rw [List.getD_eq_getElem?_getD, List.getElem?_eq_getElem (by omega)]; exact List.getElem_mem _
            rw [hzk] at this
            exact wf_u8 (HZ.out.2.2.1 z this)
          have hsz : 1 + z % 16 = (sa : Int) := by rw [← hsa, ← hzk]; unfold sizeS; exact (sizeM_in _).symm
          rw [hzk] at c1
          have ha0 : (0 : Int) ≤ (a : Int) := by omega
          have ha1 : (a : Int) < (k : Int) := by omega
          go_wp2_with fail
          go_loopw [17] (fun j wr => ∃ t : Nat, t ≤ sa ∧ j = .int .i64 t ∧ wr = W6) (fun j _ => sa - (intOf j).toNat)
          case atStart => exact ⟨0, by omega, rfl, rfl⟩
          case round =>
            obtain ⟨t, ht, rfl, rfl⟩ := hrel
            obtain ⟨W6, rfl⟩ : ∃ x : World, x = wr := ⟨_, rfl⟩
            rcases Bool.eq_false_or_eq_true (decide (t < sa)) with gt | gt
            · have hlu : t < sa := of_decide_eq_true gt
              have G2 : Hid (Calls Try.prog 10 #[.pointer (some ⟨p', 0, none⟩), .int .i64 a, .int .i64 t] W6 fun e w' => e = .returned (.tuple #[.int .i64 0, .bool true]) ∧ W6 = w') := Lib.hid (get_v p' g' k c' (fun _ => 5) ad' (sizeS zs) cp' (fun _ _ => 0) a t W6 H6.out.2.2 hlt (by rw [hsa]; exact hlu))
              by_cases e1 : a = q
              · by_cases e2 : t = r
                · have b1 : ((a : Int) == (q : Int)) = true := by simp; omega
                  have b2 : ((t : Int) == (r : Int)) = true := by simp; omega
                  have G1 : Hid (Calls Try.prog 10 #[.pointer (some ⟨w.heap.size, 0, none⟩), .int .i64 a, .int .i64 t] W6 fun e w' => e = .returned (.tuple #[.int .i64 (v), .bool true]) ∧ W6 = w') := Lib.hid (by
                    have := get_v w.heap.size g3 k cap3 (fun _ => 5) ad (sizeS zs) cp (setF (fun _ _ => 0) q r v) a t W6 H6.out.2.1 hlt (by rw [hsa]; exact hlu)
                    rwa [show setF (fun _ _ => 0) q r v a t = v from if_pos ⟨e1, e2⟩] at this)
                  clear e1 e2
                  go_wp2_with (first | (go_at_call 10; refine (G1.out).mono ?_; rintro e w' ⟨rfl, rfl⟩; clear G1) | (go_at_call 10; refine (G2.out).mono ?_; rintro e w' ⟨rfl, rfl⟩; clear G2))
                  all_goals exact ⟨⟨t + 1, by omega, by go_num, trivial⟩, by simp [intOf]; omega⟩
                · have b1 : ((a : Int) == (q : Int)) = true := by simp; omega
                  have b2 : ((t : Int) == (r : Int)) = false := by simp; omega
                  have G1 : Hid (Calls Try.prog 10 #[.pointer (some ⟨w.heap.size, 0, none⟩), .int .i64 a, .int .i64 t] W6 fun e w' => e = .returned (.tuple #[.int .i64 (0), .bool true]) ∧ W6 = w') := Lib.hid (by
                    have := get_v w.heap.size g3 k cap3 (fun _ => 5) ad (sizeS zs) cp (setF (fun _ _ => 0) q r v) a t W6 H6.out.2.1 hlt (by rw [hsa]; exact hlu)
                    rwa [show setF (fun _ _ => 0) q r v a t = 0 from if_neg (fun x => e2 x.2)] at this)
                  clear e1 e2
                  go_wp2_with (first | (go_at_call 10; refine (G1.out).mono ?_; rintro e w' ⟨rfl, rfl⟩; clear G1) | (go_at_call 10; refine (G2.out).mono ?_; rintro e w' ⟨rfl, rfl⟩; clear G2))
                  all_goals exact ⟨⟨t + 1, by omega, by go_num, trivial⟩, by simp [intOf]; omega⟩
              · have b1 : ((a : Int) == (q : Int)) = false := by simp; omega
                have G1 : Hid (Calls Try.prog 10 #[.pointer (some ⟨w.heap.size, 0, none⟩), .int .i64 a, .int .i64 t] W6 fun e w' => e = .returned (.tuple #[.int .i64 (0), .bool true]) ∧ W6 = w') := Lib.hid (by
                  have := get_v w.heap.size g3 k cap3 (fun _ => 5) ad (sizeS zs) cp (setF (fun _ _ => 0) q r v) a t W6 H6.out.2.1 hlt (by rw [hsa]; exact hlu)
                  rwa [show setF (fun _ _ => 0) q r v a t = 0 from if_neg (fun x => e1 x.1)] at this)
                clear e1
                go_wp2_with (first | (go_at_call 10; refine (G1.out).mono ?_; rintro e w' ⟨rfl, rfl⟩; clear G1) | (go_at_call 10; refine (G2.out).mono ?_; rintro e w' ⟨rfl, rfl⟩; clear G2))
                all_goals exact ⟨⟨t + 1, by omega, by go_num, trivial⟩, by simp [intOf]; omega⟩
            · have htn : t = sa := by have := of_decide_eq_false gt; omega
              go_wp2_with fail
              all_goals exact ⟨⟨a + 1, by omega, by go_num, trivial⟩, by simp [intOf]; omega⟩
        · have hak : a = k := by omega
          subst hak
          go_wp2_with ((go_at_call 12; refine (awake7_c _).mono ?_; rintro e w' ⟨rfl, hb7⟩))
          go_ret
          exact ⟨rfl, H6.out.1.trans (hb7.mono H6.out.1.size)⟩
end Go.Proofs.Ytfhpijemjcdhoaa.C
