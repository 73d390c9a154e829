/- shape.ranks: the walk. -/
import Derived.Test.YtacdeollnhkckaaShK
namespace Go.Proofs.Ytacdeollnhkckaa.C
open Go.Shelf Go.RowKit Go.Lib Go.Sort
set_option linter.unusedSimpArgs false
set_option linter.unusedVariables false
theorem made_ints (w : World) (n : Nat) (hn : n ≤ 1000000) : IL (w.alloc (.cells (madeCells #[.int .i64 0] n) 3)) w.heap.size (.slice (some ⟨w.heap.size, 0, none⟩) n n) (List.replicate n 0) := by
  have := World.ownsRow_lit (base := w.heap.size) (e := 3) (size := 1) w (madeCells #[.int .i64 0] n) n (Nat.le_refl _) (by unfold maxLen; omega) (by rw [size_madeCells]; omega)
  rw [toList_madeCells_one] at this
  unfold IL
  rw [List.length_replicate, List.map_replicate]
  exact this
theorem fill_step (i n : Nat) (hi : i < n) : (List.replicate i (-1 : Int) ++ List.replicate (n - i) 0).set i (-1) = List.replicate (i + 1) (-1) ++ List.replicate (n - (i + 1)) 0 := by
  rw [List.set_append_right _ _ (by simp), List.length_replicate, Nat.sub_self, show n - i = (n - (i + 1)) + 1 from by omega, List.replicate_succ, List.set_cons_zero, List.replicate_succ', List.append_assoc]
  rfl
theorem IL.wider {w : World} {B B' : Nat} {v : Value} {l : List Int} (h : IL w B v l) (hb : B' ≤ B) : IL w B' v l := World.ownsRow.mono h hb
theorem BL'.wider {w : World} {B B' : Nat} {v : Value} {l : List Bool} (h : BL' w B v l) (hb : B' ≤ B) : BL' w B' v l := World.ownsRow.mono h hb
theorem infoV : (Try.prog.info? 50).map (fun i => (i.zero, i.size, i.bytes)) = some (some (.agg #[.int .i64 0, .slice none 0 0]), 2, 32) := by kernel_rfl
theorem rc_lt {n r x : Nat} {L : Nat → Nat} {m : Nat → Nat → Int} (hr : r < n) (h : Sh.Rc (EG n L m) r x) : x < n := by
  cases h with
  | refl _ => exact hr
  | step _ e _ => exact e.2.1
/-- What ranks hands out. -/
def RkPost (n : Nat) (E : Nat → Nat → Prop) (r : Nat) (w : World) (e : Ending) (w' : World) : Prop :=
  ∃ (od : List Nat) (rank : Nat → Nat) (rl : List Int) (gO cO gR : Nat), e = .returned (.tuple #[.slice (some ⟨gO, 0, none⟩) od.length cO, .slice (some ⟨gR, 0, none⟩) n n]) ∧ IL w' w.heap.size (.slice (some ⟨gO, 0, none⟩) od.length cO) (nI od) ∧ IL w' w.heap.size (.slice (some ⟨gR, 0, none⟩) n n) rl ∧ gO ≠ gR ∧ Sh.Od E r rank od ∧ rl.length = n ∧ (∀ x, Sh.Rc E r x → rl[x]? = some (rank x : Int)) ∧ od.length ≤ n ∧ Below w.heap.size w w'
/-- The state of the great loop. -/
def KSt (w : World) (br bs n : Nat) (E : Nat → Nat → Prop) (r : Nat) (v8 v10 : Value) (wr : World) (x : Nat) : Prop :=
  ∃ lo P cp post S cs st, v8 = .slice P post.length cp ∧ v10 = .slice S st.length cs ∧ DM w wr br bs n lo P cp post S cs st ∧ Sh.Dfs E r (pur st) post (fun x => lo[x]? = some true) ∧ Sh.left lo + post.length + st.length = n ∧ x = Sh.left lo * 1000002 + lenSum st + st.length
set_option maxRecDepth 100000 in
set_option maxHeartbeats 6400000 in
theorem ranks_c (A0 : Option Addr) (n cap : Nat) (L : Nat → Nat) (m : Nat → Nat → Int) (r0 : Nat) (w : World) (hG : GR w A0 n L m) (hn : n ≤ 2000) (hL : ∀ a, a < n → L a ≤ 1000000) (hr : r0 < n) :
    Calls Try.prog 23 #[.slice A0 n cap, .int .i64 r0] w (RkPost n (EG n L m) r0 w) := by
  have hmkI := fun W => run_make_row' (P := Try.prog) 25 3 (.int .i64 0) 8 Try.underlying25 infoI rfl .i64 .i64 n (by omega) (by omega) W
  have hmkB := fun W => run_make_row' (P := Try.prog) 27 4 (.bool false) 1 Try.underlying27 infoB rfl .i64 .i64 n (by omega) (by omega) W
  have HG := Lib.hid hG
  have HL := Lib.hid hL
  clear hG hL
  go_enter Try.func23, Try.ntmps23
  go_upto_region 2 with fail
  refine at_world (fun W => Hid (Below w.heap.size w W ∧ IL W w.heap.size (.slice (some ⟨w.heap.size, 0, none⟩) n n) (List.replicate n 0))) (Lib.hid ⟨(by repeat' (first | exact Below.refl _ _ | (refine Below.alloc ?_ ?_ _) | (refine Below.setCell ?_ ?_ _) | (refine Below.drew ?_) | (refine below_next ?_ ?_ (by assumption)) | omega | (simp; done) | (simp; omega))), made_ints w n (by omega)⟩) ?_
  intro W1 H1
  obtain ⟨br, hbr⟩ : ∃ b, w.heap.size = b := ⟨_, rfl⟩
  have HBr := Lib.hid hbr
  simp only [hbr]
  have H1' : Hid (Below w.heap.size w W1 ∧ IL W1 w.heap.size (.slice (some ⟨br, 0, none⟩) n n) (List.replicate n 0)) := Lib.hid (by rw [← hbr]; exact H1.out)
  clear H1 hbr hmkI
  go_wp2_with fail
  go_loopw [20] (fun i wr => ∃ k : Nat, k ≤ n ∧ i = .int .i64 k ∧ Hid (Below w.heap.size w wr ∧ IL wr w.heap.size (.slice (some ⟨br, 0, none⟩) n n) (List.replicate k (-1) ++ List.replicate (n - k) 0))) (fun i _ => n - (intOf i).toNat)
  case atStart => exact ⟨0, by omega, rfl, H1'⟩
  case round =>
    clear H1'
    obtain ⟨k, hk, rfl, HI⟩ := hrel
    obtain ⟨wo, rfl⟩ : ∃ wo : World, wo = wr := ⟨_, rfl⟩
    by_cases hlt : k < n
    · have hltd : decide (k < n) = true := decide_eq_true hlt
      have ek : IntKind.i64.wrap ((k : Int) + 1) = (k : Int) + 1 := IntWalk.i64_in _ (by omega)
      have c1 : wo.cell? ⟨br, k, none⟩ = some (.int .i64 0) := HI.out.2.at_ (by rw [List.getElem?_append_right (by simp), List.length_replicate, List.getElem?_replicate, if_pos (by omega)])
      have c2 := HI.out.2.fz k
      go_wp2_with fail
      exact ⟨⟨k + 1, by omega, by go_num, Lib.hid ⟨HI.out.1.setCell (HI.out.2.lt br rfl).1 _, by rw [← fill_step k n hlt]; exact HI.out.2.set k (-1)⟩⟩, by simp [intOf]; omega⟩
    · have hltd : decide (k < n) = false := decide_eq_false hlt
      obtain rfl : n = k := by omega
      rw [Nat.sub_self, List.replicate_zero, List.append_nil] at HI
      go_upto_region 9 with fail
      -- THE GREAT LOOP
      refine at_world (fun W => Hid (Below w.heap.size w W ∧ IL W w.heap.size (.slice (some ⟨br, 0, none⟩) n n) (List.replicate n (-1)) ∧ BL' W w.heap.size (.slice (some ⟨wo.heap.size, 0, none⟩) n n) (List.replicate n false))) (Lib.hid ⟨below_next HI.out.1 HI.out.1.size (by repeat' (first | exact Below.refl _ _ | (refine Below.alloc ?_ ?_ _) | (refine Below.setCell ?_ ?_ _) | (refine Below.drew ?_) | (refine below_next ?_ ?_ (by assumption)) | omega | (simp; done) | (simp; omega))), HI.out.2.below (by repeat' (first | exact Below.refl _ _ | (refine Below.alloc ?_ ?_ _) | (refine Below.setCell ?_ ?_ _) | (refine Below.drew ?_) | (refine below_next ?_ ?_ (by assumption)) | omega | (simp; done) | (simp; omega))), (made_bools wo n (by omega)).wider HI.out.1.size⟩) ?_
      intro W1 H1
      obtain ⟨bs, hbs⟩ : ∃ b, wo.heap.size = b := ⟨_, rfl⟩
      simp only [hbs] at H1 ⊢
      clear hbs HI hmkB
      have h1 : W1.cell? ⟨bs, r0, none⟩ = some (.bool false) := H1.out.2.2.at_ (by rw [List.getElem?_replicate, if_pos hr])
      have h2 := H1.out.2.2.fz r0
      have hWm : Hid (Below w.heap.size w (W1.setCell ⟨bs, r0, none⟩ (.bool true)) ∧ IL (W1.setCell ⟨bs, r0, none⟩ (.bool true)) w.heap.size (.slice (some ⟨br, 0, none⟩) n n) (List.replicate n (-1)) ∧ BL' (W1.setCell ⟨bs, r0, none⟩ (.bool true)) w.heap.size (.slice (some ⟨bs, 0, none⟩) n n) ((List.replicate n false).set r0 true)) := Lib.hid ⟨H1.out.1.setCell (H1.out.2.2.lt bs rfl).1 _, H1.out.2.1.far (p := ⟨bs, r0, none⟩) (H1.out.2.2.ne H1.out.2.1 bs rfl) _, H1.out.2.2.set r0 true⟩
      have HTO := to_c A0 n cap L m r0 (W1.setCell ⟨bs, r0, none⟩ (.bool true)) (HG.out.below hWm.out.1) hr (HL.out r0 hr)
      clear H1
      go_upto_region 11 with (go_at_call 24; refine HTO.mono ?_; rintro e w1 ⟨Bk, ck, rfl, hkid, hbt⟩; have HKID := Lib.hid (And.intro hkid hbt); clear hkid hbt HTO)
      obtain ⟨K2, hK2⟩ : ∃ K2, (toL n L m r0).length = K2 := ⟨_, rfl⟩
      rw [hK2] at HKID
      simp only [hK2]
      have hml : (List.replicate n false).length = n := List.length_replicate
      have HS0 : Hid (∃ x, KSt w br bs n (EG n L m) r0 (.slice none 0 0) (.slice (some ⟨w1.heap.size, 0, none⟩) 1 1) (w1.alloc (.cells #[.int .i64 (r0 : Int), .slice Bk K2 ck] 50)) x) := Lib.hid (by
        have hb1 := HKID.out.2
        have hbw := below_next hWm.out.1 hWm.out.1.size hb1
        have hba : Below w1.heap.size w1 (w1.alloc (.cells #[.int .i64 (r0 : Int), .slice Bk K2 ck] 50)) := (by repeat' (first | exact Below.refl _ _ | (refine Below.alloc ?_ ?_ _) | (refine Below.setCell ?_ ?_ _) | (refine Below.drew ?_) | (refine below_next ?_ ?_ (by assumption)) | omega | (simp; done) | (simp; omega)))
        have hkr : KR w1 w.heap.size (fun g => (Value.slice none 0 0).ownBlock = some g) ⟨r0, Bk, K2, ck, toN n L m r0⟩ := by
          have := IL.kr (a := r0) (NP := fun g => (Value.slice none 0 0).ownBlock = some g) (t := toN n L m r0) (by rw [toN_nI]; exact HKID.out.1.wider hWm.out.1.size) (by rw [toN_len]; exact hK2) (fun g _ q => by cases q)
          exact this
        refine ⟨_, (List.replicate n false).set r0 true, none, 0, [], _, _, [⟨r0, Bk, K2, ck, toN n L m r0⟩], rfl, rfl, ⟨below_next hbw hbw.size hba, (hWm.out.2.1.below hb1).below hba, ⟨rfl, .inl ⟨rfl, rfl⟩⟩, (hWm.out.2.2.below hb1).below hba, ?_, fun e he => ?_, fun q => (by cases q), by rw [List.length_set, hml]⟩, ?_, ?_, rfl⟩
        · have := World.ownsRow_lit (base := w.heap.size) (e := 50) (size := 2) w1 #[.int .i64 (r0 : Int), .slice Bk K2 ck] 1 hbw.size (by unfold maxLen; omega) rfl
          simpa [entsC, entC] using this
        · rw [List.mem_singleton] at he
          subst he
          exact hkr.keep (fun g ⟨c, f, hg⟩ _ => hba.block g (Array.getElem?_eq_some_iff.1 hg).1) (fun _ _ q => q)
        · have e : (fun x => ((List.replicate n false).set r0 true)[x]? = some true) = (· = r0) := by
            rw [mark_iff (by rw [hml]; exact hr)]
            funext x
            apply propext
            rw [List.getElem?_replicate]
            constructor
            · rintro (q | q)
              · split at q <;> cases q
              · exact q
            · exact .inr
          rw [e]
          exact Sh.Dfs.start (fun y => toN_mem hr y)
        · have h5 := left_mark (lo := List.replicate n false) (y := r0) (by rw [List.getElem?_replicate, if_pos hr])
          have h6 : Sh.left (List.replicate n false) = n := by unfold Sh.left; rw [List.countP_replicate, if_pos (by rfl)]
          simp only [List.length_nil, List.length_singleton]
          omega)
      clear HKID hWm h1 h2 hK2 hml
      refine at_world (fun W => Hid (∃ x, KSt w br bs n (EG n L m) r0 (.slice none 0 0) (.slice (some ⟨w1.heap.size, 0, none⟩) 1 1) W x)) HS0 ?_
      clear HS0
      intro W2 HS
      obtain ⟨b2, hb2⟩ : ∃ b, w1.heap.size = b := ⟨_, rfl⟩
      simp only [hb2] at HS ⊢
      clear hb2
      obtain ⟨i0, hi0, hzz⟩ := Option.map_eq_some_iff.1 infoI
      simp only [Prod.mk.injEq] at hzz
      have HIN := Lib.hid (And.intro hi0 hzz)
      clear hi0 hzz
      obtain ⟨i1, hi1, hzz⟩ := Option.map_eq_some_iff.1 infoV
      simp only [Prod.mk.injEq] at hzz
      have HIV := Lib.hid (And.intro hi1 hzz)
      clear hi1 hzz
      go_loopw [8, 10] (fun v8 v10 wr => Hid (∃ x, KSt w br bs n (EG n L m) r0 v8 v10 wr x)) (fun v8 v10 wr => leastM (fun x => KSt w br bs n (EG n L m) r0 v8 v10 wr x))
      case atStart => exact HS
      case round =>
        clear HS
        obtain ⟨x, hx⟩ := hrel.out
        replace hx := leastM_is hx
        clear x hrel
        obtain ⟨wi, rfl⟩ : ∃ wi : World, wi = wr := ⟨_, rfl⟩
        obtain ⟨mu, hmu⟩ : ∃ y, leastM (fun x => KSt w br bs n (EG n L m) r0 u8 u10 wi x) = y := ⟨_, rfl⟩
        have HLM := Lib.hid hmu
        rw [hmu] at hx
        clear hmu
        obtain ⟨lo, P, cp, post, S, cs, st, rfl, rfl, hm, hd, hsum, hmu⟩ := hx
        have HI := Lib.hid (And.intro hm hd)
        have HSUM := Lib.hid hsum
        have HMU := Lib.hid hmu
        have hpn : post.length ≤ 2000 := by omega
        have hsn : st.length ≤ 2000 := by omega
        clear hm hd hsum hmu
        rcases Nat.eq_zero_or_pos st.length with hk0 | hkp
        · obtain rfl : st = [] := List.eq_nil_of_length_eq_zero hk0
          have hdf := HI.out.2
          have hpl : 0 < post.length := by
            rcases hdf.bt with z | ⟨_, l, z⟩
            · simp [Sh.ats, pur] at z
            · rw [z]; simp
          obtain ⟨gP, rfl, _, hgP⟩ := HI.out.1.ps.some_ hpl
          have hpe : (nI post).length = post.length := nI_len post
          obtain ⟨g', cap', hv, _, _, hcap1, hcap2, _, hH⟩ := holds_of_ownsRow (enc := Value.int .i64) HI.out.1.ps (by intro e; cases e)
          injection hv with v1 v2 v3
          injection v1 with v1
          injection v1 with v1
          subst v1
          subst v3
          clear v2
          have HR := Try.slices_Reverse_int gP 0 cp (nI post) wi hH (by rw [hpe]; omega)
          rw [hpe] at HR
          have hgr : gP ≠ br := fun e => HI.out.1.ap (by rw [e]; rfl)
          have HDF := Lib.hid hdf
          clear hdf hH
          go_upto_region 22 with (go_at_call 34; refine HR.mono ?_; rintro e w3 ⟨rfl, nq, hw3⟩; have HW3 := Lib.hid hw3; clear hw3 HR)
          have hod : nI post.reverse = (nI post).reverse := by unfold nI; rw [List.map_reverse]
          have HS3 : Hid (Below w.heap.size w w3 ∧ IL w3 w.heap.size (.slice (some ⟨br, 0, none⟩) n n) (List.replicate n (-1)) ∧ IL w3 w.heap.size (.slice (some ⟨gP, 0, none⟩) post.length cp) (nI post.reverse)) := Lib.hid (by
            rw [HW3.out]
            refine ⟨below_putRow HI.out.1.hb (HI.out.1.ps.lt gP rfl).1, ownsRow_of_block HI.out.1.rk (fun g hg => ?_), ?_⟩
            · have hg' : some br = some g := hg
              injection hg' with hg'
              subst hg'
              simp [putRow, mapBlock, Sort.ahead, Array.getElem?_modify, hgr]
            · have hps := HI.out.1.ps
              unfold IL at hps
              rw [hpe] at hps
              have := ownsRow_putRow (enc := Value.int .i64) (q := nq) (ys := (nI post).reverse) hps (by simp [hpe]) (Nat.le_refl _)
              rw [List.take_of_length_le (by simp [hpe])] at this
              unfold IL
              rw [hod, List.length_reverse, hpe]
              exact this)
          have hpn2 : post.length ≤ n := by have := HSUM.out; omega
          clear HW3 HI HSUM HMU HLM hod
          obtain ⟨od, hod⟩ : ∃ od, post.reverse = od := ⟨_, rfl⟩
          have hol : od.length = post.length := by rw [← hod, List.length_reverse]
          have hnd : od.Nodup := by
            rw [← hod]
            have := HDF.out.nd
            exact (List.reverse_perm post).symm.nodup (by simpa [Sh.ats, pur] using this)
          have hmem : ∀ x, x ∈ od → x < n := fun x hx => by
            rw [← hod, List.mem_reverse] at hx
            have h5 := (HDF.out.sn x).2 (.inl hx)
            exact rc_lt hr (HDF.out.rc x h5)
          rw [hod] at HS3
          have HOD := Lib.hid (And.intro hod (And.intro hnd hmem))
          rw [← hol] at HS3
          simp only [← hol]
          clear hod hnd hmem
          go_wp2_with fail
          go_loopw [99] (fun i wr => ∃ (k : Nat) (rl : List Int), k ≤ od.length ∧ i = .int .i64 k ∧ Hid (Below w.heap.size w wr ∧ IL wr w.heap.size (.slice (some ⟨br, 0, none⟩) n n) rl ∧ IL wr w.heap.size (.slice (some ⟨gP, 0, none⟩) od.length cp) (nI od) ∧ rl.length = n ∧ ∀ j x, j < k → od[j]? = some x → rl[x]? = some (j : Int))) (fun i _ => od.length - (intOf i).toNat)
          case atStart => exact ⟨0, List.replicate n (-1), by omega, rfl, Lib.hid ⟨HS3.out.1, HS3.out.2.1, HS3.out.2.2, List.length_replicate, fun j x hj => by omega⟩⟩
          case round =>
            clear HS3
            obtain ⟨k, rl, hk, rfl, HJ⟩ := hrel
            obtain ⟨wj, rfl⟩ : ∃ wj : World, wj = wr := ⟨_, rfl⟩
            by_cases hlt2 : k < od.length
            · have hltd2 : decide (k < od.length) = true := decide_eq_true hlt2
              have ek : IntKind.i64.wrap ((k : Int) + 1) = (k : Int) + 1 := IntWalk.i64_in _ (by omega)
              obtain ⟨x, hx⟩ : ∃ x, od[k]? = some x := ⟨_, List.getElem?_eq_getElem hlt2⟩
              have hxn : x < n := HOD.out.2.2 x (List.mem_of_getElem? hx)
              have hxd : decide (x < n) = true := decide_eq_true hxn
              have cx := HJ.out.2.2.1.at_ (nI_at hx)
              have cr := HJ.out.2.1.at_ (i := x) (List.getElem?_eq_getElem (by rw [HJ.out.2.2.2.1]; exact hxn))
              have fr := HJ.out.2.1.fz x
              have HX := Lib.hid hx
              clear hx
              go_wp2_with fail
              have h7 : IL (wj.setCell ⟨br, x, none⟩ (.int .i64 (k : Int))) w.heap.size (.slice (some ⟨gP, 0, none⟩) od.length cp) (nI od) := HJ.out.2.2.1.far (p := ⟨br, x, none⟩) (fun e => hgr (Option.some.inj e)) _
              have hfin : Hid (∀ j z, j < k + 1 → od[j]? = some z → (rl.set x (k : Int))[z]? = some (j : Int)) := Lib.hid (fun j z hj hz => by
                have hz2 := HX.out
                rcases Nat.lt_or_ge j k with q | q
                · have hne : x ≠ z := fun e => by
                    subst e
                    have h8 := (List.getElem?_eq_some_iff.1 hz)
                    have h9 := (List.getElem?_eq_some_iff.1 hz2)
                    have := (List.getElem?_inj h8.1 HOD.out.2.1).1 (hz.trans hz2.symm)
                    omega
                  rw [List.getElem?_set_ne hne]
                  exact HJ.out.2.2.2.2 j z q hz
                · obtain rfl : j = k := by omega
                  rw [hz2] at hz
                  cases hz
                  rw [List.getElem?_set_self (by rw [HJ.out.2.2.2.1]; exact hxn)])
              exact ⟨⟨k + 1, rl.set x (k : Int), by omega, by go_num, Lib.hid ⟨HJ.out.1.setCell (HJ.out.2.1.lt br rfl).1 _, HJ.out.2.1.set x _, h7, by rw [List.length_set]; exact HJ.out.2.2.2.1, hfin.out⟩⟩, by simp [intOf]; omega⟩
            · have hltd2 : decide (k < od.length) = false := decide_eq_false hlt2
              obtain rfl : od.length = k := by omega
              go_wp2_with fail
              go_ret2
              have hdone := Sh.Dfs.done (rank := fun x => (od.findIdx (fun y => y == x))) (post := post) (show Sh.Dfs (EG n L m) r0 [] post _ from HDF.out) (fun j x hj => by
                rw [HOD.out.1] at hj
                obtain ⟨h8, h9⟩ := List.getElem?_eq_some_iff.1 hj
                rw [List.findIdx_eq h8]
                refine ⟨by simp [h9], fun i hi => ?_⟩
                have h10 : i < od.length := by omega
                have : od[i] ≠ x := fun e => by
                  have := (List.getElem?_inj h10 HOD.out.2.1).1 (((List.getElem?_eq_getElem h10).trans (congrArg some e)).trans hj.symm)
                  omega
                simpa using this)
              rw [HOD.out.1] at hdone
              refine ⟨od, _, rl, gP, cp, br, rfl, HJ.out.2.2.1, HJ.out.2.1, hgr, hdone.1, HJ.out.2.2.2.1, fun x hx => ?_, by omega, HJ.out.1⟩
              have h8 := hdone.1.at_ x hx
              exact HJ.out.2.2.2.2 _ x (List.getElem?_eq_some_iff.1 h8).1 h8
        · obtain ⟨st', e, rfl⟩ := snoc_ex hkp
          obtain ⟨a, K, len, kc, ks⟩ := e
          obtain ⟨q, hq⟩ : ∃ q, st'.length = q := ⟨_, rfl⟩
          have hq2 : (st' ++ [(⟨a, K, len, kc, ks⟩ : Ent)]).length = q + 1 := by simp [hq]
          have hsk := HI.out.1.sk
          rw [hq2] at hsk hsn
          have hlm2 := HLM.out
          rw [hq2] at hlm2
          have HLM2 := Lib.hid hlm2
          clear hlm2 HLM
          obtain ⟨gs, rfl⟩ : ∃ gs, S = some ⟨gs, 0, none⟩ := by
            rcases hsk.2 with ⟨z, _⟩ | ⟨g, c', cur, z, _⟩
            · injection z with z1 z2 z3; omega
            · injection z with z1 z2 z3; exact ⟨g, z1⟩
          have hcell : ∀ f, f < 2 → wi.cell? ⟨gs, q * 2 + f, none⟩ = (entC ⟨a, K, len, kc, ks⟩)[f]? := by
            intro f hf
            rw [World.ownsRow.cellAt hsk (q * 2 + f) (by omega), entsC_app, List.getElem?_append_right (by rw [entsC_len, hq]; omega), entsC_len, hq, Nat.add_sub_cancel_left]
          have c0 : wi.cell? ⟨gs, q * 2, none⟩ = some (.int .i64 (a : Int)) := hcell 0 (by omega)
          have c1 : wi.cell? ⟨gs, q * 2 + 1, none⟩ = some (.slice K len kc) := hcell 1 (by omega)
          have c1f : wi.frozen? ⟨gs, q * 2 + 1, none⟩ = false := World.ownsRow.frozenAt hsk _
          obtain ⟨hcs1, hcs2⟩ : q + 1 ≤ cs ∧ cs ≤ 9223372036854775807 := by
            rcases hsk.2 with ⟨z, _⟩ | ⟨g, c', cur, z, _, _, z1, z2, _⟩
            · cases z
            · injection z with z3 z4 z5
              unfold maxLen at z2
              omega
          have hkr := HI.out.1.kd ⟨a, K, len, kc, ks⟩ (by simp)
          have HKR := Lib.hid hkr
          have hlk : len ≤ kc := hkr.2.1
          have hkc2 : kc ≤ 9223372036854775807 := hkr.2.2.1
          have hksl : ks.length = len := hkr.1
          clear hsk hcell hkr
          have eq1 : IntKind.i64.wrap ((q : Int) + 1 - 1) = (q : Int) := by rw [IntWalk.i64_in _ (by omega)]; omega
          have eq2 : IntKind.i64.wrap (((q + 1 : Nat) : Int) - 1) = (q : Int) := by rw [IntWalk.i64_in _ (by omega)]; omega
          have HQ := Lib.hid hq
          simp only [hq2]
          clear hq hq2
          rcases Nat.eq_zero_or_pos len with hl0 | hlp
          · subst hl0
            obtain rfl : ks = [] := List.eq_nil_of_length_eq_zero hksl
            have HOT : Hid ((wi.alloc (.cells #[.int .i64 (a : Int)] 3)).ownsRow w.heap.size 3 1 (.slice P post.length cp) post.length ((nI post).map (Value.int .i64))) := Lib.hid (by
              have := (HI.out.1.below ((Below.refl _ _).alloc (Nat.le_refl _) (.cells #[.int .i64 (a : Int)] 3))).ps
              unfold IL at this
              rw [nI_len] at this
              exact this)
            go_wp2_with (at_builtin; refine wpList_append_own_at _ (by rfl) (.tmp 53) (.tmp 58) 25 (by rfl) w.heap.size 3 i0 (.int .i64 0) 1 8 Try.underlying25 HIN.out.1 HIN.out.2.1 HIN.out.2.2.1 HIN.out.2.2.2 rfl (by omega) (.slice P post.length cp) post.length ((nI post).map (Value.int .i64)) (by rfl) HOT.out ⟨wi.heap.size, 0, none⟩ 1 1 [.int .i64 (a : Int)] (by rfl) rfl (by have := tok_bd wi #[.int .i64 (a : Int)] 3; simpa using this) (by intro u hu; rw [List.mem_singleton] at hu; subst hu; rfl) (by unfold maxLen; omega) (by omega) (by have := HI.out.1.hb.size; simp; omega) ?_; intro v' w5 hown hg hnil hat; clear hnil; have hpush := HI.out.1.post hown hg hat; obtain ⟨P2, c2, rfl, hj⟩ := hpush; have HJ := Lib.hid hj.popS; clear hj hown hg hat HOT)
            have hdf := HI.out.2
            rw [pur_app] at hdf
            have hsum2 := HSUM.out
            have hmu2 := HMU.out
            rw [lenSum_app] at hmu2
            simp only [List.length_append, List.length_singleton] at hsum2 hmu2
            try dsimp only at hmu2
            have HK2 : Hid (KSt w br bs n (EG n L m) r0 (.slice P2 (post.length + 1) c2) (.slice (some ⟨gs, 0, none⟩) st'.length cs) w5 (Sh.left lo * 1000002 + lenSum st' + st'.length)) := Lib.hid ⟨lo, P2, c2, post ++ [a], _, cs, st', by simp, rfl, HJ.out, hdf.pop, by simp only [List.length_append, List.length_singleton]; omega, rfl⟩
            rw [HQ.out] at HK2
            exact ⟨Lib.hid ⟨_, HK2.out⟩, Nat.lt_of_le_of_lt (leastM_le HK2.out) (by rw [HLM2.out]; have := HQ.out; omega)⟩
          · obtain ⟨len, rfl⟩ : ∃ l, len = l + 1 := ⟨len - 1, by omega⟩
            obtain ⟨y, ks, rfl⟩ : ∃ y k, ks = y :: k := by cases ks with | nil => simp at hksl | cons y k => exact ⟨y, k, rfl⟩
            obtain ⟨gk, ok, rfl, _, _, _, hkc⟩ := HKR.out.2.2.2 (by simp only; omega)
            have cy : wi.cell? ⟨gk, ok, none⟩ = some (.int .i64 (y : Int)) := hkc 0 y rfl
            have hEa : EG n L m a y := (HI.out.2.kd (a, y :: ks) (by rw [pur_app]; simp)).2 y (by simp)
            have hy : y < n := hEa.2.1
            have hyd : decide (y < n) = true := decide_eq_true hy
            have hcut := HI.out.1.cut
            rw [HQ.out, show (if kc = 1 then some (⟨gk, ok, none⟩ : Addr) else (some (⟨gk, ok, none⟩ : Addr)).map (·.add 1)) = (if kc = 1 then some ⟨gk, ok, none⟩ else some ⟨gk, ok + 1, none⟩) from by simp [add_plain]] at hcut
            have hdf := HI.out.2
            rw [pur_app] at hdf
            have HDF := Lib.hid hdf
            have hsum2 := HSUM.out
            have hmu2 := HMU.out
            rw [lenSum_app] at hmu2
            simp only [List.length_append, List.length_singleton] at hsum2 hmu2
            try dsimp only at hmu2
            rw [HQ.out] at hsum2 hmu2
            have HCUT := Lib.hid hcut
            have HEA := Lib.hid hEa
            clear hcut hdf hEa hkc hlk hkc2 hksl
            go_upto_region 18 with fail
            refine at_world (fun W => Hid (∃ K' kc', DM w W br bs n lo P cp post (some ⟨gs, 0, none⟩) cs (st' ++ [⟨a, K', len, kc', ks⟩]))) (Lib.hid ⟨_, _, HCUT.out⟩) ?_
            clear HCUT HI HKR c0 c1 c1f cy HMU HSUM
            intro W7 hM7
            obtain ⟨K', kc', hM7⟩ := hM7.out
            have HM7 := Lib.hid hM7
            obtain ⟨X, hX⟩ : ∃ X, lo[y]? = some X := ⟨_, List.getElem?_eq_getElem (by rw [hM7.ln]; exact hy)⟩
            have cX := hM7.sn.at_ hX
            have fX := hM7.sn.fz y
            clear hM7
            cases X
            · have HX := Lib.hid hX
              clear hX
              have HTO := to_c A0 n cap L m y (W7.setCell ⟨bs, y, none⟩ (.bool true)) (HG.out.below (HM7.out.mark y).hb) hy (HL.out y hy)
              have HMM := Lib.hid (HM7.out.mark y)
              go_wp2_with (first | (go_at_call 24; refine HTO.mono ?_; rintro e w8 ⟨Bk, ck, rfl, hkid, hbt⟩; have HKID := Lib.hid (And.intro hkid hbt); obtain ⟨K3, hK3⟩ : ∃ K3, (toL n L m y).length = K3 := ⟨_, rfl⟩; have hK3b : K3 ≤ 1000000 := (by rw [← hK3]; exact Nat.le_trans toL_len (HL.out y hy)); have HK3 := Lib.hid hK3; rw [hK3] at HKID; simp only [hK3]; clear hkid hbt HTO hK3) | (at_builtin; have HM8 := Lib.hid (HMM.out.below HKID.out.2); have HOT : Hid ((w8.alloc (.cells #[.int .i64 (y : Int), .slice Bk K3 ck] 50)).ownsRow w.heap.size 50 2 (.slice (some ⟨gs, 0, none⟩) (q + 1) cs) (q + 1) (entsC (st' ++ [⟨a, K', len, kc', ks⟩]))) := Lib.hid (by have := (HM8.out.below ((Below.refl _ _).alloc (Nat.le_refl _) (.cells #[.int .i64 (y : Int), .slice Bk K3 ck] 50))).sk; simp only [List.length_append, List.length_singleton] at this; rw [HQ.out] at this; exact this); refine wpList_append_own_at _ (by rfl) (.tmp 87) (.tmp 93) 51 (by rfl) w.heap.size 50 i1 (.agg #[.int .i64 0, .slice none 0 0]) 2 32 Try.underlying51 HIV.out.1 HIV.out.2.1 HIV.out.2.2.1 HIV.out.2.2.2 rfl (by omega) (.slice (some ⟨gs, 0, none⟩) (q + 1) cs) (q + 1) (entsC (st' ++ [⟨a, K', len, kc', ks⟩])) (by rfl) HOT.out ⟨w8.heap.size, 0, none⟩ 1 1 [.int .i64 (y : Int), .slice Bk K3 ck] (by rfl) rfl (tok_bd w8 #[.int .i64 (y : Int), .slice Bk K3 ck] 50) (by intro u hu; simp only [List.mem_cons, List.not_mem_nil, or_false] at hu; rcases hu with rfl | rfl <;> rfl) (by unfold maxLen; omega) (by omega) (by have := HM8.out.hb.size; simp; omega) ?_; intro v' w9 hown hg hnil hat; clear hnil hat; have hkr : KR w8 w.heap.size (fun g => (Value.slice P post.length cp).ownBlock = some g) ⟨y, Bk, K3, ck, toN n L m y⟩ := (by have h1 := IL.kr (a := y) (NP := fun g => (Value.slice P post.length cp).ownBlock = some g) (t := toN n L m y) (by rw [toN_nI]; exact HKID.out.1) (by rw [toN_len]; exact HK3.out) (fun g hg q => by have := (HMM.out.ps.lt g q).2; omega); exact ⟨h1.1, h1.2.1, h1.2.2.1, fun h0 => (by obtain ⟨g, o, z1, z2, z3⟩ := h1.2.2.2 h0; exact ⟨g, o, z1, Nat.le_trans HMM.out.hb.size z2, z3⟩)⟩); have hown2 : w9.ownsRow w.heap.size 50 2 v' ((st' ++ [(⟨a, K', len, kc', ks⟩ : Ent)]).length + 1) (entsC (st' ++ [⟨a, K', len, kc', ks⟩]) ++ entC ⟨y, Bk, K3, ck, toN n L m y⟩) := (by simp only [List.length_append, List.length_singleton]; rw [HQ.out]; exact hown); have hg2 : (w8.alloc (.cells #[.int .i64 (y : Int), .slice Bk K3 ck] 50)).grownBy w9 (Value.slice (some ⟨gs, 0, none⟩) (st' ++ [(⟨a, K', len, kc', ks⟩ : Ent)]).length cs).ownBlock := hg; have hpush := HM8.out.push hkr hown2 hg2; obtain ⟨S2, c2, rfl, hj⟩ := hpush; have HJ := Lib.hid hj; clear hj hown hown2 hg hg2 hkr HOT))
              have hnew := HDF.out.push (fun h => by rw [HX.out] at h; cases h) (fun z => toN_mem hy z)
              rw [← mark_iff (by rw [HM7.out.ln]; exact hy)] at hnew
              have hlm := left_mark HX.out
              have hq1 := HQ.out
              have HK2 : Hid (KSt w br bs n (EG n L m) r0 (.slice P post.length cp) (.slice S2 (q + 1 + 1) c2) w9 (Sh.left (lo.set y true) * 1000002 + (lenSum st' + len + K3) + (q + 1 + 1))) := Lib.hid ⟨lo.set y true, P, cp, post, S2, c2, st' ++ [⟨a, K', len, kc', ks⟩] ++ [⟨y, Bk, K3, ck, toN n L m y⟩], rfl, by simp [hq1], HJ.out, by rw [pur_app, pur_app]; exact hnew, by simp only [List.length_append, List.length_singleton]; omega, by rw [lenSum_app, lenSum_app]; simp only [List.length_append, List.length_singleton]; (try dsimp only); omega⟩
              clear hnew
              have hle := leastM_le HK2.out
              have hfin : leastM (fun x => KSt w br bs n (EG n L m) r0 (.slice P post.length cp) (.slice S2 (q + 1 + 1) c2) w9 x) < mu := Nat.lt_of_le_of_lt (leastM_le HK2.out) (by omega)
              have hex : Hid (∃ x, KSt w br bs n (EG n L m) r0 (.slice P post.length cp) (.slice S2 (q + 1 + 1) c2) w9 x) := Lib.hid ⟨_, HK2.out⟩
              simp only [List.length_append, List.length_singleton, hq1]
              exact ⟨hex, by rw [HLM2.out]; exact hfin⟩
            · have HX := Lib.hid hX
              clear hX
              go_wp2_with fail
              have hnew := HDF.out.skip HX.out
              have hq1 := HQ.out
              have HK2 : Hid (KSt w br bs n (EG n L m) r0 (.slice P post.length cp) (.slice (some ⟨gs, 0, none⟩) (q + 1) cs) W7 (Sh.left lo * 1000002 + (lenSum st' + len) + (q + 1))) := Lib.hid ⟨lo, P, cp, post, some ⟨gs, 0, none⟩, cs, st' ++ [⟨a, K', len, kc', ks⟩], rfl, by simp [hq1], HM7.out, by rw [pur_app]; exact hnew, by simp only [List.length_append, List.length_singleton]; omega, by rw [lenSum_app]; simp only [List.length_append, List.length_singleton]; (try dsimp only); omega⟩
              have hle := leastM_le HK2.out
              exact ⟨Lib.hid ⟨_, HK2.out⟩, by rw [HLM2.out]; exact Nat.lt_of_le_of_lt (leastM_le HK2.out) (by omega)⟩
end Go.Proofs.Ytacdeollnhkckaa.C
