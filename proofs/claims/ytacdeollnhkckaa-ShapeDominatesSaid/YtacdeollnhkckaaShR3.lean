/- The reference's Reach and without: walks (printed by gen_shr3.py). -/
import Derived.Test.YtacdeollnhkckaaShR2
namespace Go.Proofs.Ytacdeollnhkckaa.C
open Go.Shelf Go.RowKit Go.Lib Go.Sort
set_option linter.unusedSimpArgs false
set_option linter.unusedVariables false
/-- What is left of a row, as nodes. -/
def restN (n : Nat) (L : Nat → Nat) (m : Nat → Nat → Int) (a j : Nat) : List Nat := (((rowL L m a).drop j).filter (fun x => !outB n x)).map Int.toNat
theorem restN_out {n : Nat} {L : Nat → Nat} {m : Nat → Nat → Int} {a j : Nat} (hj : j < L a) (h : outB n (m a j) = true) : restN n L m a j = restN n L m a (j + 1) := by
  have hl : (rowL L m a).length = L a := by unfold rowL; simp
  unfold restN
  rw [List.drop_eq_getElem_cons (by omega), List.filter_cons_of_neg]
  have : (rowL L m a)[j]'(by omega) = m a j := by unfold rowL; simp
  rw [this, h]; simp
theorem restN_in {n : Nat} {L : Nat → Nat} {m : Nat → Nat → Int} {a j y : Nat} (hj : j < L a) (h : m a j = (y : Int)) (hy : y < n) : restN n L m a j = y :: restN n L m a (j + 1) := by
  have hl : (rowL L m a).length = L a := by unfold rowL; simp
  unfold restN
  rw [List.drop_eq_getElem_cons (by omega), List.filter_cons_of_pos]
  · have : (rowL L m a)[j]'(by omega) = m a j := by unfold rowL; simp
    rw [this, h]
    simp
  · have : (rowL L m a)[j]'(by omega) = m a j := by unfold rowL; simp
    rw [this, h]
    unfold outB
    simp; omega
theorem restN_end {n : Nat} {L : Nat → Nat} {m : Nat → Nat → Int} {a : Nat} : restN n L m a (L a) = [] := by
  have hl : (rowL L m a).length = L a := by unfold rowL; simp
  unfold restN
  rw [List.drop_of_length_le (by omega)]; rfl
theorem restN_zero {n : Nat} {L : Nat → Nat} {m : Nat → Nat → Int} {a : Nat} : restN n L m a 0 = toN n L m a := rfl
/-- The state of the inner loop. -/
structure RIb (w wr : World) (b n : Nat) (E : Nat → Nat → Prop) (Q : Nat → Prop) (r a : Nat) (lo : List Bool) (A : Option Addr) (k c : Nat) (t ks : List Nat) (M : Nat) : Prop where
  st : RSt w wr b n lo A k c t
  rs : Sh.RSi E Q r (fun x => lo[x]? = some true) t a ks
  me : Sh.left lo + k = M
theorem RIb.skip {w wr : World} {b n : Nat} {E : Nat → Nat → Prop} {Q : Nat → Prop} {r a : Nat} {lo : List Bool} {A : Option Addr} {k c : Nat} {t ks : List Nat} {M y : Nat} (h : RIb w wr b n E Q r a lo A k c t (y :: ks) M) (hy : lo[y]? = some true ∨ ¬ Q y) : RIb w wr b n E Q r a lo A k c t ks M :=
  ⟨h.st, h.rs.skip hy, h.me⟩
theorem RIb.push {w wr w2 : World} {b n : Nat} {E : Nat → Nat → Prop} {Q : Nat → Prop} {r a : Nat} {lo : List Bool} {A : Option Addr} {k c : Nat} {t ks : List Nat} {M y : Nat} {O : Obj} {V : Value} (h : RIb w wr b n E Q r a lo A k c t (y :: ks) M) (hy : y < n) (hl : lo[y]? = some false) (he : E a y) (hq : Q y)
    (hown : w2.ownsRow w.heap.size 3 1 V (k + 1) ((nI t).map (Value.int .i64) ++ [.int .i64 (y : Int)])) (hg : ((wr.setCell ⟨b, y, none⟩ (.bool true)).alloc O).grownBy w2 (Value.slice A k c).ownBlock) :
    ∃ A2 c2, V = .slice A2 (k + 1) c2 ∧ RIb w w2 b n E Q r a (lo.set y true) A2 (k + 1) c2 (t ++ [y]) ks M := by
  obtain ⟨A2, c2, rfl, hs⟩ := (h.st.mark y).snoc hy hown hg
  refine ⟨A2, c2, rfl, hs, ?_, ?_⟩
  · rw [mark_iff (by rw [h.st.ln]; exact hy)]
    exact h.rs.push he hq
  · have := left_mark hl
    have := h.me
    omega
theorem RIb.below {w wr w' : World} {b n : Nat} {E : Nat → Nat → Prop} {Q : Nat → Prop} {r a : Nat} {lo : List Bool} {A : Option Addr} {k c : Nat} {t ks : List Nat} {M : Nat} (h : RIb w wr b n E Q r a lo A k c t ks M) (hb : Below wr.heap.size wr w') : RIb w w' b n E Q r a lo A k c t ks M := ⟨h.st.below hb, h.rs, h.me⟩
theorem fits_c (A : Option Addr) (n cap : Nat) (r : Int) (w : World) (hn : n ≤ 2000) : Calls Try.prog 26 #[.slice A n cap, .int .i64 r] w fun e w' => e = .returned (.bool (decide (0 ≤ r) && decide (r < n))) ∧ w = w' := by
  have hd : decide (n ≤ 2000) = true := decide_eq_true hn
  by_cases h1 : 0 ≤ r
  · have hd1 : decide (0 ≤ r) = true := decide_eq_true h1
    by_cases h2 : r < n
    · have hd2 : decide (r < (n : Int)) = true := decide_eq_true h2
      go_enter Try.func26, Try.ntmps26
      go_wp2
      go_ret
      exact ⟨by simp_all, rfl⟩
    · have hd2 : decide (r < (n : Int)) = false := decide_eq_false h2
      go_enter Try.func26, Try.ntmps26
      go_wp2
      go_ret
      exact ⟨by simp_all, rfl⟩
  · have hd1 : decide (0 ≤ r) = false := decide_eq_false h1
    go_enter Try.func26, Try.ntmps26
    go_wp2
    go_ret
    exact ⟨by simp_all, rfl⟩
set_option maxRecDepth 100000 in
set_option maxHeartbeats 6400000 in
theorem rreach_c (A0 : Option Addr) (n cap : Nat) (L : Nat → Nat) (m : Nat → Nat → Int) (r : Int) (w : World) (hG : GR w A0 n L m) (hn : n ≤ 2000) (hL : ∀ a, a < n → L a ≤ 1000000) :
    Calls Try.prog 12 #[.slice A0 n cap, .int .i64 r] w (ReachPost (rcL n (EG n L m) (fun _ => True) r) w) := by
  have hmk := fun W => run_make_row' (P := Try.prog) 27 4 (.bool false) 1 Try.underlying27 infoB rfl .i64 .i64 n (by omega) (by omega) W
  have hn1 : decide (2000 < n) = false := decide_eq_false (by omega)
  by_cases h0 : 0 ≤ r ∧ r < n
  rotate_left
  · have hfin : rcL n (EG n L m) (fun _ => True) r = List.replicate n false := rcL_no h0
    have HF := Lib.hid hfin
    clear hfin
    have hFT := fits_c A0 n cap r
    rw [show (decide (0 ≤ r) && decide (r < (n : Int))) = false from by rw [Bool.and_eq_false_iff]; simp only [decide_eq_false_iff_not]; omega] at hFT
    go_enter Try.func12, Try.ntmps12
    go_wp2_with (go_at_call 26; refine (hFT _ hn).mono ?_; rintro e w' ⟨rfl, rfl⟩)
    go_ret
    refine ⟨w.heap.size, n, by rw [rcL_len]; rfl, ?_, (by repeat' (first | exact Below.refl _ _ | (refine Below.alloc ?_ ?_ _) | (refine Below.setCell ?_ ?_ _) | (refine Below.drew ?_) | (refine below_next ?_ ?_ (by assumption)) | omega | (simp; done) | (simp; omega)))⟩
    rw [HF.out, List.length_replicate]
    exact made_bools w n (by omega)
  obtain ⟨r0, rfl⟩ := Int.eq_ofNat_of_zero_le h0.1
  have hr : r0 < n := by omega
  clear h0
  have hFT := fits_c A0 n cap (r0 : Int)
  rw [show (decide (0 ≤ (r0 : Int)) && decide ((r0 : Int) < (n : Int))) = true from by rw [Bool.and_eq_true]; simp only [decide_eq_true_eq]; omega] at hFT
  obtain ⟨ad, R, Cp, rfl, h1, h2, h3⟩ := hG.2 (by omega)
  have hrow : ∀ i, i < n → w.cell? (ad.add i) = some (.slice (R i) (L i) (Cp i)) := fun i hi => (h1 i hi).1
  have HR := Lib.hid hrow
  have HRC := Lib.hid h3
  have HL := Lib.hid hL
  clear h1 h2 h3 hG hL hrow
  go_enter Try.func12, Try.ntmps12
  go_upto_region 4 with fail
  refine at_world (fun W => Hid (Below w.heap.size w W ∧ BL' W w.heap.size (.slice (some ⟨w.heap.size, 0, none⟩) n n) (List.replicate n false))) (Lib.hid ⟨(by repeat' (first | exact Below.refl _ _ | (refine Below.alloc ?_ ?_ _) | (refine Below.setCell ?_ ?_ _) | (refine Below.drew ?_) | (refine below_next ?_ ?_ (by assumption)) | omega | (simp; done) | (simp; omega))), made_bools w n (by omega)⟩) ?_
  intro W1 H1
  obtain ⟨b, hb⟩ : ∃ b, w.heap.size = b := ⟨_, rfl⟩
  have HBb := Lib.hid hb
  have h1 : W1.cell? ⟨b, r0, none⟩ = some (.bool false) := by rw [← hb]; exact H1.out.2.at_ (by rw [List.getElem?_replicate, if_pos hr])
  have h2 : W1.frozen? ⟨b, r0, none⟩ = false := by rw [← hb]; exact H1.out.2.fz r0
  simp only [hb]
  clear hb hmk
  have HS : Hid (∃ lo A k c t, (Value.slice (some ⟨W1.heap.size, 0, none⟩) 1 1) = .slice A k c ∧ RSt w ((W1.setCell ⟨b, r0, none⟩ (.bool true)).alloc (.cells #[.int .i64 r0] 3)) b n lo A k c t ∧ Sh.RS (EG n L m) (fun _ => True) r0 (fun x => lo[x]? = some true) t ∧ Sh.left lo + k ≤ n) := Lib.hid (by
    have hB := HBb.out
    subst hB
    have hge := H1.out.1.size
    have hml : (List.replicate n false).length = n := List.length_replicate
    refine ⟨(List.replicate n false).set r0 true, _, _, _, [r0], rfl, ⟨(H1.out.1.setCell (p := ⟨w.heap.size, r0, none⟩) (Nat.le_refl _) _).alloc (by simp; exact hge) _, (H1.out.2.set r0 true).below ((Below.refl _ _).alloc (Nat.le_refl _) _), ?_, rfl, by rw [List.length_set, hml], fun x hx => by rw [List.mem_singleton] at hx; omega⟩, ?_, ?_⟩
    · have := World.ownsRow_lit (base := w.heap.size) (e := 3) (size := 1) (W1.setCell ⟨w.heap.size, r0, none⟩ (.bool true)) #[.int .i64 (r0 : Int)] 1 (by simp; exact hge) (by unfold maxLen; omega) rfl
      unfold IL nI
      simpa using this
    · have e : (fun x => ((List.replicate n false).set r0 true)[x]? = some true) = (· = r0) := by
        rw [mark_iff (by rw [hml]; exact hr)]
        funext x
        apply propext
        rw [List.getElem?_replicate]
        constructor
        · rintro (q | q)
          · split at q <;> cases q
          · exact q
        · exact .inr
      rw [e]
      exact Sh.RS.start trivial
    · have h5 := left_mark (lo := List.replicate n false) (y := r0) (by rw [List.getElem?_replicate, if_pos hr])
      have h6 : Sh.left (List.replicate n false) = n := by unfold Sh.left; rw [List.countP_replicate, if_pos (by rfl)]
      omega)
  clear H1
  go_wp2_with (go_at_call 26; refine (hFT _ hn).mono ?_; rintro e w' ⟨rfl, rfl⟩)
  refine at_world (fun W => Hid (∃ lo A k c t, (Value.slice (some ⟨W1.heap.size, 0, none⟩) 1 1) = .slice A k c ∧ RSt w W b n lo A k c t ∧ Sh.RS (EG n L m) (fun _ => True) r0 (fun x => lo[x]? = some true) t ∧ Sh.left lo + k ≤ n)) HS ?_
  clear HS hFT
  intro W2 HS
  obtain ⟨b2, hb2⟩ : ∃ b, W1.heap.size = b := ⟨_, rfl⟩
  simp only [hb2] at HS ⊢
  clear hb2 h1 h2
  obtain ⟨i0, hi0, hzz⟩ := Option.map_eq_some_iff.1 infoI
  simp only [Prod.mk.injEq] at hzz
  have HIN := Lib.hid (And.intro hi0 hzz)
  clear hi0 hzz
  go_loopw [6] (fun td wr => Hid (∃ lo A k c t, td = .slice A k c ∧ RSt w wr b n lo A k c t ∧ Sh.RS (EG n L m) (fun _ => True) r0 (fun x => lo[x]? = some true) t ∧ Sh.left lo + k ≤ n)) (fun td wr => C.unm wr b n + lenV td)
  case atStart => exact HS
  case round =>
    clear HS
    obtain ⟨lo, A, k, c, t, htd, hst, hrs, hM⟩ := hrel.out
    subst htd
    clear hrel
    have hk := hst.hk
    have hun := hst.unm
    have HI := Lib.hid (And.intro hst hrs)
    have HUN := Lib.hid hun
    clear hst hrs hun
    obtain ⟨wo, rfl⟩ : ∃ wo : World, wo = wr := ⟨_, rfl⟩
    rcases Nat.eq_zero_or_pos k with hk0 | hkp
    · subst hk0
      obtain rfl : t = [] := List.eq_nil_of_length_eq_zero hk
      have hlo : lo = rcL n (EG n L m) (fun _ => True) (r0 : Int) := rcL_of HI.out.1.ln hr (fun i hi => HI.out.2.done i)
      go_wp2_with fail
      go_ret
      have hob := HI.out.1.ob
      rw [hlo] at hob
      exact ⟨b, n, by rw [rcL_len]; rfl, by rw [rcL_len]; exact hob, HI.out.1.hb⟩
    · obtain ⟨K, rfl⟩ : ∃ K, k = K + 1 := ⟨k - 1, by omega⟩
      obtain ⟨t', a, rfl⟩ := snoc_ex (t := t) (by omega)
      have hk' : t'.length = K := by simpa using hk
      clear hk
      have ha : a < n := HI.out.1.lt a (by simp)
      have had : decide (a < n) = true := decide_eq_true ha
      obtain ⟨g, rfl, _, _⟩ := HI.out.1.ot.some_ (by omega)
      have ca : wo.cell? ⟨g, K, none⟩ = some (.int .i64 a) := HI.out.1.ot.at_ (nI_at (by rw [List.getElem?_append_right (by omega), hk']; simp))
      obtain ⟨hcK, hKn, _⟩ := HI.out.1.ot.cap
      have eK : IntKind.i64.wrap ((K : Int) + 1 - 1) = (K : Int) := by rw [IntWalk.i64_in _ (by omega)]; omega
      have eK2 : IntKind.i64.wrap (((K + 1 : Nat) : Int) - 1) = (K : Int) := by rw [IntWalk.i64_in _ (by omega)]; omega
      go_upto_region 12 with fail
      have hLa : L a ≤ 1000000 := HL.out a ha
      have HJ0 : Hid (RIb w wo b n (EG n L m) (fun _ => True) r0 a lo (some ⟨g, 0, none⟩) K c t' (restN n L m a 0) (Sh.left lo + K)) := Lib.hid ⟨HI.out.1.pop, by rw [restN_zero]; exact HI.out.2.pop (fun y hy => (toN_mem ha y).2 hy), rfl⟩
      clear HI ca
      go_loopw [6, 8] (fun td i wr => ∃ (j k c : Nat) (A : Option Addr) (lo' : List Bool) (t : List Nat), j ≤ L a ∧ i = .int .i64 j ∧ td = .slice A k c ∧ Hid (RIb w wr b n (EG n L m) (fun _ => True) r0 a lo' A k c t (restN n L m a j) (Sh.left lo + K))) (fun _ i _ => L a - (intOf i).toNat)
      case atStart => exact ⟨0, K, c, _, lo, t', by omega, rfl, rfl, HJ0⟩
      case round =>
        clear HJ0
        obtain ⟨j, k, c, A, lo', t, hj, rfl, rfl, HJ⟩ := hrel
        obtain ⟨wi, rfl⟩ : ∃ wi : World, wi = wr := ⟨_, rfl⟩
        have crow := cell_later HJ.out.st.hb (HR.out a ha)
        obtain ⟨La, hLa'⟩ : ∃ x, L a = x := ⟨_, rfl⟩
        obtain ⟨Ra, hRa⟩ : ∃ x, R a = x := ⟨_, rfl⟩
        obtain ⟨Ca, hCa⟩ : ∃ x, Cp a = x := ⟨_, rfl⟩
        have HLa := Lib.hid hLa'
        rw [hLa', hRa, hCa] at crow
        rw [hLa'] at hj hLa
        simp only [hLa']
        clear hLa' hCa
        by_cases hlt : j < La
        · have hltd : decide (j < La) = true := decide_eq_true hlt
          have ej : IntKind.i64.wrap ((j : Int) + 1) = (j : Int) + 1 := IntWalk.i64_in _ (by omega)
          obtain ⟨rr, hrr, cv⟩ := HRC.out a j ha (by rw [HLa.out]; exact hlt)
          rw [hRa] at hrr
          subst hrr
          replace cv := cell_later HJ.out.st.hb cv
          obtain ⟨v, hv⟩ : ∃ v, m a j = v := ⟨_, rfl⟩
          rw [hv] at cv
          have HV := Lib.hid hv
          clear hRa hv
          by_cases hv0 : v < 0
          · have hvd : decide (0 ≤ v) = false := decide_eq_false (by omega)
            have HJ3 : Hid (RIb w wi b n (EG n L m) (fun _ => True) r0 a lo' A k c t (restN n L m a (j + 1)) (Sh.left lo + K)) := Lib.hid (by have h := HJ.out; rw [restN_out (by rw [HLa.out]; exact hlt) (by rw [HV.out]; unfold outB; rw [decide_eq_true hv0]; rfl)] at h; exact h)
            go_wp2_with fail
            exact ⟨⟨j + 1, k, c, A, lo', t, by omega, by go_num, rfl, HJ3⟩, by simp [intOf]; omega⟩
          have hvd : decide (0 ≤ v) = true := decide_eq_true (by omega)
          by_cases hvn : (n : Int) ≤ v
          · have hvd2 : decide (v < (n : Int)) = false := decide_eq_false (by omega)
            have HJ3 : Hid (RIb w wi b n (EG n L m) (fun _ => True) r0 a lo' A k c t (restN n L m a (j + 1)) (Sh.left lo + K)) := Lib.hid (by have h := HJ.out; rw [restN_out (by rw [HLa.out]; exact hlt) (by rw [HV.out]; unfold outB; rw [decide_eq_true hvn, Bool.or_true])] at h; exact h)
            go_wp2_with fail
            exact ⟨⟨j + 1, k, c, A, lo', t, by omega, by go_num, rfl, HJ3⟩, by simp [intOf]; omega⟩
          have hvd2 : decide (v < (n : Int)) = true := decide_eq_true (by omega)
          obtain ⟨y, rfl⟩ := Int.eq_ofNat_of_zero_le (show 0 ≤ v by omega)
          have hy : y < n := by omega
          have hyd : decide (y < n) = true := decide_eq_true hy
          have HE : Hid (EG n L m a y) := Lib.hid ⟨ha, hy, j, by rw [HLa.out]; exact hlt, HV.out⟩
          rw [restN_in (by rw [HLa.out]; exact hlt) HV.out hy] at HJ
          have HQ : Hid True := Lib.hid trivial
          obtain ⟨X, hX⟩ : ∃ X, lo'[y]? = some X := ⟨_, List.getElem?_eq_getElem (by rw [HJ.out.st.ln]; exact hy)⟩
          have cX := HJ.out.st.ob.at_ hX
          have fX := HJ.out.st.ob.fz y
          have hkc := HJ.out.st.ot.cap
          have hkM := HJ.out.me
          have hk1 := HJ.out.st.hk
          cases X
          · have HOT : Hid (((wi.setCell ⟨b, y, none⟩ (.bool true)).alloc (.cells #[.int .i64 (y : Int)] 3)).ownsRow w.heap.size 3 1 (.slice A k c) k ((nI t).map (Value.int .i64))) := Lib.hid (by
              have := ((HJ.out.st.mark y).below ((Below.refl _ _).alloc (Nat.le_refl _) (.cells #[.int .i64 (y : Int)] 3))).ot
              unfold IL at this
              rw [nI_len, hk1] at this
              exact this)
            have hk30 : k ≤ 1000000 := by omega
            have HX := Lib.hid hX
            clear hkc hkM hk1 hX
            go_wp2_with (at_builtin; refine wpList_append_own_at _ (by rfl) (.tmp 74) (.tmp 76) 25 (by rfl) w.heap.size 3 i0 (.int .i64 0) 1 8 Try.underlying25 HIN.out.1 HIN.out.2.1 HIN.out.2.2.1 HIN.out.2.2.2 rfl (by omega) (.slice A k c) k ((nI t).map (Value.int .i64)) (by rfl) HOT.out ⟨wi.heap.size, 0, none⟩ 1 1 [.int .i64 (y : Int)] (by rfl) rfl (by have := tok_bd (wi.setCell ⟨b, y, none⟩ (.bool true)) #[.int .i64 (y : Int)] 3; simpa using this) (by intro u hu; rw [List.mem_singleton] at hu; subst hu; rfl) (by unfold maxLen; omega) (by omega) (by have := HJ.out.st.hb.size; simp; omega) ?_; intro v' w5 hown hg hnil hat; clear hnil hat; have hpush := HJ.out.push hy HX.out HE.out HQ.out hown hg; obtain ⟨A2, c2, rfl, hj⟩ := hpush; have HJ3 := Lib.hid hj; clear hj hown hg HOT)
            exact ⟨⟨j + 1, k + 1, c2, A2, _, _, by omega, by go_num, rfl, HJ3⟩, by simp [intOf]; omega⟩
          · have HX := Lib.hid hX
            clear hkc hkM hk1 hX
            have HJ3 : Hid (RIb w wi b n (EG n L m) (fun _ => True) r0 a lo' A k c t (restN n L m a (j + 1)) (Sh.left lo + K)) := Lib.hid (HJ.out.skip (.inl HX.out))
            go_wp2_with fail
            exact ⟨⟨j + 1, k, c, A, lo', t, by omega, by go_num, rfl, HJ3⟩, by simp [intOf]; omega⟩
        · have hltd : decide (j < La) = false := decide_eq_false hlt
          obtain rfl : La = j := by omega
          have HJE : Hid (RIb w wi b n (EG n L m) (fun _ => True) r0 a lo' A k c t [] (Sh.left lo + K)) := Lib.hid (by have h := HJ.out; rw [← HLa.out, restN_end] at h; exact h)
          go_wp2_with fail
          have hun2 := HJE.out.st.unm
          have hme := HJE.out.me
          have hun1 := HUN.out
          exact ⟨Lib.hid ⟨lo', A, k, c, t, rfl, HJE.out.st, HJE.out.rs.done, by omega⟩, by simp [lenV]; omega⟩
set_option maxRecDepth 100000 in
set_option maxHeartbeats 6400000 in
theorem rwithout_c (A0 : Option Addr) (n cap : Nat) (L : Nat → Nat) (m : Nat → Nat → Int) (r0 : Nat) (no : Nat) (w : World) (hG : GR w A0 n L m) (hn : n ≤ 2000) (hL : ∀ a, a < n → L a ≤ 1000000) (hr : r0 < n) :
    Calls Try.prog 31 #[.slice A0 n cap, .int .i64 r0, .int .i64 no] w (ReachPost (rcL n (EG n L m) (fun z => z ≠ no) r0) w) := by
  have hmk := fun W => run_make_row' (P := Try.prog) 27 4 (.bool false) 1 Try.underlying27 infoB rfl .i64 .i64 n (by omega) (by omega) W
  have hn1 : decide (2000 < n) = false := decide_eq_false (by omega)
  by_cases hrn : r0 = no
  · subst hrn
    have hfin : rcL n (EG n L m) (fun z => z ≠ r0) (r0 : Int) = List.replicate n false := by
      apply List.ext_getElem?
      intro i
      rcases Nat.lt_or_ge i n with hi | hi
      · rw [rcL_at hi, List.getElem?_replicate, if_pos hi, Sh.dc_no.2 (fun g => g.2.2.fst (by simp))]
      · rw [List.getElem?_eq_none (by rw [rcL_len]; omega), List.getElem?_eq_none (by simp; omega)]
    have HF := Lib.hid hfin
    clear hfin
    go_enter Try.func31, Try.ntmps31
    go_wp2_with fail
    go_ret
    refine ⟨w.heap.size, n, by rw [rcL_len]; rfl, ?_, (by repeat' (first | exact Below.refl _ _ | (refine Below.alloc ?_ ?_ _) | (refine Below.setCell ?_ ?_ _) | (refine Below.drew ?_) | (refine below_next ?_ ?_ (by assumption)) | omega | (simp; done) | (simp; omega)))⟩
    rw [HF.out, List.length_replicate]
    exact made_bools w n (by omega)
  have hq1 : ((r0 : Int) == (no : Int)) = false := by rw [beq_eq_false_iff_ne]; omega
  obtain ⟨ad, R, Cp, rfl, h1, h2, h3⟩ := hG.2 (by omega)
  have hrow : ∀ i, i < n → w.cell? (ad.add i) = some (.slice (R i) (L i) (Cp i)) := fun i hi => (h1 i hi).1
  have HR := Lib.hid hrow
  have HRC := Lib.hid h3
  have HL := Lib.hid hL
  clear h1 h2 h3 hG hL hrow
  go_enter Try.func31, Try.ntmps31
  go_upto_region 2 with fail
  refine at_world (fun W => Hid (Below w.heap.size w W ∧ BL' W w.heap.size (.slice (some ⟨w.heap.size, 0, none⟩) n n) (List.replicate n false))) (Lib.hid ⟨(by repeat' (first | exact Below.refl _ _ | (refine Below.alloc ?_ ?_ _) | (refine Below.setCell ?_ ?_ _) | (refine Below.drew ?_) | (refine below_next ?_ ?_ (by assumption)) | omega | (simp; done) | (simp; omega))), made_bools w n (by omega)⟩) ?_
  intro W1 H1
  obtain ⟨b, hb⟩ : ∃ b, w.heap.size = b := ⟨_, rfl⟩
  have HBb := Lib.hid hb
  have h1 : W1.cell? ⟨b, r0, none⟩ = some (.bool false) := by rw [← hb]; exact H1.out.2.at_ (by rw [List.getElem?_replicate, if_pos hr])
  have h2 : W1.frozen? ⟨b, r0, none⟩ = false := by rw [← hb]; exact H1.out.2.fz r0
  simp only [hb]
  clear hb hmk
  have HS : Hid (∃ lo A k c t, (Value.slice (some ⟨W1.heap.size, 0, none⟩) 1 1) = .slice A k c ∧ RSt w ((W1.setCell ⟨b, r0, none⟩ (.bool true)).alloc (.cells #[.int .i64 r0] 3)) b n lo A k c t ∧ Sh.RS (EG n L m) (fun z => z ≠ no) r0 (fun x => lo[x]? = some true) t ∧ Sh.left lo + k ≤ n) := Lib.hid (by
    have hB := HBb.out
    subst hB
    have hge := H1.out.1.size
    have hml : (List.replicate n false).length = n := List.length_replicate
    refine ⟨(List.replicate n false).set r0 true, _, _, _, [r0], rfl, ⟨(H1.out.1.setCell (p := ⟨w.heap.size, r0, none⟩) (Nat.le_refl _) _).alloc (by simp; exact hge) _, (H1.out.2.set r0 true).below ((Below.refl _ _).alloc (Nat.le_refl _) _), ?_, rfl, by rw [List.length_set, hml], fun x hx => by rw [List.mem_singleton] at hx; omega⟩, ?_, ?_⟩
    · have := World.ownsRow_lit (base := w.heap.size) (e := 3) (size := 1) (W1.setCell ⟨w.heap.size, r0, none⟩ (.bool true)) #[.int .i64 (r0 : Int)] 1 (by simp; exact hge) (by unfold maxLen; omega) rfl
      unfold IL nI
      simpa using this
    · have e : (fun x => ((List.replicate n false).set r0 true)[x]? = some true) = (· = r0) := by
        rw [mark_iff (by rw [hml]; exact hr)]
        funext x
        apply propext
        rw [List.getElem?_replicate]
        constructor
        · rintro (q | q)
          · split at q <;> cases q
          · exact q
        · exact .inr
      rw [e]
      exact Sh.RS.start hrn
    · have h5 := left_mark (lo := List.replicate n false) (y := r0) (by rw [List.getElem?_replicate, if_pos hr])
      have h6 : Sh.left (List.replicate n false) = n := by unfold Sh.left; rw [List.countP_replicate, if_pos (by rfl)]
      omega)
  clear H1
  go_wp2_with fail
  refine at_world (fun W => Hid (∃ lo A k c t, (Value.slice (some ⟨W1.heap.size, 0, none⟩) 1 1) = .slice A k c ∧ RSt w W b n lo A k c t ∧ Sh.RS (EG n L m) (fun z => z ≠ no) r0 (fun x => lo[x]? = some true) t ∧ Sh.left lo + k ≤ n)) HS ?_
  clear HS
  intro W2 HS
  obtain ⟨b2, hb2⟩ : ∃ b, W1.heap.size = b := ⟨_, rfl⟩
  simp only [hb2] at HS ⊢
  clear hb2 h1 h2
  obtain ⟨i0, hi0, hzz⟩ := Option.map_eq_some_iff.1 infoI
  simp only [Prod.mk.injEq] at hzz
  have HIN := Lib.hid (And.intro hi0 hzz)
  clear hi0 hzz
  go_loopw [8] (fun td wr => Hid (∃ lo A k c t, td = .slice A k c ∧ RSt w wr b n lo A k c t ∧ Sh.RS (EG n L m) (fun z => z ≠ no) r0 (fun x => lo[x]? = some true) t ∧ Sh.left lo + k ≤ n)) (fun td wr => C.unm wr b n + lenV td)
  case atStart => exact HS
  case round =>
    clear HS
    obtain ⟨lo, A, k, c, t, htd, hst, hrs, hM⟩ := hrel.out
    subst htd
    clear hrel
    have hk := hst.hk
    have hun := hst.unm
    have HI := Lib.hid (And.intro hst hrs)
    have HUN := Lib.hid hun
    clear hst hrs hun
    obtain ⟨wo, rfl⟩ : ∃ wo : World, wo = wr := ⟨_, rfl⟩
    rcases Nat.eq_zero_or_pos k with hk0 | hkp
    · subst hk0
      obtain rfl : t = [] := List.eq_nil_of_length_eq_zero hk
      have hlo : lo = rcL n (EG n L m) (fun z => z ≠ no) (r0 : Int) := rcL_of HI.out.1.ln hr (fun i hi => HI.out.2.done i)
      go_wp2_with fail
      go_ret
      have hob := HI.out.1.ob
      rw [hlo] at hob
      exact ⟨b, n, by rw [rcL_len]; rfl, by rw [rcL_len]; exact hob, HI.out.1.hb⟩
    · obtain ⟨K, rfl⟩ : ∃ K, k = K + 1 := ⟨k - 1, by omega⟩
      obtain ⟨t', a, rfl⟩ := snoc_ex (t := t) (by omega)
      have hk' : t'.length = K := by simpa using hk
      clear hk
      have ha : a < n := HI.out.1.lt a (by simp)
      have had : decide (a < n) = true := decide_eq_true ha
      obtain ⟨g, rfl, _, _⟩ := HI.out.1.ot.some_ (by omega)
      have ca : wo.cell? ⟨g, K, none⟩ = some (.int .i64 a) := HI.out.1.ot.at_ (nI_at (by rw [List.getElem?_append_right (by omega), hk']; simp))
      obtain ⟨hcK, hKn, _⟩ := HI.out.1.ot.cap
      have eK : IntKind.i64.wrap ((K : Int) + 1 - 1) = (K : Int) := by rw [IntWalk.i64_in _ (by omega)]; omega
      have eK2 : IntKind.i64.wrap (((K + 1 : Nat) : Int) - 1) = (K : Int) := by rw [IntWalk.i64_in _ (by omega)]; omega
      go_upto_region 10 with fail
      have hLa : L a ≤ 1000000 := HL.out a ha
      have HJ0 : Hid (RIb w wo b n (EG n L m) (fun z => z ≠ no) r0 a lo (some ⟨g, 0, none⟩) K c t' (restN n L m a 0) (Sh.left lo + K)) := Lib.hid ⟨HI.out.1.pop, by rw [restN_zero]; exact HI.out.2.pop (fun y hy => (toN_mem ha y).2 hy), rfl⟩
      clear HI ca
      go_loopw [8, 10] (fun td i wr => ∃ (j k c : Nat) (A : Option Addr) (lo' : List Bool) (t : List Nat), j ≤ L a ∧ i = .int .i64 j ∧ td = .slice A k c ∧ Hid (RIb w wr b n (EG n L m) (fun z => z ≠ no) r0 a lo' A k c t (restN n L m a j) (Sh.left lo + K))) (fun _ i _ => L a - (intOf i).toNat)
      case atStart => exact ⟨0, K, c, _, lo, t', by omega, rfl, rfl, HJ0⟩
      case round =>
        clear HJ0
        obtain ⟨j, k, c, A, lo', t, hj, rfl, rfl, HJ⟩ := hrel
        obtain ⟨wi, rfl⟩ : ∃ wi : World, wi = wr := ⟨_, rfl⟩
        have crow := cell_later HJ.out.st.hb (HR.out a ha)
        obtain ⟨La, hLa'⟩ : ∃ x, L a = x := ⟨_, rfl⟩
        obtain ⟨Ra, hRa⟩ : ∃ x, R a = x := ⟨_, rfl⟩
        obtain ⟨Ca, hCa⟩ : ∃ x, Cp a = x := ⟨_, rfl⟩
        have HLa := Lib.hid hLa'
        rw [hLa', hRa, hCa] at crow
        rw [hLa'] at hj hLa
        simp only [hLa']
        clear hLa' hCa
        by_cases hlt : j < La
        · have hltd : decide (j < La) = true := decide_eq_true hlt
          have ej : IntKind.i64.wrap ((j : Int) + 1) = (j : Int) + 1 := IntWalk.i64_in _ (by omega)
          obtain ⟨rr, hrr, cv⟩ := HRC.out a j ha (by rw [HLa.out]; exact hlt)
          rw [hRa] at hrr
          subst hrr
          replace cv := cell_later HJ.out.st.hb cv
          obtain ⟨v, hv⟩ : ∃ v, m a j = v := ⟨_, rfl⟩
          rw [hv] at cv
          have HV := Lib.hid hv
          clear hRa hv
          by_cases hv0 : v < 0
          · have hvd : decide (0 ≤ v) = false := decide_eq_false (by omega)
            have HJ3 : Hid (RIb w wi b n (EG n L m) (fun z => z ≠ no) r0 a lo' A k c t (restN n L m a (j + 1)) (Sh.left lo + K)) := Lib.hid (by have h := HJ.out; rw [restN_out (by rw [HLa.out]; exact hlt) (by rw [HV.out]; unfold outB; rw [decide_eq_true hv0]; rfl)] at h; exact h)
            go_wp2_with fail
            exact ⟨⟨j + 1, k, c, A, lo', t, by omega, by go_num, rfl, HJ3⟩, by simp [intOf]; omega⟩
          have hvd : decide (0 ≤ v) = true := decide_eq_true (by omega)
          by_cases hvn : (n : Int) ≤ v
          · have hvd2 : decide (v < (n : Int)) = false := decide_eq_false (by omega)
            have HJ3 : Hid (RIb w wi b n (EG n L m) (fun z => z ≠ no) r0 a lo' A k c t (restN n L m a (j + 1)) (Sh.left lo + K)) := Lib.hid (by have h := HJ.out; rw [restN_out (by rw [HLa.out]; exact hlt) (by rw [HV.out]; unfold outB; rw [decide_eq_true hvn, Bool.or_true])] at h; exact h)
            go_wp2_with fail
            exact ⟨⟨j + 1, k, c, A, lo', t, by omega, by go_num, rfl, HJ3⟩, by simp [intOf]; omega⟩
          have hvd2 : decide (v < (n : Int)) = true := decide_eq_true (by omega)
          obtain ⟨y, rfl⟩ := Int.eq_ofNat_of_zero_le (show 0 ≤ v by omega)
          have hy : y < n := by omega
          have hyd : decide (y < n) = true := decide_eq_true hy
          have HE : Hid (EG n L m a y) := Lib.hid ⟨ha, hy, j, by rw [HLa.out]; exact hlt, HV.out⟩
          rw [restN_in (by rw [HLa.out]; exact hlt) HV.out hy] at HJ
          by_cases hyn : y = no
          · have hnq1 : ((y : Int) != (no : Int)) = false := by rw [hyn]; simp
            have hnq2 : ((y : Int) == (no : Int)) = true := by rw [hyn]; simp
            have HJ3 : Hid (RIb w wi b n (EG n L m) (fun z => z ≠ no) r0 a lo' A k c t (restN n L m a (j + 1)) (Sh.left lo + K)) := Lib.hid (HJ.out.skip (.inr (fun g => g hyn)))
            go_wp2_with fail
            exact ⟨⟨j + 1, k, c, A, lo', t, by omega, by go_num, rfl, HJ3⟩, by simp [intOf]; omega⟩
          have HQ : Hid (y ≠ no) := Lib.hid hyn
          have hnq1 : ((y : Int) != (no : Int)) = true := by rw [bne_iff_ne]; omega
          have hnq2 : ((y : Int) == (no : Int)) = false := by rw [beq_eq_false_iff_ne]; omega
          clear hyn
          obtain ⟨X, hX⟩ : ∃ X, lo'[y]? = some X := ⟨_, List.getElem?_eq_getElem (by rw [HJ.out.st.ln]; exact hy)⟩
          have cX := HJ.out.st.ob.at_ hX
          have fX := HJ.out.st.ob.fz y
          have hkc := HJ.out.st.ot.cap
          have hkM := HJ.out.me
          have hk1 := HJ.out.st.hk
          cases X
          · have HOT : Hid (((wi.setCell ⟨b, y, none⟩ (.bool true)).alloc (.cells #[.int .i64 (y : Int)] 3)).ownsRow w.heap.size 3 1 (.slice A k c) k ((nI t).map (Value.int .i64))) := Lib.hid (by
              have := ((HJ.out.st.mark y).below ((Below.refl _ _).alloc (Nat.le_refl _) (.cells #[.int .i64 (y : Int)] 3))).ot
              unfold IL at this
              rw [nI_len, hk1] at this
              exact this)
            have hk30 : k ≤ 1000000 := by omega
            have HX := Lib.hid hX
            clear hkc hkM hk1 hX
            go_wp2_with (at_builtin; refine wpList_append_own_at _ (by rfl) (.tmp 77) (.tmp 79) 25 (by rfl) w.heap.size 3 i0 (.int .i64 0) 1 8 Try.underlying25 HIN.out.1 HIN.out.2.1 HIN.out.2.2.1 HIN.out.2.2.2 rfl (by omega) (.slice A k c) k ((nI t).map (Value.int .i64)) (by rfl) HOT.out ⟨wi.heap.size, 0, none⟩ 1 1 [.int .i64 (y : Int)] (by rfl) rfl (by have := tok_bd (wi.setCell ⟨b, y, none⟩ (.bool true)) #[.int .i64 (y : Int)] 3; simpa using this) (by intro u hu; rw [List.mem_singleton] at hu; subst hu; rfl) (by unfold maxLen; omega) (by omega) (by have := HJ.out.st.hb.size; simp; omega) ?_; intro v' w5 hown hg hnil hat; clear hnil hat; have hpush := HJ.out.push hy HX.out HE.out HQ.out hown hg; obtain ⟨A2, c2, rfl, hj⟩ := hpush; have HJ3 := Lib.hid hj; clear hj hown hg HOT)
            exact ⟨⟨j + 1, k + 1, c2, A2, _, _, by omega, by go_num, rfl, HJ3⟩, by simp [intOf]; omega⟩
          · have HX := Lib.hid hX
            clear hkc hkM hk1 hX
            have HJ3 : Hid (RIb w wi b n (EG n L m) (fun z => z ≠ no) r0 a lo' A k c t (restN n L m a (j + 1)) (Sh.left lo + K)) := Lib.hid (HJ.out.skip (.inl HX.out))
            go_wp2_with fail
            exact ⟨⟨j + 1, k, c, A, lo', t, by omega, by go_num, rfl, HJ3⟩, by simp [intOf]; omega⟩
        · have hltd : decide (j < La) = false := decide_eq_false hlt
          obtain rfl : La = j := by omega
          have HJE : Hid (RIb w wi b n (EG n L m) (fun z => z ≠ no) r0 a lo' A k c t [] (Sh.left lo + K)) := Lib.hid (by have h := HJ.out; rw [← HLa.out, restN_end] at h; exact h)
          go_wp2_with fail
          have hun2 := HJE.out.st.unm
          have hme := HJE.out.me
          have hun1 := HUN.out
          exact ⟨Lib.hid ⟨lo', A, k, c, t, rfl, HJE.out.st, HJE.out.rs.done, by omega⟩, by simp [lenV]; omega⟩
end Go.Proofs.Ytacdeollnhkckaa.C
