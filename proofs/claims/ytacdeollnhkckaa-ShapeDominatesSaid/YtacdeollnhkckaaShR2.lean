/- shape.Reach: the walk. -/
import Derived.Test.YtacdeollnhkckaaShR
import Derived.IntWalk
import Derived.OwnWalk
namespace Go.Proofs.Ytacdeollnhkckaa.C
open Go.Shelf Go.RowKit Go.Lib Go.Sort
set_option linter.unusedSimpArgs false
set_option linter.unusedVariables false
def toN (n : Nat) (L : Nat → Nat) (m : Nat → Nat → Int) (a : Nat) : List Nat := (toL n L m a).map Int.toNat
theorem toN_nI {n : Nat} {L : Nat → Nat} {m : Nat → Nat → Int} {a : Nat} : nI (toN n L m a) = toL n L m a := by
  unfold nI toN
  rw [List.map_map]
  have : ∀ l : List Int, (∀ x ∈ l, 0 ≤ x) → l.map ((fun (x : Nat) => (x : Int)) ∘ Int.toNat) = l := by
    intro l
    induction l with
    | nil => intro _; rfl
    | cons x l ih => intro h; rw [List.map_cons, ih (fun y hy => h y (by simp [hy]))]; have := h x (by simp); simp only [Function.comp]; rw [Int.toNat_of_nonneg this]
  exact this _ (fun x hx => by obtain ⟨b, e, _⟩ := toL_nat hx; omega)
theorem toN_mem {n : Nat} {L : Nat → Nat} {m : Nat → Nat → Int} {a : Nat} (ha : a < n) (b : Nat) : b ∈ toN n L m a ↔ EG n L m a b := by
  rw [← toL_mem ha]
  constructor
  · intro h
    rw [← toN_nI]
    exact List.mem_map.2 ⟨b, h, rfl⟩
  · intro h
    exact List.mem_map.2 ⟨_, h, rfl⟩
theorem toN_lt {n : Nat} {L : Nat → Nat} {m : Nat → Nat → Int} {a b : Nat} (h : b ∈ toN n L m a) : b < n := by
  obtain ⟨x, h1, h2⟩ := List.mem_map.1 h
  obtain ⟨y, e, hy⟩ := toL_nat h1
  omega
theorem toN_len {n : Nat} {L : Nat → Nat} {m : Nat → Nat → Int} {a : Nat} : (toN n L m a).length = (toL n L m a).length := List.length_map _
theorem mark_iff {lo : List Bool} {y : Nat} (hy : y < lo.length) : (fun x => (lo.set y true)[x]? = some true) = (fun x => lo[x]? = some true ∨ x = y) := by
  funext x
  apply propext
  rw [List.getElem?_set]
  by_cases q : y = x
  · subst q; simp [hy]
  · rw [if_neg q]
    exact ⟨.inl, fun h => h.resolve_right (fun e => q e.symm)⟩
theorem left_mark {lo : List Bool} {y : Nat} (h : lo[y]? = some false) : Sh.left (lo.set y true) + 1 = Sh.left lo := Sh.left_set h
/-- The state of the inner loop. -/
structure RIn (w wr : World) (b n : Nat) (E : Nat → Nat → Prop) (Q : Nat → Prop) (r a : Nat) (lo : List Bool) (A : Option Addr) (k c : Nat) (t ks : List Nat) (Bk : Option Addr) (K ck : Nat) (kn : List Nat) (M : Nat) : Prop where
  st : RSt w wr b n lo A k c t
  rs : Sh.RSi E Q r (fun x => lo[x]? = some true) t a ks
  ik : IL wr w.heap.size (.slice Bk K ck) (nI kn)
  ap : ∀ g, (Value.slice A k c).ownBlock = some g → (Value.slice Bk K ck).ownBlock ≠ some g
  me : Sh.left lo + k = M
theorem RIn.skip {w wr : World} {b n : Nat} {E : Nat → Nat → Prop} {Q : Nat → Prop} {r a : Nat} {lo : List Bool} {A : Option Addr} {k c : Nat} {t ks : List Nat} {Bk : Option Addr} {K ck : Nat} {kn : List Nat} {M y : Nat} (h : RIn w wr b n E Q r a lo A k c t (y :: ks) Bk K ck kn M) (hy : lo[y]? = some true ∨ ¬ Q y) : RIn w wr b n E Q r a lo A k c t ks Bk K ck kn M :=
  ⟨h.st, h.rs.skip hy, h.ik, h.ap, h.me⟩
theorem RIn.push {w wr w2 : World} {b n : Nat} {E : Nat → Nat → Prop} {Q : Nat → Prop} {r a : Nat} {lo : List Bool} {A : Option Addr} {k c : Nat} {t ks : List Nat} {Bk : Option Addr} {K ck : Nat} {kn : List Nat} {M y : Nat} {O : Obj} {V : Value} (h : RIn w wr b n E Q r a lo A k c t (y :: ks) Bk K ck kn M) (hy : y < n) (hl : lo[y]? = some false) (he : E a y) (hq : Q y)
    (hown : w2.ownsRow w.heap.size 3 1 V (k + 1) ((nI t).map (Value.int .i64) ++ [.int .i64 (y : Int)])) (hg : ((wr.setCell ⟨b, y, none⟩ (.bool true)).alloc O).grownBy w2 (Value.slice A k c).ownBlock) (hat : V.ownBlock = (Value.slice A k c).ownBlock ∨ V.ownBlock = some ((wr.setCell ⟨b, y, none⟩ (.bool true)).alloc O).heap.size) :
    ∃ A2 c2, V = .slice A2 (k + 1) c2 ∧ RIn w w2 b n E Q r a (lo.set y true) A2 (k + 1) c2 (t ++ [y]) ks Bk K ck kn M := by
  have hm := h.st.mark y
  obtain ⟨A2, c2, rfl, hs⟩ := hm.snoc hy hown hg
  have ha : Below (wr.setCell ⟨b, y, none⟩ (.bool true)).heap.size (wr.setCell ⟨b, y, none⟩ (.bool true)) ((wr.setCell ⟨b, y, none⟩ (.bool true)).alloc O) := (Below.refl _ _).alloc (Nat.le_refl _) _
  have hik := (h.ik.far (p := ⟨b, y, none⟩) (h.st.ob.ne h.ik b rfl) (.bool true)).below ha
  refine ⟨A2, c2, rfl, hs, ?_, hik.grown hg (fun g hgk e => h.ap g e hgk), fun g hg2 hgk => ?_, ?_⟩
  · rw [mark_iff (by rw [h.st.ln]; exact hy)]
    exact h.rs.push he hq
  · rcases hat with e | e
    · exact h.ap g (e ▸ hg2) hgk
    · rw [e] at hg2
      have h1 := (hik.lt g hgk).2
      injection hg2 with hg2
      omega
  · have := left_mark hl
    have := h.me
    omega
theorem RIn.done {w wr : World} {b n : Nat} {E : Nat → Nat → Prop} {Q : Nat → Prop} {r a : Nat} {lo : List Bool} {A : Option Addr} {k c : Nat} {t : List Nat} {Bk : Option Addr} {K ck : Nat} {kn : List Nat} {M : Nat} (h : RIn w wr b n E Q r a lo A k c t [] Bk K ck kn M) : Sh.RS E Q r (fun x => lo[x]? = some true) t := h.rs.done
theorem RIn.below {w wr w' : World} {b n : Nat} {E : Nat → Nat → Prop} {Q : Nat → Prop} {r a : Nat} {lo : List Bool} {A : Option Addr} {k c : Nat} {t ks : List Nat} {Bk : Option Addr} {K ck : Nat} {kn : List Nat} {M : Nat} (h : RIn w wr b n E Q r a lo A k c t ks Bk K ck kn M) (hb : Below wr.heap.size wr w') : RIn w w' b n E Q r a lo A k c t ks Bk K ck kn M :=
  ⟨h.st.below hb, h.rs, h.ik.below hb, h.ap, h.me⟩
set_option maxRecDepth 100000 in
set_option maxHeartbeats 6400000 in
theorem reach_c (A0 : Option Addr) (n cap : Nat) (L : Nat → Nat) (m : Nat → Nat → Int) (r : Int) (w : World) (hG : GR w A0 n L m) (hn : n ≤ 2000) (hL : ∀ a, a < n → L a ≤ 1000000) :
    Calls Try.prog 10 #[.slice A0 n cap, .int .i64 r] w (ReachPost (rcL n (EG n L m) (fun _ => True) r) w) := by
  have hmk := fun W => run_make_row' (P := Try.prog) 27 4 (.bool false) 1 Try.underlying27 infoB rfl .i64 .i64 n (by omega) (by omega) W
  have hn1 : decide (2000 < n) = false := decide_eq_false (by omega)
  have HG := Lib.hid hG
  have HL := Lib.hid hL
  clear hG hL
  by_cases h0 : 0 ≤ r ∧ r < n
  · obtain ⟨r0, rfl⟩ := Int.eq_ofNat_of_zero_le h0.1
    have hr : r0 < n := by omega
    have hrd : decide (n ≤ r0) = false := decide_eq_false (by omega)
    clear h0
    go_enter Try.func10, Try.ntmps10
    go_upto_region 4 with fail
    refine at_world (fun W => Hid (Below w.heap.size w W ∧ BL' W w.heap.size (.slice (some ⟨w.heap.size, 0, none⟩) n n) (List.replicate n false))) (Lib.hid ⟨(by repeat' (first | exact Below.refl _ _ | (refine Below.alloc ?_ ?_ _) | (refine Below.setCell ?_ ?_ _) | (refine Below.drew ?_) | (refine below_next ?_ ?_ (by assumption)) | omega | (simp; done) | (simp; omega))), made_bools w n (by omega)⟩) ?_
    intro W1 H1
    obtain ⟨b, hb⟩ : ∃ b, w.heap.size = b := ⟨_, rfl⟩
    have HBb := Lib.hid hb
    have h1 : W1.cell? ⟨b, r0, none⟩ = some (.bool false) := by rw [← hb]; exact H1.out.2.at_ (by rw [List.getElem?_replicate, if_pos hr])
    have h2 : W1.frozen? ⟨b, r0, none⟩ = false := by rw [← hb]; exact H1.out.2.fz r0
    simp only [hb]
    clear hb hmk
    have HS : Hid (∃ lo A k c t, (Value.slice (some ⟨W1.heap.size, 0, none⟩) 1 1) = .slice A k c ∧ RSt w ((W1.setCell ⟨b, r0, none⟩ (.bool true)).alloc (.cells #[.int .i64 r0] 3)) b n lo A k c t ∧ Sh.RS (EG n L m) (fun _ => True) r0 (fun x => lo[x]? = some true) t ∧ Sh.left lo + k ≤ n) := Lib.hid (by
      have hB := HBb.out
      subst hB
      have hge := H1.out.1.size
      have hml : (List.replicate n false).length = n := List.length_replicate
      refine ⟨(List.replicate n false).set r0 true, _, _, _, [r0], rfl, ⟨(H1.out.1.setCell (p := ⟨w.heap.size, r0, none⟩) (Nat.le_refl _) _).alloc (by simp; exact hge) _, (H1.out.2.set r0 true).below ((Below.refl _ _).alloc (Nat.le_refl _) _), ?_, rfl, by rw [List.length_set, hml], fun x hx => by rw [List.mem_singleton] at hx; omega⟩, ?_, ?_⟩
      · have := World.ownsRow_lit (base := w.heap.size) (e := 3) (size := 1) (W1.setCell ⟨w.heap.size, r0, none⟩ (.bool true)) #[.int .i64 (r0 : Int)] 1 (by simp; exact hge) (by unfold maxLen; omega) rfl
        unfold IL nI
        simpa using this
      · have e : (fun x => ((List.replicate n false).set r0 true)[x]? = some true) = (· = r0) := by
          rw [mark_iff (by rw [hml]; exact hr)]
          funext x
          apply propext
          rw [List.getElem?_replicate]
          constructor
          · rintro (q | q)
            · split at q <;> cases q
            · exact q
          · exact .inr
        rw [e]
        exact Sh.RS.start trivial
      · have h5 := left_mark (lo := List.replicate n false) (y := r0) (by rw [List.getElem?_replicate, if_pos hr])
        have h6 : Sh.left (List.replicate n false) = n := by unfold Sh.left; rw [List.countP_replicate, if_pos (by rfl)]
        omega)
    clear H1
    go_wp2_with fail
    refine at_world (fun W => Hid (∃ lo A k c t, (Value.slice (some ⟨W1.heap.size, 0, none⟩) 1 1) = .slice A k c ∧ RSt w W b n lo A k c t ∧ Sh.RS (EG n L m) (fun _ => True) r0 (fun x => lo[x]? = some true) t ∧ Sh.left lo + k ≤ n)) HS ?_
    clear HS
    intro W2 HS
    obtain ⟨b2, hb2⟩ : ∃ b, W1.heap.size = b := ⟨_, rfl⟩
    simp only [hb2] at HS ⊢
    clear hb2 h1 h2
    obtain ⟨i0, hi0, hzz⟩ := Option.map_eq_some_iff.1 infoI
    simp only [Prod.mk.injEq] at hzz
    have HIN := Lib.hid (And.intro hi0 hzz)
    clear hi0 hzz
    go_loopw [6] (fun td wr => Hid (∃ lo A k c t, td = .slice A k c ∧ RSt w wr b n lo A k c t ∧ Sh.RS (EG n L m) (fun _ => True) r0 (fun x => lo[x]? = some true) t ∧ Sh.left lo + k ≤ n)) (fun td wr => C.unm wr b n + lenV td)
    case atStart => exact HS
    case round =>
      clear HS
      obtain ⟨lo, A, k, c, t, htd, hst, hrs, hM⟩ := hrel.out
      subst htd
      clear hrel
      have hk := hst.hk
      have hun := hst.unm
      have HI := Lib.hid (And.intro hst hrs)
      have HUN := Lib.hid hun
      clear hst hrs hun
      obtain ⟨wo, rfl⟩ : ∃ wo : World, wo = wr := ⟨_, rfl⟩
      rcases Nat.eq_zero_or_pos k with hk0 | hkp
      · subst hk0
        obtain rfl : t = [] := List.eq_nil_of_length_eq_zero hk
        have hlo : lo = rcL n (EG n L m) (fun _ => True) (r0 : Int) := rcL_of HI.out.1.ln hr (fun i hi => HI.out.2.done i)
        go_wp2_with fail
        go_ret
        have hob := HI.out.1.ob
        rw [hlo] at hob
        exact ⟨b, n, by rw [rcL_len]; rfl, by rw [rcL_len]; exact hob, HI.out.1.hb⟩
      · obtain ⟨K, rfl⟩ : ∃ K, k = K + 1 := ⟨k - 1, by omega⟩
        obtain ⟨t', a, rfl⟩ := snoc_ex (t := t) (by omega)
        have hk' : t'.length = K := by simpa using hk
        clear hk
        have ha : a < n := HI.out.1.lt a (by simp)
        obtain ⟨g, rfl, _, _⟩ := HI.out.1.ot.some_ (by omega)
        have ca : wo.cell? ⟨g, K, none⟩ = some (.int .i64 a) := HI.out.1.ot.at_ (nI_at (by rw [List.getElem?_append_right (by omega), hk']; simp))
        obtain ⟨hcK, hKn, _⟩ := HI.out.1.ot.cap
        have eK : IntKind.i64.wrap ((K : Int) + 1 - 1) = (K : Int) := by rw [IntWalk.i64_in _ (by omega)]; omega
        have eK2 : IntKind.i64.wrap (((K + 1 : Nat) : Int) - 1) = (K : Int) := by rw [IntWalk.i64_in _ (by omega)]; omega
        have HTO := to_c A0 n cap L m a wo (HG.out.below HI.out.1.hb) ha (HL.out a ha)
        go_upto_region 12 with (go_at_call 24; refine HTO.mono ?_; rintro e w1 ⟨Bk, ck, rfl, hkid, hbt⟩; have HKID := Lib.hid (And.intro hkid hbt); clear hkid hbt HTO)
        obtain ⟨K2, hK2⟩ : ∃ K2, (toL n L m a).length = K2 := ⟨_, rfl⟩
        rw [hK2] at HKID
        simp only [hK2]
        have HKL : Hid ((toN n L m a).length = K2) := Lib.hid (by rw [toN_len]; exact hK2)
        have hK2b : K2 ≤ 1000000 := by rw [← hK2]; exact Nat.le_trans toL_len (HL.out a ha)
        clear hK2
        have HJ0 : Hid (RIn w w1 b n (EG n L m) (fun _ => True) r0 a lo (some ⟨g, 0, none⟩) K c t' ((toN n L m a).drop 0) Bk K2 ck (toN n L m a) (Sh.left lo + K)) := Lib.hid (by
          have hp := HI.out.1.pop.below HKID.out.2
          refine ⟨hp, HI.out.2.pop (fun y hy => (toN_mem ha y).2 hy), ?_, fun g' hg1 hg2 => ?_, rfl⟩
          · rw [toN_nI]; exact World.ownsRow.mono HKID.out.1 HI.out.1.hb.size
          · have h3 := (HI.out.1.pop.ot.lt g' hg1).2
            have h4 := (HKID.out.1.lt g' hg2).1
            omega)
        clear HKID HI ca
        go_loopw [6, 48] (fun td i wr => ∃ (j k c : Nat) (A : Option Addr) (lo' : List Bool) (t : List Nat), j ≤ K2 ∧ i = .int .i64 j ∧ td = .slice A k c ∧ Hid (RIn w wr b n (EG n L m) (fun _ => True) r0 a lo' A k c t ((toN n L m a).drop j) Bk K2 ck (toN n L m a) (Sh.left lo + K))) (fun _ i _ => K2 - (intOf i).toNat)
        case atStart => exact ⟨0, K, c, _, lo, t', by omega, rfl, rfl, HJ0⟩
        case round =>
          clear HJ0
          obtain ⟨j, k, c, A, lo', t, hj, rfl, rfl, HJ⟩ := hrel
          obtain ⟨wi, rfl⟩ : ∃ wi : World, wi = wr := ⟨_, rfl⟩
          by_cases hlt : j < K2
          · have hltd : decide (j < K2) = true := decide_eq_true hlt
            have ej : IntKind.i64.wrap ((j : Int) + 1) = (j : Int) + 1 := IntWalk.i64_in _ (by omega)
            obtain ⟨gk, rfl, _, _⟩ := HJ.out.ik.some_ (by omega)
            have hlen := HKL.out
            obtain ⟨y, hy1⟩ : ∃ y, (toN n L m a)[j]? = some y := ⟨_, List.getElem?_eq_getElem (by omega)⟩
            have cy := HJ.out.ik.at_ (nI_at hy1)
            have hdrop : (toN n L m a).drop j = y :: (toN n L m a).drop (j + 1) := by
              rw [List.drop_eq_getElem_cons (by omega)]
              rw [List.getElem?_eq_getElem (by omega)] at hy1
              rw [Option.some.inj hy1]
            have hym := List.mem_of_getElem? hy1
            have hy : y < n := toN_lt hym
            have HE : Hid (EG n L m a y) := Lib.hid ((toN_mem ha y).1 hym)
            rw [hdrop] at HJ
            obtain ⟨X, hX⟩ : ∃ X, lo'[y]? = some X := ⟨_, List.getElem?_eq_getElem (by rw [HJ.out.st.ln]; exact hy)⟩
            have cX := HJ.out.st.ob.at_ hX
            have fX := HJ.out.st.ob.fz y
            have hyd : decide (y < n) = true := decide_eq_true hy
            have hkc := HJ.out.st.ot.cap
            have hkM := HJ.out.me
            have hk1 := HJ.out.st.hk
            clear hlen hy1 hdrop hym
            cases X
            · have HOT : Hid (((wi.setCell ⟨b, y, none⟩ (.bool true)).alloc (.cells #[.int .i64 (y : Int)] 3)).ownsRow w.heap.size 3 1 (.slice A k c) k ((nI t).map (Value.int .i64))) := Lib.hid (by
                have := ((HJ.out.st.mark y).below ((Below.refl _ _).alloc (Nat.le_refl _) (.cells #[.int .i64 (y : Int)] 3))).ot
                unfold IL at this
                rw [nI_len, hk1] at this
                exact this)
              have hk30 : k ≤ 1000000 := by omega
              have HX := Lib.hid hX
              clear hkc hkM hk1 hX
              go_wp2_with (at_builtin; refine wpList_append_own_at _ (by rfl) (.tmp 60) (.tmp 62) 25 (by rfl) w.heap.size 3 i0 (.int .i64 0) 1 8 Try.underlying25 HIN.out.1 HIN.out.2.1 HIN.out.2.2.1 HIN.out.2.2.2 rfl (by omega) (.slice A k c) k ((nI t).map (Value.int .i64)) (by rfl) HOT.out ⟨wi.heap.size, 0, none⟩ 1 1 [.int .i64 (y : Int)] (by rfl) rfl (by have := tok_bd (wi.setCell ⟨b, y, none⟩ (.bool true)) #[.int .i64 (y : Int)] 3; simpa using this) (by intro u hu; rw [List.mem_singleton] at hu; subst hu; rfl) (by unfold maxLen; omega) (by omega) (by have := HJ.out.st.hb.size; simp; omega) ?_; intro v' w5 hown hg hnil hat; clear hnil; have hpush := HJ.out.push hy HX.out HE.out trivial hown hg hat; obtain ⟨A2, c2, rfl, hj⟩ := hpush; have HJ3 := Lib.hid hj; clear hj hown hg hat HOT)
              exact ⟨⟨j + 1, k + 1, c2, A2, _, _, by omega, by go_num, rfl, HJ3⟩, by simp [intOf]; omega⟩
            · have HX := Lib.hid hX
              clear hkc hkM hk1 hX
              go_wp2_with fail
              exact ⟨⟨j + 1, k, c, A, lo', t, by omega, by go_num, rfl, Lib.hid (HJ.out.skip (.inl HX.out))⟩, by simp [intOf]; omega⟩
          · have hltd : decide (j < K2) = false := decide_eq_false hlt
            obtain rfl : K2 = j := by omega
            rw [List.drop_of_length_le (by have := HKL.out; omega)] at HJ
            go_wp2_with fail
            have hun2 := HJ.out.st.unm
            have hme := HJ.out.me
            have hun1 := HUN.out
            exact ⟨Lib.hid ⟨lo', A, k, c, t, rfl, HJ.out.st, HJ.out.done, by omega⟩, by simp [lenV]; omega⟩
  · have hfin : rcL n (EG n L m) (fun _ => True) r = List.replicate n false := rcL_no h0
    have HF := Lib.hid hfin
    clear hfin
    by_cases h1 : r < 0
    · have hd : decide (r < 0) = true := decide_eq_true h1
      go_enter Try.func10, Try.ntmps10
      go_wp2_with fail
      go_ret
      refine ⟨w.heap.size, n, by rw [rcL_len]; rfl, ?_, (by repeat' (first | exact Below.refl _ _ | (refine Below.alloc ?_ ?_ _) | (refine Below.setCell ?_ ?_ _) | (refine Below.drew ?_) | (refine below_next ?_ ?_ (by assumption)) | omega | (simp; done) | (simp; omega)))⟩
      rw [HF.out, List.length_replicate]
      exact made_bools w n (by omega)
    · have hd : decide (r < 0) = false := decide_eq_false h1
      have hd2 : (n : Int) ≤ r := by omega
      have hd3 : decide ((n : Int) ≤ r) = true := decide_eq_true hd2
      go_enter Try.func10, Try.ntmps10
      go_wp2_with fail
      go_ret
      refine ⟨w.heap.size, n, by rw [rcL_len]; rfl, ?_, (by repeat' (first | exact Below.refl _ _ | (refine Below.alloc ?_ ?_ _) | (refine Below.setCell ?_ ?_ _) | (refine Below.drew ?_) | (refine below_next ?_ ?_ (by assumption)) | omega | (simp; done) | (simp; omega)))⟩
      rw [HF.out, List.length_replicate]
      exact made_bools w n (by omega)
end Go.Proofs.Ytacdeollnhkckaa.C
