/- The walk of LexJoins. -/
import Derived.Test.YtfdlkbkheginlaaDoorLaw2
import Derived.Test.YtfdlkbkheginlaaDoorLexJ
namespace Go.Proofs.YtfdlkbkheginlaaDoor.C
open Go.RowKit
set_option linter.unusedSimpArgs false
set_option linter.unusedVariables false
theorem neq_tok (k a : Int) (s : ByteArray) (W : World) : (binOp .neq 29 (.agg #[.int .i64 k, .string s, .int .i64 a]) (.agg #[.int .i64 k, .string s, .int .i64 a])).run Tryd.prog W = .ok (.bool false) W := by
  go_simp
set_option maxRecDepth 100000 in
set_option maxHeartbeats 1600000 in
theorem lexJoins3_c (aL aW : Addr) (s t J : ByteArray) (w : World) (hg : GL aL aW w) (g1 : decide ((500 : Int) < (s.size : Int)) = false) (g2 : decide ((500 : Int) < (t.size : Int)) = false) (hs : s.size ≤ 500) (ht : t.size ≤ 500) (hLs : s.data.toList.length = s.size) (hcat : IntKind.i64.max = 9223372036854775807) (hz1 : (s ++ ⟨#[10]⟩).size = s.size + 1) (hz2 : J.size = s.size + 1 + t.size) (hdt : J.data.toList = s.data.toList ++ [10] ++ t.data.toList) (hJ : (s ++ ⟨#[10]⟩) ++ t = J) (ta us : List Tok) (hA : lexR s.data.toList = (ta ++ [⟨0, [], s.data.toList.length⟩], 0, 0)) (hB : lexR t.data.toList = (us, 0, 0)) (hne : us ≠ []) (hm : us.length ≤ 501) (htl : ta.length ≤ 500) (hat : ∀ t ∈ us, t.at_ ≤ 500)
    (hR : lexR (s.data.toList ++ [10] ++ t.data.toList) = (ta ++ us.map (shT (s.data.toList.length + 1)), 0, 0)) : Calls Tryd.prog 5 #[.string s, .string t] w fun e w' => e = .returned (.bool true) ∧ Below w.heap.size w w' := by
  have n1 := fun (E : Int) (W : World) => num_c E W
  have NT := fun (k a : Int) (s : ByteArray) (W : World) => neq_tok k a s W
  have HG := Lib.hid hg
  rw [← hdt] at hR
  obtain ⟨nt, hnt⟩ : ∃ n, ta.length = n := ⟨_, rfl⟩
  obtain ⟨m, hm'⟩ : ∃ m, us.length = m := ⟨_, rfl⟩
  have hm0 : 0 < m := by rw [← hm']; exact List.length_pos_iff.2 hne
  have hm5 : m ≤ 501 := by omega
  have hnt5 : nt ≤ 500 := by omega
  obtain ⟨nl, hnl⟩ : ∃ n, nt + 1 = n := ⟨_, rfl⟩
  obtain ⟨nj, hnj⟩ : ∃ n, nt + m = n := ⟨_, rfl⟩
  obtain ⟨D, hD⟩ : ∃ D, s.data.toList.length + 1 = D := ⟨_, rfl⟩
  rw [hD] at hR
  have L1 := fun (W : World) (hW : Below w.heap.size w W) => lex_say (n := nl) (hg.below hW) (by omega) hA (by rw [List.length_append, hnt]; exact hnl)
  have L2 := fun (W : World) (hW : Below w.heap.size w W) => lex_say (n := m) (hg.below hW) (by omega) hB hm'
  have L3 := fun (W : World) (hW : Below w.heap.size w W) => lex_say (n := nj) (hg.below hW) (by omega) hR (by rw [List.length_append, List.length_map, hnt, hm']; exact hnj)
  have LA := fun (W : World) (hW : Below w.heap.size w W) => awake2_c aL aW W (hg.below hW)
  have g3 : ((nl : Int) == 0) = false := by rw [beq_eq_false_iff_ne]; omega
  have e1 : IntKind.i64.wrap ((nl : Int) + m) = (nl : Int) + m := IntWalk.i64_in _ (by omega)
  have e2 : IntKind.i64.wrap ((nl : Int) + m - 1) = (nj : Int) := by rw [IntWalk.i64_in _ (by omega)]; omega
  have e3 : IntKind.i64.wrap ((nl : Int) - 1) = (nt : Int) := by rw [IntWalk.i64_in _ (by omega)]; omega
  have g4 : ((nj : Int) != (nj : Int)) = false := by simp
  have hja : ∀ i, (hi : i < nt) → ∃ u, (ta ++ us.map (shT D))[i]? = some u ∧ (ta ++ [⟨0, [], s.data.toList.length⟩])[i]? = some u := fun i hi => by
    have hi' : i < ta.length := by omega
    exact ⟨ta[i], by rw [List.getElem?_append_left hi']; exact List.getElem?_eq_getElem hi', by rw [List.getElem?_append_left hi']; exact List.getElem?_eq_getElem hi'⟩
  have hjb : ∀ i, nt ≤ i → i < nj → ∃ u, us[i - nt]? = some u ∧ (ta ++ us.map (shT D))[i]? = some (shT D u) ∧ u.at_ ≤ 500 := fun i h1 h2 => by
    have hi' : i - nt < us.length := by omega
    refine ⟨us[i - nt], List.getElem?_eq_getElem hi', ?_, hat _ (List.getElem_mem _)⟩
    rw [List.getElem?_append_right (by omega), List.getElem?_map, hnt, List.getElem?_eq_getElem hi']
    rfl
  have HJA := Lib.hid hja
  have HJB := Lib.hid hjb
  have hne2 : ta ++ us.map (shT D) ≠ [] := by simp [hne]
  clear hA hB hR hdt hg hat hja hjb
  have C1 := L1 w (Below.refl _ _)
  have HL2 := Lib.hid L2
  have HL3 := Lib.hid L3
  have HLA := Lib.hid LA
  have hnj5 : nj ≤ 1001 := by omega
  have hnl5 : nl ≤ 501 := by omega
  have HNJ := Lib.hid hnj
  have HNL := Lib.hid hnl
  have HD := Lib.hid hD
  clear L1 L2 L3 LA HG hnj hnl hD hnt hm'
  go_enter Tryd.func5, Tryd.ntmps5
  go_upto_region 12 with (first | (go_at_call 8; refine C1.mono ?_; rintro e w1 ⟨A1, c1, rfl, t1, hb1⟩; have C2 := HL2.out _ hb1; clear C1) | (go_at_call 8; refine C2.mono ?_; rintro e w2 ⟨A2, c2, rfl, t2, hb2⟩; have HB2 := below_next hb1 hb1.size hb2; have C3 := HL3.out _ HB2; clear C2) | (go_at_call 8; refine C3.mono ?_; rintro e w3 ⟨A3, c3, rfl, t3, hb3⟩; have HB3 := below_next HB2 HB2.size hb3; clear C3) | (go_at_call 9; refine (n1 _ _).mono ?_; rintro e w' ⟨rfl, rfl⟩))
  obtain ⟨gl, rfl, _, d1⟩ := ((t1.below hb2).below hb3) (by simp)
  obtain ⟨gk, rfl, _, d2⟩ := (t2.below hb3) hne
  obtain ⟨gj, rfl, _, d3⟩ := t3 hne2
  have D1 := Lib.hid d1
  have D2 := Lib.hid d2
  have D3 := Lib.hid d3
  have HB := Lib.hid HB3
  clear d1 d2 d3 t1 t2 t3 hb1 hb2 hb3 HB2 HB3 HL2 HL3
  obtain ⟨w3', rfl⟩ : ∃ W : World, W = w3 := ⟨_, rfl⟩
  go_wp2_with fail
  go_loopw [14, 15] (fun i x wr => ∃ i' : Nat, i' ≤ nj ∧ i = .int .i64 i' ∧ Hid (Below w3'.heap.size w3' wr)) (fun i _ _ => nj - (intOf i).toNat)
  case atStart => exact ⟨0, by omega, rfl, Lib.hid (Below.refl _ _)⟩
  case round =>
    obtain ⟨i, hi, rfl, HW⟩ := hrel
    obtain ⟨wo, rfl⟩ : ∃ wo : World, wo = wr := ⟨_, rfl⟩
    by_cases hlt : i < nj
    · have hlt' : (i : Int) < (nj : Int) := by omega
      by_cases hin : i < nt
      · obtain ⟨u, hu1, hu2⟩ := HJA.out i hin
        have c0 := cell_later HW.out (D3.out i u hu1).1
        have c1' := cell_later HW.out (D3.out i u hu1).2.1
        have c2' := cell_later HW.out (D3.out i u hu1).2.2
        have b0 := cell_later HW.out (D1.out i u hu2).1
        have b1 := cell_later HW.out (D1.out i u hu2).2.1
        have b2 := cell_later HW.out (D1.out i u hu2).2.2
        obtain ⟨k, l, a⟩ := u
        simp only at c0 c1' c2' b0 b1 b2
        have q1 : decide ((i : Int) < (nt : Int)) = true := decide_eq_true (by omega)
        have q2 : decide (i < nt) = true := decide_eq_true hin
        have q3 : decide (nt ≤ i) = false := decide_eq_false (by omega)
        have q4 : decide ((nt : Int) ≤ (i : Int)) = false := decide_eq_false (by omega)
        have q5 : (i : Int) < (nl : Int) := by have := HNL.out; omega
        go_upto_region 15 with fail
        refine region_in (Below wo.heap.size wo) (by kernel_rfl) (by kernel_rfl) (Below.refl _ _).drew (fun inst => ?_)
        have x0 := fun x : WIn (Below wo.heap.size wo) => cell_later x.h c0
        have x1 := fun x : WIn (Below wo.heap.size wo) => cell_later x.h c1'
        have x2 := fun x : WIn (Below wo.heap.size wo) => cell_later x.h c2'
        have y0 := fun x : WIn (Below wo.heap.size wo) => cell_later x.h b0
        have y1 := fun x : WIn (Below wo.heap.size wo) => cell_later x.h b1
        have y2 := fun x : WIn (Below wo.heap.size wo) => cell_later x.h b2
        iterate 16 (go_big_quiet_step (fail))
        refine wpQuiet_nil ?_
        intro wd hbd
        have HW2 := Lib.hid (below_next HW.out HW.out.size hbd)
        clear x0 x1 x2 y0 y1 y2 c0 c1' c2' b0 b1 b2 inst hbd
        go_wp2_with fail
        exact ⟨⟨i + 1, by omega, by go_num, HW2⟩, by simp [intOf]; omega⟩
      · obtain ⟨u, hu1, hu2, hua⟩ := HJB.out i (by omega) hlt
        obtain ⟨q, hq⟩ : ∃ q, i - nt = q := ⟨_, rfl⟩
        rw [hq] at hu1
        obtain ⟨k, l, a⟩ := u
        obtain ⟨Z, hZ⟩ : ∃ Z, a + D = Z := ⟨_, rfl⟩
        have hZ2 : a + s.size + 1 = Z := by have := HD.out; omega
        have c0 := cell_later HW.out (D3.out i _ hu2).1
        have c1' := cell_later HW.out (D3.out i _ hu2).2.1
        have c2' := cell_later HW.out (D3.out i _ hu2).2.2
        have b0 := cell_later HW.out (D2.out q _ hu1).1
        have b1 := cell_later HW.out (D2.out q _ hu1).2.1
        have b2 := cell_later HW.out (D2.out q _ hu1).2.2
        simp only [shT, hZ] at c0 c1' c2' b0 b1 b2
        have hua' : a ≤ 500 := hua
        have q1 : decide ((i : Int) < (nt : Int)) = false := decide_eq_false (by omega)
        have q2 : decide (i < nt) = false := decide_eq_false (by omega)
        have q3 : decide (nt ≤ i) = true := decide_eq_true (by omega)
        have q4 : decide ((nt : Int) ≤ (i : Int)) = true := decide_eq_true (by omega)
        have e4 : IntKind.i64.wrap ((i : Int) - nl) = (i : Int) - nl := IntWalk.i64_in _ (by omega)
        have e5 : IntKind.i64.wrap ((i : Int) - nl + 1) = (q : Int) := by have := HNL.out; rw [IntWalk.i64_in _ (by omega)]; omega
        have e6 : IntKind.i64.wrap ((a : Int) + s.size) = (a : Int) + s.size := IntWalk.i64_in _ (by omega)
        have e7 : IntKind.i64.wrap ((a : Int) + s.size + 1) = (Z : Int) := by rw [IntWalk.i64_in _ (by omega)]; omega
        have q5 : (q : Int) < (m : Int) := by have := HNJ.out; omega
        clear hZ hZ2 hq hu1 hu2 hua
        go_upto_region 15 with fail
        refine region_in (Below wo.heap.size wo) (by kernel_rfl) (by kernel_rfl) (Below.refl _ _).drew (fun inst => ?_)
        iterate 16 (go_big_quiet_step (fail))
        refine wpQuiet_nil ?_
        intro wd hbd
        have c0 := cell_later hbd c0
        have c1' := cell_later hbd c1'
        have c2' := cell_later hbd c2'
        have b0 := cell_later hbd b0
        have b1 := cell_later hbd b1
        have b2 := cell_later hbd b2
        have HWd := Lib.hid (below_next HW.out HW.out.size hbd)
        clear inst hbd HW
        go_upto_region 19 with fail
        refine at_world (fun W => Hid (Below wd.heap.size wd W) ∧ W.cell? ⟨wd.heap.size, 0, none⟩ = some (.int .i64 k) ∧ W.cell? ⟨wd.heap.size, 1, none⟩ = some (.string ⟨l.toArray⟩) ∧ W.cell? ⟨wd.heap.size, 2, none⟩ = some (.int .i64 a) ∧ W.frozen? ⟨wd.heap.size, 2, none⟩ = false) ⟨Lib.hid ((Below.refl _ _).alloc (Nat.le_refl _) _), by simp [go_sem], by simp [go_sem], by simp [go_sem], by simp [go_sem]⟩ ?_
        intro W2 ⟨HW2, x0, x1, x2, xf⟩
        have c0 := cell_later HW2.out c0
        have c1' := cell_later HW2.out c1'
        have c2' := cell_later HW2.out c2'
        have hlt3 : ∀ o : Nat, (⟨wd.heap.size, 2, none⟩ : Addr) ≠ ⟨gj, o, none⟩ := fun o h => by
          injection h with h1 _
          have h2 := cell_lt c0
          have h4 := HWd.out.size
          have h3 : gj < wd.heap.size := by omega
          omega
        go_upto_region 20 with fail
        refine at_world (fun W => Hid (Below wd.heap.size wd W) ∧ W.cell? ⟨wd.heap.size, 0, none⟩ = some (.int .i64 k) ∧ W.cell? ⟨wd.heap.size, 1, none⟩ = some (.string ⟨l.toArray⟩) ∧ W.cell? ⟨wd.heap.size, 2, none⟩ = some (.int .i64 Z) ∧ W.cell? ⟨gj, i * 3, none⟩ = some (.int .i64 k) ∧ W.cell? ⟨gj, i * 3 + 1, none⟩ = some (.string ⟨l.toArray⟩) ∧ W.cell? ⟨gj, i * 3 + 2, none⟩ = some (.int .i64 Z)) ⟨Lib.hid (HW2.out.setCell (p := ⟨wd.heap.size, 2, none⟩) (Nat.le_refl _) _), (World.cell?_setCell_other _ _ _ _ (by simp)).trans x0, (World.cell?_setCell_other _ _ _ _ (by simp)).trans x1, World.cell?_setCell_same _ _ _ x2, (World.cell?_setCell_other _ _ _ _ (hlt3 _)).trans c0, (World.cell?_setCell_other _ _ _ _ (hlt3 _)).trans c1', (World.cell?_setCell_other _ _ _ _ (hlt3 _)).trans c2'⟩ ?_
        obtain ⟨b15, hb15⟩ : ∃ b, wd.heap.size = b := ⟨_, rfl⟩
        simp only [hb15]
        clear c0 c1' c2' b0 b1 b2 x0 x1 x2 xf hlt3 HW2 W2
        intro W3 ⟨HW3, x0, x1, x2, c0, c1', c2'⟩
        rw [← hb15] at HW3
        have HW4 := Lib.hid (below_next HWd.out HWd.out.size HW3.out)
        clear hb15 HW3 HWd
        refine region_in (Below W3.heap.size W3) (by kernel_rfl) (by kernel_rfl) (Below.refl _ _).drew (fun inst => ?_)
        have r0 := fun x : WIn (Below W3.heap.size W3) => cell_later x.h c0
        have r1 := fun x : WIn (Below W3.heap.size W3) => cell_later x.h c1'
        have r2 := fun x : WIn (Below W3.heap.size W3) => cell_later x.h c2'
        have y0 := fun x : WIn (Below W3.heap.size W3) => cell_later x.h x0
        have y1 := fun x : WIn (Below W3.heap.size W3) => cell_later x.h x1
        have y2 := fun x : WIn (Below W3.heap.size W3) => cell_later x.h x2
        iterate 6 (go_big_quiet_step (fail))
        refine wpQuiet_nil ?_
        intro w5 hb5
        have HW5 := Lib.hid (below_next HW4.out HW4.out.size hb5)
        clear r0 r1 r2 y0 y1 y2 c0 c1' c2' x0 x1 x2 inst hb5
        go_wp2_with fail
        exact ⟨⟨i + 1, by omega, by go_num, HW5⟩, by simp [intOf]; omega⟩
    · obtain rfl : i = nj := by omega
      have HB4 := Lib.hid (below_next HB.out HB.out.size HW.out)
      have HA := HLA.out _ HB4.out
      clear hlt hi
      go_wp2_with (go_at_call 7; refine HA.mono ?_; rintro e w4 ⟨rfl, hb4⟩)
      go_ret
      exact ⟨rfl, below_next HB4.out HB4.out.size hb4⟩
set_option maxRecDepth 100000 in
set_option maxHeartbeats 800000 in
theorem lexJoins_c (aL aW : Addr) (s t : ByteArray) (w : World) (hg : GL aL aW w) : Calls Tryd.prog 5 #[.string s, .string t] w fun e w' => e = .returned (.bool true) ∧ Below w.heap.size w w' := by
  by_cases hs : 500 < s.size
  · have g1 : decide ((500 : Int) < (s.size : Int)) = true := decide_eq_true (by omega)
    have HA := awake2_c aL aW w hg
    go_enter Tryd.func5, Tryd.ntmps5
    go_wp2_with (go_at_call 7; refine HA.mono ?_; rintro e w1 ⟨rfl, hb⟩)
    go_ret
    exact ⟨rfl, hb⟩
  · have g1 : decide ((500 : Int) < (s.size : Int)) = false := decide_eq_false (by omega)
    by_cases ht : 500 < t.size
    · have g2 : decide ((500 : Int) < (t.size : Int)) = true := decide_eq_true (by omega)
      have HA := awake2_c aL aW w hg
      go_enter Tryd.func5, Tryd.ntmps5
      go_wp2_with (go_at_call 7; refine HA.mono ?_; rintro e w1 ⟨rfl, hb⟩)
      go_ret
      exact ⟨rfl, hb⟩
    · have g2 : decide ((500 : Int) < (t.size : Int)) = false := decide_eq_false (by omega)
      have hLs : s.data.toList.length = s.size := (Lib.size_eq s).symm
      have hLt : t.data.toList.length = t.size := (Lib.size_eq t).symm
      have hcat : IntKind.i64.max = 9223372036854775807 := rfl
      have hz1 : (s ++ ⟨#[10]⟩).size = s.size + 1 := by rw [ByteArray.size_append]; rfl
      have hz2 : ((s ++ ⟨#[10]⟩) ++ t).size = s.size + 1 + t.size := by rw [ByteArray.size_append, hz1]
      have hdt : ((s ++ ⟨#[10]⟩) ++ t).data.toList = s.data.toList ++ [10] ++ t.data.toList := by simp
      have n1 := fun (E : Int) (W : World) => num_c E W
      have HG := Lib.hid hg
      obtain ⟨J, hJ⟩ : ∃ J : ByteArray, (s ++ ⟨#[10]⟩) ++ t = J := ⟨_, rfl⟩
      rw [hJ] at hz2 hdt
      rcases lexR_joins s.data.toList t.data.toList (by omega) (by omega) with ⟨E, p, E', p', hA, hE, hR, hE'⟩ | ⟨ta, E, p, p', hA, hB, hE, hR, hp⟩ | ⟨ta, us, hA, hB, hne, hm, htl, hat, hR⟩
      · rw [← hdt] at hR
        have L1 := fun (W : World) (hW : Below w.heap.size w W) => lex_say (hg.below hW) (by omega) hA (n := 0) rfl
        obtain ⟨tb, hB⟩ : ∃ tb, lexR t.data.toList = tb := ⟨_, rfl⟩
        obtain ⟨tb, E2, p2⟩ := tb
        have L2 := fun (W : World) (hW : Below w.heap.size w W) => lex_say (hg.below hW) (by omega) hB rfl
        have L3 := fun (W : World) (hW : Below w.heap.size w W) => lex_say (hg.below hW) (by omega) hR (n := 0) rfl
        have g3 : (E != 0) = true := by rw [bne_iff_ne]; exact hE
        have g4 : (E' != 0) = true := by rw [bne_iff_ne]; exact hE'
        have LA := fun (W : World) (hW : Below w.heap.size w W) => awake2_c aL aW W (hg.below hW)
        clear hA hB hR hdt hg
        have C1 := L1 w (Below.refl _ _)
        have HL2 := Lib.hid L2
        have HL3 := Lib.hid L3
        have HLA := Lib.hid LA
        clear L1 L2 L3 LA hE hE' HG
        go_enter Tryd.func5, Tryd.ntmps5
        go_wp2_with (first | (go_at_call 8; refine C1.mono ?_; rintro e w1 ⟨A1, c1, rfl, t1, hb1⟩; have C2 := HL2.out _ hb1; clear C1 t1) | (go_at_call 8; refine C2.mono ?_; rintro e w2 ⟨A2, c2, rfl, t2, hb2⟩; have HB2 := below_next hb1 hb1.size hb2; have C3 := HL3.out _ HB2; clear C2 t2 hb2) | (go_at_call 8; refine C3.mono ?_; rintro e w3 ⟨A3, c3, rfl, t3, hb3⟩; have HB3 := below_next HB2 HB2.size hb3; have HA := HLA.out _ HB3; clear C3 t3 hb3) | (go_at_call 9; refine (n1 _ _).mono ?_; rintro e w' ⟨rfl, rfl⟩) | (go_at_call 7; refine HA.mono ?_; rintro e w4 ⟨rfl, hb4⟩))
        go_ret
        exact ⟨rfl, below_next HB3 HB3.size hb4⟩
      · rw [← hdt] at hR
        have L1 := fun (W : World) (hW : Below w.heap.size w W) => lex_say (hg.below hW) (by omega) hA rfl
        have L2 := fun (W : World) (hW : Below w.heap.size w W) => lex_say (hg.below hW) (by omega) hB (n := 0) rfl
        have L3 := fun (W : World) (hW : Below w.heap.size w W) => lex_say (hg.below hW) (by omega) hR (n := 0) rfl
        have g3 : (E != 0) = true := by rw [bne_iff_ne]; exact hE
        have g5 : (E == E) = true := by simp
        have g4 : decide ((s.size : Int) < p') = true := decide_eq_true (by omega)
        have LA := fun (W : World) (hW : Below w.heap.size w W) => awake2_c aL aW W (hg.below hW)
        clear hA hB hR hdt hg
        have C1 := L1 w (Below.refl _ _)
        have HL2 := Lib.hid L2
        have HL3 := Lib.hid L3
        have HLA := Lib.hid LA
        clear L1 L2 L3 LA hE HG
        go_enter Tryd.func5, Tryd.ntmps5
        go_wp2_with (first | (go_at_call 8; refine C1.mono ?_; rintro e w1 ⟨A1, c1, rfl, t1, hb1⟩; have C2 := HL2.out _ hb1; clear C1 t1) | (go_at_call 8; refine C2.mono ?_; rintro e w2 ⟨A2, c2, rfl, t2, hb2⟩; have HB2 := below_next hb1 hb1.size hb2; have C3 := HL3.out _ HB2; clear C2 t2 hb2) | (go_at_call 8; refine C3.mono ?_; rintro e w3 ⟨A3, c3, rfl, t3, hb3⟩; have HB3 := below_next HB2 HB2.size hb3; have HA := HLA.out _ HB3; clear C3 t3 hb3) | (go_at_call 9; refine (n1 _ _).mono ?_; rintro e w' ⟨rfl, rfl⟩) | (go_at_call 7; refine HA.mono ?_; rintro e w4 ⟨rfl, hb4⟩))
        go_ret
        exact ⟨rfl, below_next HB3 HB3.size hb4⟩
      · exact lexJoins3_c aL aW s t J w hg g1 g2 (by omega) (by omega) hLs hcat hz1 hz2 hdt hJ ta us hA hB hne hm htl hat hR
end Go.Proofs.YtfdlkbkheginlaaDoor.C
