/- The walk of LexPlaces. -/
import Derived.Test.YtfdlkbkheginlaaDoorLaw2
namespace Go.Proofs.YtfdlkbkheginlaaDoor.C
open Go.RowKit
set_option linter.unusedSimpArgs false
set_option linter.unusedVariables false
theorem lexR_cases (L : List UInt8) (h : L.length ≤ 8192) : (∃ ts, lexL L 0 = (ts, none) ∧ lexR L = (ts ++ [⟨0, [], L.length⟩], 0, 0)) ∨ (∃ (E : Int) (p : Nat), lexR L = ([], E, ((p : Nat) : Int)) ∧ E ≠ 0 ∧ p ≤ L.length ∧ (lexL L 0).2 = some (E, p)) := by
  obtain ⟨⟨ts, x⟩, hx⟩ : ∃ r, lexL L 0 = r := ⟨_, rfl⟩
  rw [hx]
  cases x with
  | none => exact .inl ⟨ts, hx ▸ rfl, lexR_ok (by omega) hx⟩
  | some x =>
    obtain ⟨E, p⟩ := x
    have := lexL_place L.length L 0 E p (Nat.le_refl _) (by rw [hx])
    exact .inr ⟨E, p, lexR_err (by omega) hx, this.2.2, by omega, rfl⟩
theorem remI_decide (r : Bool) (c : Int) : remI r c = ((r || (c == 35)) && (c != 10)) := by
  unfold remI
  rfl
theorem gap_step {r q : Bool} {l : List UInt8} {k : Nat} (hk : k < l.length) (hq : gapRun r (l.take k) = some q) {b : Bool} (hb : gapRun r l = some b) :
    gapRun r (l.take (k + 1)) = some (remI q (chI l k)) ∧ (remI q (chI l k) || blankI (chI l k)) = true := by
  have e : l.take (k + 1) = l.take k ++ [l.getD k 0] := by rw [List.take_succ_eq_append_getElem hk]; simp [List.getD, hk]
  have e2 : l = l.take (k + 1) ++ l.drop (k + 1) := (List.take_append_drop _ _).symm
  have h1 : gapRun r (l.take (k + 1)) = gapRun q [l.getD k 0] := by rw [e, gapRun_append, hq]; rfl
  have h2 : ∃ q', gapRun r (l.take (k + 1)) = some q' := by
    rw [e2, gapRun_append] at hb
    cases h : gapRun r (l.take (k + 1)) with
    | none => rw [h] at hb; cases hb
    | some q' => exact ⟨q', rfl⟩
  obtain ⟨q', h2⟩ := h2
  rw [h2] at h1
  unfold gapRun at h1
  split at h1
  · rename_i h3
    unfold gapRun at h1
    injection h1 with h1
    exact ⟨by rw [h2, h1]; rfl, h3⟩
  · cases h1
theorem chI_take {l : List UInt8} {m k : Nat} (h : k < m) : chI (l.take m) k = chI l k := by
  unfold chI
  simp [List.getD, h]
/-- What the bytes between two tokens leave, place by place. -/
theorem gap_at {L : List UInt8} {e a j : Nat} {b q : Bool} (hej : e ≤ j) (hja : j < a) (ha : a ≤ L.length) (hb : gapRun false ((L.drop e).take (a - e)) = some b) (hq : gapRun false ((L.drop e).take (j - e)) = some q) :
    gapRun false ((L.drop e).take (j + 1 - e)) = some (remI q (chI L j)) ∧ (remI q (chI L j) || blankI (chI L j)) = true := by
  have hl : ((L.drop e).take (a - e)).length = a - e := by simp; omega
  have h := gap_step (r := false) (q := q) (l := (L.drop e).take (a - e)) (k := j - e) (by omega) (by rw [List.take_take, Nat.min_eq_left (by omega)]; exact hq) hb
  rw [List.take_take, Nat.min_eq_left (by omega), show j - e + 1 = j + 1 - e by omega, chI_take (by omega), chI_drop, show e + (j - e) = j by omega] at h
  exact h
set_option maxRecDepth 100000 in
set_option maxHeartbeats 6400000 in
theorem lexPlaces_c (aL aW : Addr) (s : ByteArray) (w : World) (hg : GL aL aW w) : Calls Tryd.prog 3 #[.string s] w fun e w' => e = .returned (.bool true) ∧ Below w.heap.size w w' := by
  by_cases hbig : 2000 < s.size
  · have g1 : (2000 : Int) < (s.size : Int) := by omega
    have HA := awake2_c aL aW w hg
    go_enter Tryd.func3, Tryd.ntmps3
    go_wp2_with (go_at_call 7; refine HA.mono ?_; rintro e w1 ⟨rfl, hb⟩)
    go_ret
    exact ⟨rfl, hb⟩
  · have g1 : ¬ (2000 : Int) < (s.size : Int) := by omega
    have hL : s.data.toList.length = s.size := (Lib.size_eq s).symm
    rcases lexR_cases s.data.toList (by omega) with ⟨ts, hx, hR⟩ | ⟨E, p, hR, hE, hp, _⟩
    · have hch := lex_chain s.data.toList s.data.toList.length 0 0 false ts (by omega) (by omega) (Nat.le_refl _) (by simp [gapRun]) (by simp) (by rw [List.drop_zero]; exact hx)
      obtain ⟨us, hus⟩ : ∃ us, ts ++ [⟨0, [], s.data.toList.length⟩] = us := ⟨_, rfl⟩
      rw [hus] at hR hch
      obtain ⟨n, hn⟩ : ∃ n, us.length = n := ⟨_, rfl⟩
      have hlast : us[n - 1]? = some ⟨0, [], s.size⟩ := by rw [← hn, ← hus]; simp [hL]
      have hn0 : 0 < n := by rw [← hn, ← hus]; simp
      have hun : us ≠ [] := by rw [← hus]; simp
      have hnm : n ≤ 2001 := by
        have := lexL_count s.data.toList.length s.data.toList 0 (Nat.le_refl _)
        rw [hx] at this
        simp only at this
        rw [← hn, ← hus, List.length_append]
        simp
        omega
      have HL := lex_say hg (by omega) hR hn
      clear hus hx hR
      have hG := hg
      go_enter Tryd.func3, Tryd.ntmps3
      go_upto_region 6 with (first | (go_at_call 8; refine HL.mono ?_; rintro e w1 ⟨A, c, rfl, ht, hb⟩) | (go_at_call 9; refine (num_c _ _).mono ?_; rintro e w' ⟨rfl, rfl⟩))
      obtain ⟨g, rfl, hgz, hc⟩ := ht hun
      have HCh := Lib.hid hch
      have HB := Lib.hid hb
      have HC := Lib.hid hc
      clear hch hb hc ht HL
      obtain ⟨w1', rfl⟩ : ∃ W : World, W = w1 := ⟨_, rfl⟩
      go_wp2_with fail
      go_loopw [6, 7, 8, 9, 10, 11] (fun en i x8 x9 x10 x11 wr => ∃ (i' e' : Nat), i' ≤ n ∧ e' ≤ s.size ∧ en = .int .i64 e' ∧ i = .int .i64 i' ∧ Hid (ChainT s.data.toList e' (us.drop i')) ∧ Hid (Below w1'.heap.size w1' wr)) (fun _ i _ _ _ _ _ => n - (intOf i).toNat)
      case atStart => exact ⟨0, 0, by omega, by omega, rfl, rfl, HCh, Lib.hid (Below.refl _ _)⟩
      case round =>
        clear HCh
        obtain ⟨i, e, hi, he, rfl, rfl, HCh, HW⟩ := hrel
        obtain ⟨wo, rfl⟩ : ∃ wo : World, wo = wr := ⟨_, rfl⟩
        by_cases hlt : i < n
        · have hlt' : (i : Int) < (n : Int) := by omega
          obtain ⟨t, ht⟩ : ∃ t, us[i]? = some t := ⟨_, List.getElem?_eq_getElem (by omega)⟩
          have hdrop : us.drop i = t :: us.drop (i + 1) := by
            rw [List.drop_eq_getElem_cons (by omega)]
            congr 1
            have := List.getElem?_eq_getElem (l := us) (i := i) (by omega)
            rw [ht] at this
            injection this with this
            exact this.symm
          have hch := HCh.out
          rw [hdrop] at hch
          obtain ⟨h1, ⟨gb, h2⟩, h3, h4, h5, h6⟩ := hch
          obtain ⟨c0, c1, c2⟩ := HC.out i t ht
          have c0 := cell_later HW.out c0
          have c1 := cell_later HW.out c1
          have c2 := cell_later HW.out c2
          obtain ⟨kd, tl, at_⟩ := t
          simp only at h1 h2 h3 h4 h5 h6 c0 c1 c2
          obtain ⟨tx, htx⟩ : ∃ tx : ByteArray, (⟨tl.toArray⟩ : ByteArray) = tx := ⟨_, rfl⟩
          have hsz : tx.size = tl.length := by rw [← htx]; rfl
          rw [← hsz] at h4 h5 h6
          have hxt : s.extract at_ (at_ + tx.size) = tx := by rw [Lib.extract_eq, show at_ + tx.size - at_ = tx.size by omega, h5, htx]
          rw [htx] at c1
          have hq : (kd == 0) = ((i : Int) == (n : Int) - 1) := by
            rw [Bool.eq_iff_iff, beq_iff_eq, beq_iff_eq, h3]
            constructor
            · intro h
              have := congrArg List.length h
              simp at this
              omega
            · intro h
              exact List.drop_of_length_le (by omega)
          obtain ⟨q, hq2⟩ : ∃ q, ((i : Int) == (n : Int) - 1) = q := ⟨_, rfl⟩
          rw [hq2] at hq
          have HCh2 := Lib.hid h6
          have HG2 := Lib.hid h2
          clear h6 h5 h3 h2 HCh hdrop ht htx hsz
          go_upto_region 11 with fail
          refine at_world (fun W => Hid (Below w1'.heap.size w1' W) ∧ W.cell? ⟨wo.heap.size, 0, none⟩ = some (.int .i64 kd) ∧ W.cell? ⟨wo.heap.size, 1, none⟩ = some (.string tx) ∧ W.cell? ⟨wo.heap.size, 2, none⟩ = some (.int .i64 at_)) ⟨Lib.hid (HW.out.alloc HW.out.size _), by simp [go_sem], by simp [go_sem], by simp [go_sem]⟩ ?_
          obtain ⟨b8, hb8⟩ : ∃ b, wo.heap.size = b := ⟨_, rfl⟩
          simp only [hb8]
          clear c0 c1 c2 HW hb8
          intro W2 ⟨HW2, d0, d1, d2⟩
          have s1 : IntKind.i64.wrap ((at_ : Int) + tx.size) = (at_ : Int) + tx.size := IntWalk.i64_in _ (by omega)
          have s2 : ((at_ : Int) + tx.size).toNat = at_ + tx.size := by omega
          have s3 : IntKind.i64.wrap ((n : Int) - 1) = (n : Int) - 1 := IntWalk.i64_in _ (by have := hnm; omega)
          have q1 : ¬ ((at_ : Int) < (e : Int)) := by omega
          have q1n : ¬ at_ < e := by omega
          have q1d : decide (at_ < e) = false := decide_eq_false q1n
          have q2n : decide ((s.size : Int) < (at_ : Int) + tx.size) = false := decide_eq_false (by omega)
          have q2 : ¬ ((s.size : Int) < (at_ : Int) + tx.size) := by omega
          have q3 : (at_ : Int) ≤ (at_ : Int) + tx.size := by omega
          have q4 : (at_ : Int) + tx.size ≤ (s.size : Int) := by omega
          have q5 : (0 : Int) ≤ (at_ : Int) + tx.size := by omega
          go_wp2_with fail
          refine region_in (Below W2.heap.size W2) (by kernel_rfl) (by kernel_rfl) (Below.refl _ _).drew (fun inst => ?_)
          have dq0 := fun x : WIn (Below W2.heap.size W2) => cell_later x.h d0
          have dq1 := fun x : WIn (Below W2.heap.size W2) => cell_later x.h d1
          have dq2 := fun x : WIn (Below W2.heap.size W2) => cell_later x.h d2
          clear d0 d1
          iterate 41 (go_big_quiet_step (fail))
          refine wpQuiet_nil ?_
          intro w3 hb3
          have HW3 := Lib.hid (below_next HW2.out HW2.out.size hb3)
          have d1 := dq1 ⟨w3, hb3⟩
          have d2 := cell_later hb3 d2
          simp only at d1
          clear hb3 HW2 dq0 dq1 dq2 inst hq hq2 q1d q1n q2n
          obtain ⟨w3', rfl⟩ : ∃ W : World, W = w3 := ⟨_, rfl⟩
          go_wp2_with fail
          go_loop [9, 10, 11] (fun rm k x11 => ∃ (j : Nat) (r : Bool), e ≤ j ∧ j ≤ at_ ∧ rm = .bool r ∧ k = .int .i64 j ∧ Hid (gapRun false ((s.data.toList.drop e).take (j - e)) = some r)) (fun _ k _ => at_ - (intOf k).toNat)
          case atStart => exact ⟨e, false, Nat.le_refl _, h1, rfl, rfl, Lib.hid (by simp [gapRun])⟩
          case round =>
            obtain ⟨j, r, hej, hja, rfl, rfl, HR⟩ := hrel
            by_cases hjl : j < at_
            · have j1 : (j : Int) < (at_ : Int) := by omega
              have j2 : (j : Int) < (s.size : Int) := by omega
              have hjs : j < s.size := by omega
              obtain ⟨hg1, hg2⟩ := gap_at hej hjl (by omega) HG2.out HR.out
              obtain ⟨z, hz⟩ : ∃ z : Int, ((s[j]'hjs).toNat : Int) = z := ⟨_, rfl⟩
              have hzc : chI s.data.toList j = z := by rw [chI_get s j hjs, hz]
              rw [hzc] at hg1 hg2
              have HR2 : Hid (∀ r', remI r z = r' → gapRun false ((s.data.toList.drop e).take (j + 1 - e)) = some r') := Lib.hid (fun r' h => by rw [← h]; exact hg1)
              clear hg1 hzc HR
              by_cases h35 : z = 35
              · have f35 : (((s[j]'hjs).toNat : Int) == 35) = true := by rw [hz, h35]; rfl
                have f10 : (((s[j]'hjs).toNat : Int) != 10) = true := by rw [hz, h35]; rfl
                have HR3 := Lib.hid (HR2.out true (by rw [h35]; cases r <;> rfl))
                clear HR2 hg2 hz h35
                cases r <;> (go_wp2_with fail; exact ⟨⟨j + 1, true, by omega, by omega, rfl, by go_num, HR3⟩, by simp [intOf]; omega⟩)
              · have f35 : (((s[j]'hjs).toNat : Int) == 35) = false := by rw [hz, beq_eq_false_iff_ne]; exact h35
                by_cases h10 : z = 10
                · have f10 : (((s[j]'hjs).toNat : Int) != 10) = false := by rw [hz, h10]; rfl
                  have f32 : (((s[j]'hjs).toNat : Int) != 32) = true := by rw [hz, h10]; rfl
                  have f9 : (((s[j]'hjs).toNat : Int) != 9) = true := by rw [hz, h10]; rfl
                  have HR3 := Lib.hid (HR2.out false (by rw [h10]; cases r <;> rfl))
                  clear HR2 hg2 hz h35 h10
                  cases r <;> (go_wp2_with fail; exact ⟨⟨j + 1, false, by omega, by omega, rfl, by go_num, HR3⟩, by simp [intOf]; omega⟩)
                · have f10 : (((s[j]'hjs).toNat : Int) != 10) = true := by rw [hz, bne_iff_ne]; exact h10
                  have HR3 := Lib.hid (HR2.out r (by unfold remI; rw [decide_eq_false h35, decide_eq_false h10]; cases r <;> rfl))
                  cases r
                  · have hb : z = 32 ∨ z = 9 ∨ z = 13 := by
                      unfold remI blankI at hg2
                      simp [h35, h10] at hg2
                      omega
                    clear HR2 hg2 h35 h10
                    rcases hb with hb | hb | hb
                    · have f32 : (((s[j]'hjs).toNat : Int) != 32) = false := by rw [hz, hb]; rfl
                      clear hz hb
                      go_wp2_with fail
                      exact ⟨⟨j + 1, false, by omega, by omega, rfl, by go_num, HR3⟩, by simp [intOf]; omega⟩
                    · have f32 : (((s[j]'hjs).toNat : Int) != 32) = true := by rw [hz, hb]; rfl
                      have f9 : (((s[j]'hjs).toNat : Int) != 9) = false := by rw [hz, hb]; rfl
                      clear hz hb
                      go_wp2_with fail
                      exact ⟨⟨j + 1, false, by omega, by omega, rfl, by go_num, HR3⟩, by simp [intOf]; omega⟩
                    · have f32 : (((s[j]'hjs).toNat : Int) != 32) = true := by rw [hz, hb]; rfl
                      have f9 : (((s[j]'hjs).toNat : Int) != 9) = true := by rw [hz, hb]; rfl
                      have f13 : (((s[j]'hjs).toNat : Int) != 13) = false := by rw [hz, hb]; rfl
                      clear hz hb
                      go_wp2_with fail
                      exact ⟨⟨j + 1, false, by omega, by omega, rfl, by go_num, HR3⟩, by simp [intOf]; omega⟩
                  · clear HR2 hg2 hz h35 h10
                    go_wp2_with fail
                    exact ⟨⟨j + 1, true, by omega, by omega, rfl, by go_num, HR3⟩, by simp [intOf]; omega⟩
            · obtain rfl : j = at_ := by omega
              clear hjl hja HR HG2
              go_wp2_with fail
              exact ⟨⟨i + 1, j + tx.size, by omega, by omega, by go_num, by go_num, HCh2, HW3⟩, by simp [intOf]; omega⟩
        · obtain rfl : i = n := by omega
          obtain ⟨c0, c1, c2⟩ := HC.out (i - 1) _ hlast
          have c2 := cell_later HW.out c2
          simp only at c2
          have s3 : IntKind.i64.wrap ((i : Int) - 1) = (i : Int) - 1 := IntWalk.i64_in _ (by omega)
          have s4 : ((i : Int) - 1).toNat = i - 1 := by omega
          have s5 : (0 : Int) ≤ (i : Int) - 1 := by omega
          have s6 : (i : Int) - 1 < (i : Int) := by omega
          have s7 : (0 : Int) < (i : Int) := by omega
          have HA := awake2_c aL aW wo (hG.below (below_next HB.out HB.out.size HW.out))
          clear c0 c1 HCh hi hlt
          go_wp2_with (go_at_call 7; refine HA.mono ?_; rintro e w2 ⟨rfl, hb2⟩)
          go_ret
          exact ⟨rfl, below_next (below_next HB.out HB.out.size HW.out) (below_next HB.out HB.out.size HW.out).size hb2⟩
    · have HL := lex_say hg (by omega) hR (n := 0) rfl
      have g2 : (E != 0) = true := by rw [bne_iff_ne]; exact hE
      have g3 : ((p : Int) ≤ (s.size : Int)) := by omega
      clear hR
      have hG := hg
      go_enter Tryd.func3, Tryd.ntmps3
      go_wp2_with (first | (go_at_call 8; refine HL.mono ?_; rintro e w1 ⟨A, c, rfl, ht, hb⟩; have HA := awake2_c aL aW w1 (hG.below hb)) | (go_at_call 9; refine (num_c _ _).mono ?_; rintro e w' ⟨rfl, rfl⟩) | (go_at_call 7; refine HA.mono ?_; rintro e w2 ⟨rfl, hb2⟩))
      go_ret
      exact ⟨rfl, below_next hb hb.size hb2⟩
end Go.Proofs.YtfdlkbkheginlaaDoor.C
