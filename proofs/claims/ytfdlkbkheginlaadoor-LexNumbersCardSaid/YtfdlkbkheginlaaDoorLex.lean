/- lex.Lex: walk. -/
import Derived.Test.YtfdlkbkheginlaaDoorLexMem
import Derived.Deep.CutBlock
namespace Go.Proofs.YtfdlkbkheginlaaDoor.C
open Go.RowKit
set_option linter.unusedSimpArgs false
set_option linter.unusedVariables false
theorem drop_ne {L : List UInt8} {a : Nat} (h : a < L.length) : L.drop a ≠ [] := by
  intro e
  have := congrArg List.length e
  simp at this
  omega
theorem lexR_ok {L : List UInt8} {ts : List Tok} (hl : ¬ 8192 < L.length) (h : lexL L 0 = (ts, none)) : lexR L = (ts ++ [⟨0, [], L.length⟩], 0, 0) := by
  unfold lexR
  rw [if_neg hl, h]
theorem lexR_err {L : List UInt8} {ts : List Tok} {x : Int × Nat} (hl : ¬ 8192 < L.length) (h : lexL L 0 = (ts, some x)) : lexR L = ([], x.1, (x.2 : Int)) := by
  unfold lexR
  rw [if_neg hl, h]
set_option maxRecDepth 100000 in
set_option maxHeartbeats 6400000 in
theorem lex_c (aL aW : Addr) (s : ByteArray) (w : World) (hg : GL aL aW w) (hs : s.size ≤ 4611686018427387904) :
    Calls Tryd.prog 8 #[.string s] w (LexPost (lexR s.data.toList) w) := by
  obtain ⟨i0, hi, hzz⟩ := Option.map_eq_some_iff.1 infoTok
  simp only [Prod.mk.injEq] at hzz
  have HInf := Lib.hid (And.intro hi hzz)
  clear hi hzz
  have hL : s.data.toList.length = s.size := (Lib.size_eq s).symm
  have HG := Lib.hid hg
  clear hg
  by_cases hbig : 8192 < s.size
  · have g1 : (8192 : Int) < (s.size : Int) := by omega
    have HR : Hid (LexPost (lexR s.data.toList) w (.returned (.tuple #[.slice none 0 0, .int .i64 3, .int .i64 8192])) (w.alloc (.cells #[.string s] 9))) := Lib.hid (by
      unfold lexR
      rw [if_pos (by omega)]
      exact ⟨none, 0, rfl, TR.nil _ _, (Below.refl _ _).alloc (Nat.le_refl _) _⟩)
    clear hbig HG HInf
    go_enter Tryd.func8, Tryd.ntmps8
    go_wp2_with fail
    go_ret3
    exact HR.out
  · have g1 : ¬ (8192 : Int) < (s.size : Int) := by omega
    obtain ⟨R, hR⟩ : ∃ R, lexR s.data.toList = R := ⟨_, rfl⟩
    rw [hR]
    have HRr := Lib.hid hR
    clear hR
    go_enter Tryd.func8, Tryd.ntmps8
    go_upto_region 5 with fail
    refine at_world (fun W => Hid (LexIn w s none [] 0 0 W)) ?_ ?_
    · refine Lib.hid ⟨(by repeat' (first | exact Below.refl _ _ | (refine Below.alloc ?_ ?_ _) | (refine Below.setCell ?_ ?_ _) | (refine Below.drew ?_) | (refine below_next ?_ ?_ (by assumption)) | omega | (simp; done) | (simp; omega))), by simp, by simp [go_sem], by simp [go_sem], by simp [go_sem], ?_⟩
      exact World.ownsRow_nil _ _ _ _
    intro W0 H0
    go_wp2_with fail
    go_loopw [7, 8, 9, 10, 11] (fun o x8 x9 x10 x11 wr => ∃ (a : Nat) (ts : List Tok) (A : Option Addr) (c : Nat), a ≤ s.size ∧ ts.length ≤ a ∧ o = .slice A ts.length c ∧ Hid (lexL s.data.toList 0 = (ts ++ (lexL (s.data.toList.drop a) a).1, (lexL (s.data.toList.drop a) a).2)) ∧ Hid (LexIn w s A ts c a wr)) (fun _ _ _ _ _ wr => s.size - atOf (w.heap.size + 1) wr)
    case atStart => exact ⟨0, [], none, 0, Nat.zero_le _, Nat.le_refl _, rfl, Lib.hid rfl, H0⟩
    case round =>
      clear H0
      obtain ⟨a, ts, A, c, ha, hta, rfl, HX, HI⟩ := hrel
      obtain ⟨wo, rfl⟩ : ∃ wo : World, wo = wr := ⟨_, rfl⟩
      have k0 := HI.out.2.2.1
      have k1 := HI.out.2.2.2.1
      have f1 := HI.out.2.2.2.2.1
      have HA := Lib.hid HI.out.atOf
      by_cases hlt : a < s.size
      · have g2 : (a : Int) < (s.size : Int) := by omega
        have hne : s.data.toList.drop a ≠ [] := drop_ne (by omega)
        by_cases hk : 0 < skipL (s.data.toList.drop a)
        · have HS := skip1_c w.heap.size (w.heap.size + 1) s a wo (by omega) k0 k1 f1 hs hlt hk
          have hX := HX.out
          rw [lexL_skip hne hk, List.drop_drop] at hX
          have hkl : skipL (s.data.toList.drop a) ≤ s.size - a := by
            rcases skipL_le (s.data.toList.drop a) with h | h
            · rw [List.length_drop] at h; omega
            · exact absurd h hne
          obtain ⟨k, hk'⟩ : ∃ k, skipL (s.data.toList.drop a) = k := ⟨_, rfl⟩
          rw [hk'] at HS hX hkl hk
          have HX2 := Lib.hid hX
          clear hX hk' hne f1 HRr HG
          go_wp2_with (go_at_call 12; refine HS.mono ?_; rintro e w1 ⟨rfl, W1, hb1, rfl⟩)
          have HN : Hid (LexIn w s A ts c (a + k) (W1.setCell ⟨w.heap.size + 1, 0, none⟩ (.int .i64 ((a + k : Nat) : Int)))) := Lib.hid ((HI.out.below hb1).set (a + k))
          exact ⟨⟨a + k, ts, A, c, by omega, by omega, rfl, HX2, HN⟩, by refine Nat.lt_of_le_of_lt (Nat.le_of_eq (congrArg (s.size - ·) (show atOf (w.heap.size + 1) (W1.setCell ⟨w.heap.size + 1, 0, none⟩ (.int .i64 ((a : Int) + k))) = a + k from HN.out.atOf))) ?_; rw [HA.out]; omega⟩
        · have hk0 : skipL (s.data.toList.drop a) = 0 := by omega
          have HS := (skip0_c w.heap.size (w.heap.size + 1) s a wo k0 k1 hlt hk0).mono (fun _ _ h => And.intro h.1 h.2.symm)
          have HO := one_c aL aW s a wo (HG.out.below (HI.out.1)) hs hlt
          have hfit := oneL_fits (l := s.data.toList.drop a) (by rw [List.length_drop]; omega)
          have hE := lexL_err hne hk0 (a := a)
          have hT := lexL_tok hne hk0 (a := a)
          rw [List.drop_drop] at hT
          obtain ⟨o, ho⟩ : ∃ o, oneL (s.data.toList.drop a) = o := ⟨_, rfl⟩
          rw [ho] at HO hfit hE hT
          obtain ⟨kd, n, E⟩ := o
          simp only at hfit hE hT
          rw [List.length_drop] at hfit
          clear hk ho hk0 hne f1
          by_cases h0 : E = 0
          · subst h0
            have hX := HX.out
            rw [hT rfl] at hX
            obtain ⟨hf1, hf2⟩ := hfit rfl
            have HX2 : Hid (lexL s.data.toList 0 = ((ts ++ [⟨kd, (s.data.toList.drop a).take n, a⟩]) ++ (lexL (s.data.toList.drop (a + n)) (a + n)).1, (lexL (s.data.toList.drop (a + n)) (a + n)).2)) := Lib.hid (by rw [hX]; simp)
            clear hX HX hE hT hfit HRr
            have e1 : IntKind.i64.wrap ((a : Int) + n) = (a : Int) + n := IntWalk.i64_in _ (by omega)
            have e3 : ((a : Int) + n).toNat = a + n := by omega
            have c1 : (a : Int) ≤ (a : Int) + n := by omega
            have c2 : (a : Int) + n ≤ (s.size : Int) := by omega
            have c0 : (0 : Int) ≤ (a : Int) + n := by omega
            have etx : (⟨((s.data.toList.drop a).take n).toArray⟩ : ByteArray) = s.extract a (a + n) := by rw [Lib.extract_eq, show a + n - a = n by omega]
            have HTX := Lib.hid etx
            clear etx
            go_upto_region 12 with (first | (go_at_call 12; refine HS.mono ?_; rintro e w' ⟨rfl, rfl⟩) | (go_at_call 15; refine HO.mono ?_; rintro e w1 ⟨ev, rfl, he, hb⟩; have HI1 := Lib.hid (HI.out.below hb); have q0 := HI1.out.2.2.1; have q1 := HI1.out.2.2.2.1; have HT := (told_c aL aW ev 0 w1 (HG.out.below (HI1.out.1)) he).mono (fun _ _ h => And.intro h.1 h.2.symm); clear he hb) | (go_at_call 16; refine HT.mono ?_; rintro e w2 ⟨rfl, rfl⟩))
            clear HT HS HO k0 k1 HI
            have qz := HI1.out.2.1
            have HV : Hid (∀ q, (Value.slice A ts.length c).ownBlock = some q → w.heap.size + 2 ≤ q) := Lib.hid (fun q hq => (World.ownsRow.lt HI1.out.2.2.2.2.2 q hq).1)
            have HOw : Hid ((w1.drew.alloc (.cells #[.int .i64 kd, .string (s.extract a (a + n)), .int .i64 a] 29)).ownsRow (w.heap.size + 2) 29 3 (.slice A ts.length c) ts.length (xsT ts)) := Lib.hid (ownT_below HI1.out.2.2.2.2.2 (((Below.refl _ _).drew).alloc (Nat.le_refl _) _))
            have hl8 : ts.length ≤ 8192 := by omega
            go_region_law (first | (refine step_append_lies (w1.drew.alloc (.cells #[.int .i64 kd, .string (s.extract a (a + n)), .int .i64 a] 29)) (by rfl) (.tmp 35) (.tmp 45) 23 (by rfl) (w.heap.size + 2) 29 i0 (.agg #[.int .i64 0, .string ByteArray.empty, .int .i64 0]) 3 32 Tryd.underlying23 HInf.out.1 HInf.out.2.1 HInf.out.2.2.1 HInf.out.2.2.2 rfl (by omega) (.slice A ts.length c) ts.length _ (by rfl) HOw.out ⟨w1.heap.size, 0, none⟩ 1 1 [.int .i64 kd, .string (s.extract a (a + n)), .int .i64 a] (by rfl) rfl (tok_bd w1.drew #[.int .i64 kd, .string (s.extract a (a + n)), .int .i64 a] 29) (by simp [Value.oneCell']) (by omega) (by unfold maxLen; omega) (by omega) (by simp; omega) (w1.heap.size + 1) (by simp) ?_; intro g cap w2 hown hgrow hat hlt2; have HGr := Lib.hid (And.intro hown hgrow); clear hown hgrow hat hlt2))
            all_goals have HN : Hid (LexIn w s (some ⟨g, 0, none⟩) (ts ++ [⟨kd, (s.data.toList.drop a).take n, a⟩]) cap a w2) := Lib.hid (HI1.out.snoc (by rw [show tokV ⟨kd, (s.data.toList.drop a).take n, a⟩ = [.int .i64 kd, .string (s.extract a (a + n)), .int .i64 (a : Int)] by rw [← HTX.out]; rfl]; exact HGr.out.1) HGr.out.2)
            all_goals have r1 := HN.out.2.2.2.1
            all_goals have r2 := HN.out.2.2.2.2.1
            all_goals clear HGr HOw HV q0 q1 qz HI1 HTX
            all_goals go_wp2_with fail
            all_goals have HN2 : Hid (LexIn w s (some ⟨g, 0, none⟩) (ts ++ [⟨kd, (s.data.toList.drop a).take n, a⟩]) cap (a + n) (w2.setCell ⟨w.heap.size + 1, 0, none⟩ (.int .i64 ((a + n : Nat) : Int)))) := Lib.hid (HN.out.set (a + n))
            all_goals exact ⟨⟨a + n, ts ++ [⟨kd, (s.data.toList.drop a).take n, a⟩], some ⟨g, 0, none⟩, cap, by omega, by simp; omega, by simp, HX2, HN2⟩, by refine Nat.lt_of_le_of_lt (Nat.le_of_eq (congrArg (s.size - ·) (show atOf (w.heap.size + 1) (w2.setCell ⟨w.heap.size + 1, 0, none⟩ (.int .i64 ((a : Int) + n))) = a + n from HN2.out.atOf))) ?_; rw [HA.out]; omega⟩
          · have hX := HX.out
            rw [hE h0] at hX
            simp only [List.append_nil] at hX
            have HR2 : Hid (R = ([], E, (a : Int))) := Lib.hid (by rw [← HRr.out]; exact lexR_err (by omega) hX)
            clear hX HX hE hT hfit HRr
            have g3 : (E != 0) = true := by rw [bne_iff_ne]; exact h0
            go_upto_region 11 with (first | (go_at_call 12; refine HS.mono ?_; rintro e w' ⟨rfl, rfl⟩) | (go_at_call 15; refine HO.mono ?_; rintro e w1 ⟨ev, rfl, he, hb⟩; have HI1 := Lib.hid (HI.out.below hb); have q0 := HI1.out.2.2.1; have q1 := HI1.out.2.2.2.1; have HT := (told_c aL aW ev E w1 (HG.out.below (HI1.out.1)) he).mono (fun _ _ h => And.intro h.1 h.2.symm); clear he hb) | (go_at_call 16; refine HT.mono ?_; rintro e w2 ⟨rfl, rfl⟩))
            have HB := Lib.hid HI1.out.1
            clear HT HS HO k0 k1 HI HI1
            go_region
            all_goals go_wp2
            all_goals go_ret3
            all_goals exact ⟨none, 0, by rw [HR2.out]; rfl, by rw [HR2.out]; exact TR.nil _ _, HB.out.drew⟩
      · obtain rfl : a = s.size := by omega
        have hX := HX.out
        rw [List.drop_of_length_le (by omega), lexL_nil] at hX
        simp only [List.append_nil] at hX
        have HR2 : Hid (R = (ts ++ [⟨0, [], s.size⟩], 0, 0)) := Lib.hid (by rw [← HRr.out, lexR_ok (by omega) hX, hL])
        clear hX HX HRr hlt f1
        have HOw : Hid ((wo.alloc (.cells #[.int .i64 0, .string ByteArray.empty, .int .i64 s.size] 29)).ownsRow (w.heap.size + 2) 29 3 (.slice A ts.length c) ts.length (xsT ts)) := Lib.hid (ownT_below HI.out.2.2.2.2.2 ((Below.refl _ _).alloc (Nat.le_refl _) _))
        have qz := HI.out.2.1
        go_wp2_with (at_builtin; refine wpList_append_own_at _ rfl _ _ 23 rfl (w.heap.size + 2) 29 i0 (.agg #[.int .i64 0, .string ByteArray.empty, .int .i64 0]) 3 32 Tryd.underlying23 HInf.out.1 HInf.out.2.1 HInf.out.2.2.1 HInf.out.2.2.2 rfl (by omega) (.slice A ts.length c) ts.length _ (by rfl) HOw.out ⟨wo.heap.size, 0, none⟩ 1 1 [.int .i64 0, .string ByteArray.empty, .int .i64 s.size] (by rfl) rfl (tok_bd wo #[.int .i64 0, .string ByteArray.empty, .int .i64 s.size] 29) (by simp [Value.oneCell']) (by unfold maxLen; omega) (by omega) (by simp; omega) ?_; intro v' w1 hown hg hnil hat; have HW := Lib.hid (And.intro hown hg); clear hown hg hnil hat; obtain ⟨va, rfl⟩ : ∃ va : Value, va = v' := ⟨_, rfl⟩)
        go_ret3
        have hown := HW.out.1
        have e : xsT ts ++ [.int .i64 0, .string ByteArray.empty, .int .i64 s.size] = xsT (ts ++ [⟨0, [], s.size⟩]) := by rw [xsT_snoc]; rfl
        rw [e] at hown
        have hv : ∀ q, (Value.slice A ts.length c).ownBlock = some q → w.heap.size ≤ q := fun q hq => by have := (World.ownsRow.lt HI.out.2.2.2.2.2 q hq).1; omega
        rcases hown.2 with ⟨_, h⟩ | ⟨g, cap, cur, rfl, _⟩
        · omega
        · have hot : OT w1 (w.heap.size + 2) (some ⟨g, 0, none⟩) (ts ++ [⟨0, [], s.size⟩]) cap := by unfold OT; rw [List.length_append]; exact hown
          exact ⟨some ⟨g, 0, none⟩, cap, by rw [HR2.out, List.length_append]; rfl, by rw [HR2.out]; exact hot.tr, (HI.out.1.alloc HI.out.1.size _).grown HW.out.2 (by have := HI.out.1.size; simp; omega) hv⟩
end Go.Proofs.YtfdlkbkheginlaaDoor.C
