/- The reference's Lex: walk. -/
import Derived.Test.YtnnhdkchdjddkaaRLex2
import Derived.Test.YtnnhdkchdjddkaaRLex4
namespace Go.Proofs.Ytnnhdkchdjddkaa.C
open Go.RowKit
set_option linter.unusedSimpArgs false
set_option linter.unusedVariables false
theorem key_short {d : List UInt8} (h : keyL d = true) : d.length ≤ 20 := by
  unfold keyL at h
  rw [Bool.or_eq_true, decide_eq_true_eq, decide_eq_true_eq] at h
  have h1 : ∀ x ∈ typeWords, x.length ≤ 20 := by decide
  have h2 : ∀ x ∈ keyWords, x.length ≤ 20 := by decide
  rcases h with h | h
  · exact h1 d h
  · exact h2 d h
theorem numberL_fst {l : List UInt8} (h : (numberL l).2 = 0) : (numberL l).1 = cntL l := by
  unfold numberL at h ⊢
  by_cases h3 : (valueL (l.take (cntL l))).2.2 ≠ 0
  · rw [if_pos h3] at h
    exact absurd h h3
  · rw [if_neg h3] at h ⊢
    by_cases h4 : cntL l < l.length ∧ withinI (chI l (cntL l)) = true
    · rw [if_pos h4] at h
      simp at h
    · rw [if_neg h4]
theorem drop_neR {L : List UInt8} {a : Nat} (h : a < L.length) : L.drop a ≠ [] := by
  intro e
  have := congrArg List.length e
  simp at this
  omega
/-- The world inside the reference's Lex. -/
def RIn (w : World) (A : Option Addr) (ts : List Tok) (c : Nat) (wr : World) : Prop := Below w.heap.size w wr ∧ OT wr w.heap.size A ts c
theorem RIn.below {w wr w1 : World} {A : Option Addr} {ts : List Tok} {c : Nat} (h : RIn w A ts c wr) (hb : Below wr.heap.size wr w1) : RIn w A ts c w1 := ⟨below_next h.1 h.1.size hb, ownT_below h.2 hb⟩
theorem RIn.snoc {w wr w1 w2 : World} {A : Option Addr} {ts : List Tok} {c : Nat} {t : Tok} {v : Value} {o : Obj} (h : RIn w A ts c wr) (hb : Below wr.heap.size wr w1)
    (hown : w2.ownsRow w.heap.size 49 3 v (ts.length + 1) (xsT ts ++ tokV t)) (hg : (w1.alloc o).grownBy w2 (Value.slice A ts.length c).ownBlock) : ∃ A2 c2, v = .slice A2 (ts ++ [t]).length c2 ∧ RIn w A2 (ts ++ [t]) c2 w2 := by
  have h' := h.below hb
  have hv : ∀ q, (Value.slice A ts.length c).ownBlock = some q → w.heap.size ≤ q := fun q hq => (World.ownsRow.lt h.2 q hq).1
  have hB : Below w.heap.size w w2 := (h'.1.alloc h'.1.size o).grown hg (by have := h'.1.size; simp; omega) hv
  rw [← xsT_snoc] at hown
  rcases hown.2 with ⟨_, h⟩ | ⟨g, cap, cur, rfl, _⟩
  · omega
  · exact ⟨some ⟨g, 0, none⟩, cap, by rw [List.length_append]; rfl, hB, by unfold OT; rw [List.length_append]; exact hown⟩
set_option maxRecDepth 100000 in
set_option maxHeartbeats 6400000 in
theorem r_lex_c (s : ByteArray) (w : World) (hs : s.size ≤ 4611686018427387904) :
    Calls Try.prog 7 #[.string s] w (LexPost (lexR s.data.toList) w) := by
  obtain ⟨i0, hi, hzz⟩ := Option.map_eq_some_iff.1 infoTok
  simp only [Prod.mk.injEq] at hzz
  have HInf := Lib.hid (And.intro hi hzz)
  clear hi hzz
  have hL : s.data.toList.length = s.size := (Lib.size_eq s).symm
  by_cases hbig : 8192 < s.size
  · have g1 : (8192 : Int) < (s.size : Int) := by omega
    have HR : Hid (LexPost (lexR s.data.toList) w (.returned (.tuple #[.slice none 0 0, .int .i64 3, .int .i64 8192])) w) := Lib.hid (by
      unfold lexR
      rw [if_pos (by omega)]
      exact ⟨none, 0, rfl, TR.nil _ _, Below.refl _ _⟩)
    clear hbig HInf
    go_enter Try.func7, Try.ntmps7
    go_wp2_with fail
    go_ret3
    exact HR.out
  · have g1 : ¬ (8192 : Int) < (s.size : Int) := by omega
    obtain ⟨R, hR⟩ : ∃ R, lexR s.data.toList = R := ⟨_, rfl⟩
    rw [hR]
    have HRr := Lib.hid hR
    clear hR
    go_enter Try.func7, Try.ntmps7
    go_wp2_with fail
    go_loopw [5, 6, 7, 8, 9, 10, 11, 12] (fun o i x7 x8 x9 x10 x11 x12 wr => ∃ (a : Nat) (ts : List Tok) (A : Option Addr) (c : Nat), a ≤ s.size ∧ ts.length ≤ a ∧ o = .slice A ts.length c ∧ i = .int .i64 (a : Int) ∧ Hid (lexL s.data.toList 0 = (ts ++ (lexL (s.data.toList.drop a) a).1, (lexL (s.data.toList.drop a) a).2)) ∧ Hid (RIn w A ts c wr)) (fun _ i _ _ _ _ _ _ _ => s.size - (intOf i).toNat)
    case atStart => exact ⟨0, [], none, 0, Nat.zero_le _, Nat.le_refl _, rfl, rfl, Lib.hid rfl, Lib.hid ⟨Below.refl _ _, World.ownsRow_nil _ _ _ _⟩⟩
    case round =>
      obtain ⟨a, ts, A, c, ha, hta, rfl, rfl, HX, HI⟩ := hrel
      obtain ⟨wo, rfl⟩ : ∃ wo : World, wo = wr := ⟨_, rfl⟩
      have hwz := HI.out.1.size
      have HOw : Hid (∀ (w1 : World) (o : Obj), Below wo.heap.size wo w1 → (w1.alloc o).ownsRow w.heap.size 49 3 (.slice A ts.length c) ts.length (xsT ts)) := Lib.hid (fun w1 o hb => ownT_below HI.out.2 (hb.alloc hb.size o))
      by_cases hlt : a < s.size
      · have g2 : (a : Int) < (s.size : Int) := by omega
        have hne : s.data.toList.drop a ≠ [] := drop_neR (by omega)
        have hlen : (s.data.toList.drop a).length = s.size - a := by rw [List.length_drop, hL]
        have hx0 : chI (s.data.toList.drop a) 0 = ((s[a]'hlt).toNat : Int) := by rw [chI_drop, Nat.add_zero, chI_get s a hlt]
        obtain ⟨z, hz⟩ : ∃ z : Int, ((s[a]'hlt).toNat : Int) = z := ⟨_, rfl⟩
        rw [hz] at hx0
        by_cases hk : 0 < skipL (s.data.toList.drop a)
        · have hX := HX.out
          rw [lexL_skip hne hk, List.drop_drop] at hX
          rcases skip_cases hk with ⟨hk1, hbl⟩ | ⟨h35, hkb⟩
          · rw [hk1] at hX
            have HX2 := Lib.hid hX
            rw [hx0] at hbl
            have hb4 : z = 32 ∨ z = 9 ∨ z = 10 ∨ z = 13 := by unfold blankI at hbl; simp at hbl; omega
            have g32 : (((s[a]'hlt).toNat : Int) == 32) = decide (z = 32) := by rw [hz]; rfl
            have g9 : (((s[a]'hlt).toNat : Int) == 9) = decide (z = 9) := by rw [hz]; rfl
            have g10 : (((s[a]'hlt).toNat : Int) == 10) = decide (z = 10) := by rw [hz]; rfl
            have g13 : (((s[a]'hlt).toNat : Int) == 13) = decide (z = 13) := by rw [hz]; rfl
            clear hX hbl hk hk1 hx0 hne HRr hlen HOw
            rcases hb4 with hb | hb | hb | hb
            all_goals rw [hb] at g32 g9 g10 g13
            all_goals clear hb hz
            all_goals (go_wp2_with fail; exact ⟨⟨a + 1, ts, A, c, by omega, by omega, rfl, by go_num, HX2, HI⟩, by simp [intOf]; omega⟩)
          · obtain ⟨k, hk'⟩ : ∃ k, skipL (s.data.toList.drop a) = k := ⟨_, rfl⟩
            rw [hk'] at hX hk hkb
            have hkle : k ≤ s.size - a := by have := runL_le bodyI (s.data.toList.drop a); omega
            have HX2 := Lib.hid hX
            have hix : ∀ j, j < k → a + j < s.size := fun j hj => by omega
            have hbd : ∀ j, (h : j < k) → ((s[a + j]'(hix j h)).toNat : Int) ≠ 10 := fun j hj => by
              obtain ⟨h1, h2⟩ := runL_lt bodyI (s.data.toList.drop a) j (by omega)
              rw [chI_drop, chI_get s (a + j) (by omega)] at h2
              unfold bodyI at h2
              simpa using h2
            have hend : (h : a + k < s.size) → ((s[a + k]'h).toNat : Int) = 10 := fun h => by
              have := runL_end bodyI (s.data.toList.drop a) (by omega)
              rw [← hkb, chI_drop, chI_get s (a + k) h] at this
              unfold bodyI at this
              simpa using this
            have HBD := Lib.hid hbd
            have HEND := Lib.hid hend
            rw [hx0] at h35
            have g32 : (((s[a]'hlt).toNat : Int) == 32) = false := by rw [hz, h35]; rfl
            have g9 : (((s[a]'hlt).toNat : Int) == 9) = false := by rw [hz, h35]; rfl
            have g10 : (((s[a]'hlt).toNat : Int) == 10) = false := by rw [hz, h35]; rfl
            have g13 : (((s[a]'hlt).toNat : Int) == 13) = false := by rw [hz, h35]; rfl
            have g35 : (((s[a]'hlt).toNat : Int) == 35) = true := by rw [hz, h35]; rfl
            clear hX hkb hx0 hne HRr hlen HOw hbd hend h35 hz
            go_wp2_with fail
            go_loop [6] (fun i => ∃ j : Nat, j ≤ k ∧ i = .int .i64 ((a : Int) + j)) (fun i => a + k - (intOf i).toNat)
            case atStart => exact ⟨0, Nat.zero_le _, by simp⟩
            case round =>
              obtain ⟨j, hj, rfl⟩ := hrel
              have t5 : ((a : Int) + j).toNat = a + j := by omega
              by_cases hjk : j < k
              · have q1 : (a : Int) + j < (s.size : Int) := by omega
                have q0 : (0 : Int) ≤ (a : Int) + j := by omega
                have gb : (((s[a + j]'(hix j hjk)).toNat : Int) != 10) = true := by rw [bne_iff_ne]; exact HBD.out j hjk
                have e6 : IntKind.i64.wrap ((a : Int) + j + 1) = (a : Int) + ((j + 1 : Nat) : Int) := by rw [IntWalk.i64_in _ (by omega)]; omega
                clear HBD HEND
                go_wp2_with fail
                exact ⟨⟨j + 1, by omega, by first | rfl | (rw [e6]) | go_num⟩, by simp [intOf]; omega⟩
              · obtain rfl : j = k := by omega
                have e7 : (a : Int) + j = ((a + j : Nat) : Int) := by omega
                have HE7 := Lib.hid e7
                clear e7
                by_cases hq : a + j < s.size
                · have q1 : (a : Int) + j < (s.size : Int) := by omega
                  have q0 : (0 : Int) ≤ (a : Int) + j := by omega
                  have gb : (((s[a + j]'hq).toNat : Int) != 10) = false := by rw [bne_eq_false_iff_eq]; exact HEND.out hq
                  clear HBD HEND hjk
                  go_wp2_with fail
                  exact ⟨⟨a + j, ts, A, c, by omega, by omega, rfl, by rw [HE7.out], HX2, HI⟩, by simp [intOf]; omega⟩
                · have q1 : ¬ (a : Int) + j < (s.size : Int) := by omega
                  clear HBD HEND hjk
                  go_wp2_with fail
                  exact ⟨⟨a + j, ts, A, c, by omega, by omega, rfl, by rw [HE7.out], HX2, HI⟩, by simp [intOf]; omega⟩
        · have hk0 : skipL (s.data.toList.drop a) = 0 := by omega
          have hz5 : z ≠ 32 ∧ z ≠ 9 ∧ z ≠ 10 ∧ z ≠ 13 ∧ z ≠ 35 := by
            refine ⟨?_, ?_, ?_, ?_, ?_⟩ <;> (intro h; refine hk ?_; unfold skipL; simp only; rw [hx0, h])
            · rw [if_pos (.inl rfl)]; omega
            · rw [if_pos (.inr (.inl rfl))]; omega
            · rw [if_pos (.inr (.inr (.inl rfl)))]; omega
            · rw [if_pos (.inr (.inr (.inr rfl)))]; omega
            · rw [if_neg (by omega), if_pos rfl]
              obtain ⟨x, l, hl⟩ : ∃ x l, s.data.toList.drop a = x :: l := by
                cases h : s.data.toList.drop a with
                | nil => exact absurd h hne
                | cons x l => exact ⟨x, l, rfl⟩
              rw [hl] at hx0 ⊢
              rw [runL_cons, if_pos]
              · omega
              · rw [show (x.toNat : Int) = z from hx0, h]; rfl
          have g32 : (((s[a]'hlt).toNat : Int) == 32) = false := by rw [hz, beq_eq_false_iff_ne]; exact hz5.1
          have g9 : (((s[a]'hlt).toNat : Int) == 9) = false := by rw [hz, beq_eq_false_iff_ne]; exact hz5.2.1
          have g10 : (((s[a]'hlt).toNat : Int) == 10) = false := by rw [hz, beq_eq_false_iff_ne]; exact hz5.2.2.1
          have g13 : (((s[a]'hlt).toNat : Int) == 13) = false := by rw [hz, beq_eq_false_iff_ne]; exact hz5.2.2.2.1
          have g35 : (((s[a]'hlt).toNat : Int) == 35) = false := by rw [hz, beq_eq_false_iff_ne]; exact hz5.2.2.2.2
          have hE := lexL_err hne hk0 (a := a)
          have hT := lexL_tok hne hk0 (a := a)
          have hfit := oneL_fits (l := s.data.toList.drop a) (by omega)
          rw [List.drop_drop] at hT
          have hO : oneL (s.data.toList.drop a) = oneL (s.data.toList.drop a) := rfl
          conv at hO => rhs; unfold oneL
          simp only [hx0] at hO
          have LL := fun W => r_letter_c ((s[a]'hlt).toNat : Int) W
          have LD := fun W => r_digit_c ((s[a]'hlt).toNat : Int) W
          rw [hz] at LL LD
          obtain ⟨b1, hb1⟩ : ∃ b, smallI z = b := ⟨_, rfl⟩
          obtain ⟨b2, hb2⟩ : ∃ b, digitI z = b := ⟨_, rfl⟩
          rw [hb1] at LL hO
          rw [hb2] at LD hO
          rw [← hz] at LL LD
          clear hz5 hk hk0
          have hX := HX.out
          cases b1
          · cases b2
            · obtain ⟨g, hg⟩ : ∃ g, signL (s.data.toList.drop a) = g := ⟨_, rfl⟩
              have LS := fun W => r_sign_c s a W hs hlt
              rw [hg] at LS hO
              by_cases h0 : g = 0
              · have hO2 : oneL (s.data.toList.drop a) = (0, 0, 4) := by rw [hO, if_neg (by simp), if_neg (by simp), if_pos h0]
                rw [hO2] at hE
                rw [hE (by simp)] at hX
                simp only [List.append_nil] at hX
                have HR2 : Hid (R = ([], 4, (a : Int))) := Lib.hid (by rw [← HRr.out]; exact lexR_err' (by omega) hX)
                have hT0 : s.extract a (a + g) = ⟨#[]⟩ := by rw [Lib.extract_eq, h0]; simp
                rw [hT0] at LS
                clear hX HX hE hT hfit HRr hO hO2 hT0 h0 hz hx0 hb1 hb2 HOw hne
                go_wp2_with (first | (go_at_call 11; refine (LL _).mono ?_; rintro e w' ⟨rfl, rfl⟩) | (go_at_call 12; refine (LD _).mono ?_; rintro e w' ⟨rfl, rfl⟩) | (go_at_call 15; refine (LS _).mono ?_; rintro e w' ⟨rfl, rfl⟩))
                go_ret3
                exact ⟨none, 0, by rw [HR2.out]; rfl, by rw [HR2.out]; exact TR.nil _ _, HI.out.1⟩
              · have hO2 : oneL (s.data.toList.drop a) = (4, g, 0) := by rw [hO, if_neg (by simp), if_neg (by simp), if_neg h0]
                rw [hO2] at hT hfit
                rw [hT rfl] at hX
                obtain ⟨hf1, hf2⟩ := hfit rfl
                simp only at hf1 hf2
                rw [hlen] at hf2
                have HX2 : Hid (lexL s.data.toList 0 = ((ts ++ [⟨4, (s.data.toList.drop a).take g, a⟩]) ++ (lexL (s.data.toList.drop (a + g)) (a + g)).1, (lexL (s.data.toList.drop (a + g)) (a + g)).2)) := Lib.hid (by rw [hX]; simp)
                obtain ⟨T, hTT⟩ : ∃ T, s.extract a (a + g) = T := ⟨_, rfl⟩
                have etx : (⟨((s.data.toList.drop a).take g).toArray⟩ : ByteArray) = T := by rw [← hTT, Lib.extract_eq, show a + g - a = g by omega]
                have hTz : T.size = g := by rw [← etx]; show ((s.data.toList.drop a).take g).length = g; rw [List.length_take]; omega
                have hTn : (T.toList == []) = false := by
                  rw [beq_eq_false_iff_ne, Lib.toList_data]
                  intro h
                  have := congrArg List.length h
                  rw [← Lib.size_eq, hTz] at this
                  simp at this
                  omega
                have HTX := Lib.hid etx
                rw [hTT] at LS
                have e1 : IntKind.i64.wrap ((a : Int) + g) = (a : Int) + g := IntWalk.i64_in _ (by omega)
                have hTzi : (T.size : Int) = (g : Int) := by omega
                clear hX HX hE hT hfit HRr hO hO2 hTT h0 hz hx0 hb1 hb2 hne etx hTz
                go_wp2_with (first | (go_at_call 11; refine (LL _).mono ?_; rintro e w' ⟨rfl, rfl⟩) | (go_at_call 12; refine (LD _).mono ?_; rintro e w' ⟨rfl, rfl⟩) | (go_at_call 15; refine (LS _).mono ?_; rintro e w' ⟨rfl, rfl⟩) | (at_builtin; refine wpList_append_own_at _ rfl _ _ 41 rfl w.heap.size 49 i0 (.agg #[.int .i64 0, .string ByteArray.empty, .int .i64 0]) 3 32 Try.underlying41 HInf.out.1 HInf.out.2.1 HInf.out.2.2.1 HInf.out.2.2.2 rfl (by omega) (.slice A ts.length c) ts.length _ (by rfl) (HOw.out _ _ (Below.refl _ _)) ⟨wo.heap.size, 0, none⟩ 1 1 [.int .i64 4, .string T, .int .i64 (a : Int)] (by rfl) rfl (tok_bd wo #[.int .i64 4, .string T, .int .i64 (a : Int)] 49) (by simp [Value.oneCell']) (by unfold maxLen; omega) (by omega) (by simp; omega) ?_; intro v' w2 hown hg2 hnil hat; have HW := Lib.hid (And.intro hown hg2); clear hown hg2 hnil hat; obtain ⟨va, rfl⟩ : ∃ va : Value, va = v' := ⟨_, rfl⟩))
                have HN := HI.out.snoc (t := ⟨4, (s.data.toList.drop a).take g, a⟩) (Below.refl _ _) (by rw [show tokV ⟨4, (s.data.toList.drop a).take g, a⟩ = [.int .i64 4, .string T, .int .i64 (a : Int)] by rw [← HTX.out]; rfl]; exact HW.out.1) HW.out.2
                obtain ⟨A2, c2, rfl, HN2⟩ := HN
                exact ⟨⟨a + g, ts ++ [⟨4, (s.data.toList.drop a).take g, a⟩], A2, c2, by omega, by simp; omega, by simp, by first | rfl | (congr 1; omega) | go_num, HX2, Lib.hid HN2⟩, by simp [intOf]; omega⟩
            · have h0r : 0 < runL digitI (s.data.toList.drop a) := takeDigit (by rw [hx0]; exact hb2)
              have LN := fun W => r_num_c s a W hs hlt h0r
              obtain ⟨C, hC⟩ : ∃ C, cntL (s.data.toList.drop a) = C := ⟨_, rfl⟩
              have hfst := numberL_fst (l := s.data.toList.drop a)
              rw [hC] at LN hfst
              obtain ⟨⟨m, E⟩, hnm⟩ : ∃ r, numberL (s.data.toList.drop a) = r := ⟨_, rfl⟩
              rw [hnm] at LN hO hfst
              simp only at LN hO hfst
              have hO2 : oneL (s.data.toList.drop a) = (2, m, E) := by rw [hO]; simp only [if_true, if_false, Bool.false_eq_true]
              have hCle : C ≤ s.size - a := by have := cntL_le (s.data.toList.drop a); omega
              by_cases h0 : E = 0
              · subst h0
                obtain rfl : m = C := hfst rfl
                rw [hO2] at hT hfit
                rw [hT rfl] at hX
                obtain ⟨hf1, hf2⟩ := hfit rfl
                simp only at hf1 hf2
                have HX2 : Hid (lexL s.data.toList 0 = ((ts ++ [⟨2, (s.data.toList.drop a).take m, a⟩]) ++ (lexL (s.data.toList.drop (a + m)) (a + m)).1, (lexL (s.data.toList.drop (a + m)) (a + m)).2)) := Lib.hid (by rw [hX]; simp)
                have etx : (⟨((s.data.toList.drop a).take m).toArray⟩ : ByteArray) = s.extract a (a + m) := by rw [Lib.extract_eq, show a + m - a = m by omega]
                have HTX := Lib.hid etx
                have t3 : ((a : Int) + m).toNat = a + m := by omega
                have c1 : (a : Int) ≤ (a : Int) + m := by omega
                have c2 : (a : Int) + m ≤ (s.size : Int) := by omega
                have c0 : (0 : Int) ≤ (a : Int) + m := by omega
                clear hX HX hE hT hfit HRr hO hO2 hz hx0 hb1 hb2 hne etx hnm hC hfst h0r
                go_wp2_with (first | (go_at_call 11; refine (LL _).mono ?_; rintro e w' ⟨rfl, rfl⟩) | (go_at_call 12; refine (LD _).mono ?_; rintro e w' ⟨rfl, rfl⟩) | (go_at_call 14; refine (LN _).mono ?_; rintro e w' ⟨rfl, rfl⟩) | (at_builtin; refine wpList_append_own_at _ rfl _ _ 41 rfl w.heap.size 49 i0 (.agg #[.int .i64 0, .string ByteArray.empty, .int .i64 0]) 3 32 Try.underlying41 HInf.out.1 HInf.out.2.1 HInf.out.2.2.1 HInf.out.2.2.2 rfl (by omega) (.slice A ts.length c) ts.length _ (by rfl) (HOw.out _ _ (Below.refl _ _)) ⟨wo.heap.size, 0, none⟩ 1 1 [.int .i64 2, .string (s.extract a (a + m)), .int .i64 (a : Int)] (by rfl) rfl (tok_bd wo #[.int .i64 2, .string (s.extract a (a + m)), .int .i64 (a : Int)] 49) (by simp [Value.oneCell']) (by unfold maxLen; omega) (by omega) (by simp; omega) ?_; intro v' w2 hown hg2 hnil hat; have HW := Lib.hid (And.intro hown hg2); clear hown hg2 hnil hat; obtain ⟨va, rfl⟩ : ∃ va : Value, va = v' := ⟨_, rfl⟩))
                have HN := HI.out.snoc (t := ⟨2, (s.data.toList.drop a).take m, a⟩) (Below.refl _ _) (by rw [show tokV ⟨2, (s.data.toList.drop a).take m, a⟩ = [.int .i64 2, .string (s.extract a (a + m)), .int .i64 (a : Int)] by rw [← HTX.out]; rfl]; exact HW.out.1) HW.out.2
                obtain ⟨A2, c2, rfl, HN2⟩ := HN
                exact ⟨⟨a + m, ts ++ [⟨2, (s.data.toList.drop a).take m, a⟩], A2, c2, by omega, by simp; omega, by simp, by first | rfl | (congr 1; omega) | go_num, HX2, Lib.hid HN2⟩, by simp [intOf]; omega⟩
              · rw [hO2] at hE
                rw [hE h0] at hX
                simp only [List.append_nil] at hX
                have HR2 : Hid (R = ([], E, (a : Int))) := Lib.hid (by rw [← HRr.out]; exact lexR_err' (by omega) hX)
                have g3 : (E != 0) = true := by rw [bne_iff_ne]; exact h0
                clear hX HX hE hT hfit HRr hO hO2 h0 hz hx0 hb1 hb2 HOw hne hnm hC hfst h0r
                go_wp2_with (first | (go_at_call 11; refine (LL _).mono ?_; rintro e w' ⟨rfl, rfl⟩) | (go_at_call 12; refine (LD _).mono ?_; rintro e w' ⟨rfl, rfl⟩) | (go_at_call 14; refine (LN _).mono ?_; rintro e w' ⟨rfl, rfl⟩))
                go_ret3
                exact ⟨none, 0, by rw [HR2.out]; rfl, by rw [HR2.out]; exact TR.nil _ _, HI.out.1⟩
          · obtain ⟨n, hn⟩ : ∃ n, runL withinI (s.data.toList.drop a) = n := ⟨_, rfl⟩
            obtain ⟨q, hq⟩ : ∃ q, keyL ((s.data.toList.drop a).take n) = q := ⟨_, rfl⟩
            have hnle : n ≤ s.size - a := by have := runL_le withinI (s.data.toList.drop a); omega
            have hO1 : oneL (s.data.toList.drop a) = if q = true then (3, n, 0) else if 20 < n then (0, 0, 3) else (1, n, 0) := by rw [hO, ← hq, ← hn]; simp only [if_true, if_false, Bool.false_eq_true]
            have hks : q = true → n ≤ 20 := fun h => by
              have := key_short (hq.trans h)
              rw [List.length_take, hlen] at this
              omega
            have hix : ∀ j, j < n → a + j < s.size := fun j hj => by omega
            have hbd : ∀ j, (h : j < n) → withinI ((s[a + j]'(hix j h)).toNat : Int) = true := fun j hj => by
              obtain ⟨h1, h2⟩ := runL_lt withinI (s.data.toList.drop a) j (by omega)
              rw [chI_drop, chI_get s (a + j) (hix j hj)] at h2
              exact h2
            have hend : (h : a + n < s.size) → withinI ((s[a + n]'h).toNat : Int) = false := fun h => by
              have := runL_end withinI (s.data.toList.drop a) (by omega)
              rw [hn, chI_drop, chI_get s (a + n) h] at this
              exact this
            have HBD := Lib.hid hbd
            have HEND := Lib.hid hend
            have LK := fun W => r_key_c (s.extract a (a + n)) W
            rw [Lib.extract_data, show a + n - a = n by omega, hq] at LK
            have etx : (⟨((s.data.toList.drop a).take n).toArray⟩ : ByteArray) = s.extract a (a + n) := by rw [Lib.extract_eq, show a + n - a = n by omega]
            have HTX := Lib.hid etx
            have t3 : ((a : Int) + n).toNat = a + n := by omega
            have c1 : (a : Int) ≤ (a : Int) + n := by omega
            have c2 : (a : Int) + n ≤ (s.size : Int) := by omega
            have c0 : (0 : Int) ≤ (a : Int) + n := by omega
            have e5 : IntKind.i64.wrap ((a : Int) + n - a) = (n : Int) := by rw [IntWalk.i64_in _ (by omega)]; omega
            have e5b : IntKind.i64.wrap (n : Int) = (n : Int) := IntWalk.i64_in _ (by omega)
            have HX0 := Lib.hid hX
            have HE0 := Lib.hid hE
            have HT0 := Lib.hid hT
            have HF0 := Lib.hid hfit
            have HO1 := Lib.hid hO1
            have HKS := Lib.hid hks
            have HLEN := Lib.hid hlen
            clear hX HX hE hT hfit hO hO1 hz hx0 hb1 hb2 hne etx hq hn hbd hend hks LD
            go_wp2_with (go_at_call 11; refine (LL _).mono ?_; rintro e w' ⟨rfl, rfl⟩)
            go_loop [8] (fun k => ∃ j : Nat, j ≤ n ∧ k = .int .i64 ((a : Int) + j)) (fun k => a + n - (intOf k).toNat)
            case atStart => exact ⟨0, Nat.zero_le _, by simp⟩
            case round =>
              obtain ⟨j, hj, rfl⟩ := hrel
              have t5 : ((a : Int) + j).toNat = a + j := by omega
              have q0 : (0 : Int) ≤ (a : Int) + j := by omega
              clear LL g32 g9 g10 g13 g35
              by_cases hjn : j < n
              · have q1 : (a : Int) + j < (s.size : Int) := by omega
                have e6 : IntKind.i64.wrap ((a : Int) + j + 1) = (a : Int) + ((j + 1 : Nat) : Int) := by rw [IntWalk.i64_in _ (by omega)]; omega
                have hw := HBD.out j hjn
                unfold withinI at hw
                have L1 := fun W => r_letter_c ((s[a + j]'(hix j hjn)).toNat : Int) W
                have L2 := fun W => r_digit_c ((s[a + j]'(hix j hjn)).toNat : Int) W
                obtain ⟨p1, hp1⟩ : ∃ b, smallI ((s[a + j]'(hix j hjn)).toNat : Int) = b := ⟨_, rfl⟩
                obtain ⟨p2, hp2⟩ : ∃ b, digitI ((s[a + j]'(hix j hjn)).toNat : Int) = b := ⟨_, rfl⟩
                rw [hp1] at L1 hw
                rw [hp2] at L2 hw
                clear hp1 hp2 HBD HEND
                cases p1
                · cases p2
                  · have gw : (((s[a + j]'(hix j hjn)).toNat : Int) == 95) = true := by simpa using hw
                    clear hw
                    go_wp2_with (first | (go_at_call 11; refine (L1 _).mono ?_; rintro e w' ⟨rfl, rfl⟩) | (go_at_call 12; refine (L2 _).mono ?_; rintro e w' ⟨rfl, rfl⟩))
                    exact ⟨⟨j + 1, by omega, by first | rfl | (rw [e6]) | go_num⟩, by simp [intOf]; omega⟩
                  · clear hw
                    go_wp2_with (first | (go_at_call 11; refine (L1 _).mono ?_; rintro e w' ⟨rfl, rfl⟩) | (go_at_call 12; refine (L2 _).mono ?_; rintro e w' ⟨rfl, rfl⟩))
                    exact ⟨⟨j + 1, by omega, by first | rfl | (rw [e6]) | go_num⟩, by simp [intOf]; omega⟩
                · clear hw
                  go_wp2_with (first | (go_at_call 11; refine (L1 _).mono ?_; rintro e w' ⟨rfl, rfl⟩) | (go_at_call 12; refine (L2 _).mono ?_; rintro e w' ⟨rfl, rfl⟩))
                  exact ⟨⟨j + 1, by omega, by first | rfl | (rw [e6]) | go_num⟩, by simp [intOf]; omega⟩
              · obtain rfl : j = n := by omega
                clear hjn hj HBD hix t5
                by_cases hqs : a + j < s.size
                · have q1 : (a : Int) + j < (s.size : Int) := by omega
                  have hw := HEND.out hqs
                  unfold withinI at hw
                  have L1 := fun W => r_letter_c ((s[a + j]'hqs).toNat : Int) W
                  have L2 := fun W => r_digit_c ((s[a + j]'hqs).toNat : Int) W
                  obtain ⟨p1, hp1⟩ : ∃ b, smallI ((s[a + j]'hqs).toNat : Int) = b := ⟨_, rfl⟩
                  obtain ⟨p2, hp2⟩ : ∃ b, digitI ((s[a + j]'hqs).toNat : Int) = b := ⟨_, rfl⟩
                  rw [hp1] at L1 hw
                  rw [hp2] at L2 hw
                  obtain ⟨rfl, rfl⟩ : p1 = false ∧ p2 = false := by cases p1 <;> cases p2 <;> simp_all
                  have gw : (((s[a + j]'hqs).toNat : Int) == 95) = false := by simpa using hw
                  clear hp1 hp2 HEND hw
                  cases q
                  · by_cases h20 : 20 < j
                    · have hO2 : oneL (s.data.toList.drop a) = (0, 0, 3) := by rw [HO1.out, if_neg (by simp), if_pos h20]
                      have hX := HX0.out
                      have hE := HE0.out
                      rw [hO2] at hE
                      rw [hE (by simp)] at hX
                      simp only [List.append_nil] at hX
                      have HR2 : Hid (R = ([], 3, (a : Int))) := Lib.hid (by rw [← HRr.out]; exact lexR_err' (by omega) hX)
                      have g20 : decide ((20 : Int) < (j : Int)) = true := decide_eq_true (by omega)
                      have HIb := HI.out.1
                      clear hX hE hO2 h20 HX0 HE0 HT0 HF0 HO1 HKS HLEN HRr HOw HTX
                      go_wp2_with (first | (go_at_call 11; refine (L1 _).mono ?_; rintro e w' ⟨rfl, rfl⟩; clear L1) | (go_at_call 12; refine (L2 _).mono ?_; rintro e w' ⟨rfl, rfl⟩; clear L2) | (go_at_call 13; refine (LK _).mono ?_; rintro e w1 ⟨rfl, hb⟩))
                      go_ret3
                      exact ⟨none, 0, by rw [HR2.out]; rfl, by rw [HR2.out]; exact TR.nil _ _, below_next HIb HIb.size hb⟩
                    · have hO2 : oneL (s.data.toList.drop a) = (1, j, 0) := by rw [HO1.out, if_neg (by simp), if_neg h20]
                      have g20 : decide ((20 : Int) < (j : Int)) = false := decide_eq_false (by omega)
                      have hX := HX0.out
                      have hT := HT0.out
                      have hfit := HF0.out
                      rw [hO2] at hT hfit
                      rw [hT rfl] at hX
                      obtain ⟨hf1, hf2⟩ := hfit rfl
                      simp only at hf1 hf2
                      rw [HLEN.out] at hf2
                      have HX2 : Hid (lexL s.data.toList 0 = ((ts ++ [⟨1, (s.data.toList.drop a).take j, a⟩]) ++ (lexL (s.data.toList.drop (a + j)) (a + j)).1, (lexL (s.data.toList.drop (a + j)) (a + j)).2)) := Lib.hid (by rw [hX]; simp)
                      clear hX hT hfit hO2 h20 HX0 HE0 HT0 HF0 HO1 HKS HLEN HRr
                      go_wp2_with (first | (go_at_call 11; refine (L1 _).mono ?_; rintro e w' ⟨rfl, rfl⟩; clear L1) | (go_at_call 12; refine (L2 _).mono ?_; rintro e w' ⟨rfl, rfl⟩; clear L2) | (go_at_call 13; refine (LK _).mono ?_; rintro e w1 ⟨rfl, hb⟩; have HBk := Lib.hid hb; have hszk := hb.size; clear hb) | (at_builtin; refine wpList_append_own_at _ rfl _ _ 41 rfl w.heap.size 49 i0 (.agg #[.int .i64 0, .string ByteArray.empty, .int .i64 0]) 3 32 Try.underlying41 HInf.out.1 HInf.out.2.1 HInf.out.2.2.1 HInf.out.2.2.2 rfl (by omega) (.slice A ts.length c) ts.length _ (by rfl) (HOw.out _ _ HBk.out) ⟨w1.heap.size, 0, none⟩ 1 1 [.int .i64 1, .string (s.extract a (a + j)), .int .i64 (a : Int)] (by rfl) rfl (tok_bd w1 #[.int .i64 1, .string (s.extract a (a + j)), .int .i64 (a : Int)] 49) (by simp [Value.oneCell']) (by unfold maxLen; omega) (by omega) (by simp; omega) ?_; intro v' w2 hown hg2 hnil hat; have HW := Lib.hid (And.intro hown hg2); clear hown hg2 hnil hat; obtain ⟨va, rfl⟩ : ∃ va : Value, va = v' := ⟨_, rfl⟩))
                      have HN := HI.out.snoc (t := ⟨1, (s.data.toList.drop a).take j, a⟩) HBk.out (by rw [show tokV ⟨1, (s.data.toList.drop a).take j, a⟩ = [.int .i64 1, .string (s.extract a (a + j)), .int .i64 (a : Int)] by rw [← HTX.out]; rfl]; exact HW.out.1) HW.out.2
                      obtain ⟨A2, c2, rfl, HN2⟩ := HN
                      exact ⟨⟨a + j, ts ++ [⟨1, (s.data.toList.drop a).take j, a⟩], A2, c2, by omega, by simp; omega, by simp, by first | rfl | (congr 1; omega) | go_num, HX2, Lib.hid HN2⟩, by simp [intOf]; omega⟩
                  · have hO2 : oneL (s.data.toList.drop a) = (3, j, 0) := by rw [HO1.out, if_pos rfl]
                    have h20 := HKS.out rfl
                    have g20 : decide ((20 : Int) < (j : Int)) = false := decide_eq_false (by omega)
                    have hX := HX0.out
                    have hT := HT0.out
                    have hfit := HF0.out
                    rw [hO2] at hT hfit
                    rw [hT rfl] at hX
                    obtain ⟨hf1, hf2⟩ := hfit rfl
                    simp only at hf1 hf2
                    rw [HLEN.out] at hf2
                    have HX2 : Hid (lexL s.data.toList 0 = ((ts ++ [⟨3, (s.data.toList.drop a).take j, a⟩]) ++ (lexL (s.data.toList.drop (a + j)) (a + j)).1, (lexL (s.data.toList.drop (a + j)) (a + j)).2)) := Lib.hid (by rw [hX]; simp)
                    clear hX hT hfit hO2 h20 HX0 HE0 HT0 HF0 HO1 HKS HLEN HRr
                    go_wp2_with (first | (go_at_call 11; refine (L1 _).mono ?_; rintro e w' ⟨rfl, rfl⟩; clear L1) | (go_at_call 12; refine (L2 _).mono ?_; rintro e w' ⟨rfl, rfl⟩; clear L2) | (go_at_call 13; refine (LK _).mono ?_; rintro e w1 ⟨rfl, hb⟩; have HBk := Lib.hid hb; have hszk := hb.size; clear hb) | (at_builtin; refine wpList_append_own_at _ rfl _ _ 41 rfl w.heap.size 49 i0 (.agg #[.int .i64 0, .string ByteArray.empty, .int .i64 0]) 3 32 Try.underlying41 HInf.out.1 HInf.out.2.1 HInf.out.2.2.1 HInf.out.2.2.2 rfl (by omega) (.slice A ts.length c) ts.length _ (by rfl) (HOw.out _ _ HBk.out) ⟨w1.heap.size, 0, none⟩ 1 1 [.int .i64 3, .string (s.extract a (a + j)), .int .i64 (a : Int)] (by rfl) rfl (tok_bd w1 #[.int .i64 3, .string (s.extract a (a + j)), .int .i64 (a : Int)] 49) (by simp [Value.oneCell']) (by unfold maxLen; omega) (by omega) (by simp; omega) ?_; intro v' w2 hown hg2 hnil hat; have HW := Lib.hid (And.intro hown hg2); clear hown hg2 hnil hat; obtain ⟨va, rfl⟩ : ∃ va : Value, va = v' := ⟨_, rfl⟩))
                    have HN := HI.out.snoc (t := ⟨3, (s.data.toList.drop a).take j, a⟩) HBk.out (by rw [show tokV ⟨3, (s.data.toList.drop a).take j, a⟩ = [.int .i64 3, .string (s.extract a (a + j)), .int .i64 (a : Int)] by rw [← HTX.out]; rfl]; exact HW.out.1) HW.out.2
                    obtain ⟨A2, c2, rfl, HN2⟩ := HN
                    exact ⟨⟨a + j, ts ++ [⟨3, (s.data.toList.drop a).take j, a⟩], A2, c2, by omega, by simp; omega, by simp, by first | rfl | (congr 1; omega) | go_num, HX2, Lib.hid HN2⟩, by simp [intOf]; omega⟩
                · have q1 : ¬ (a : Int) + j < (s.size : Int) := by omega
                  have L1 : True := trivial
                  have L2 : True := trivial
                  clear HEND
                  cases q
                  · by_cases h20 : 20 < j
                    · have hO2 : oneL (s.data.toList.drop a) = (0, 0, 3) := by rw [HO1.out, if_neg (by simp), if_pos h20]
                      have hX := HX0.out
                      have hE := HE0.out
                      rw [hO2] at hE
                      rw [hE (by simp)] at hX
                      simp only [List.append_nil] at hX
                      have HR2 : Hid (R = ([], 3, (a : Int))) := Lib.hid (by rw [← HRr.out]; exact lexR_err' (by omega) hX)
                      have g20 : decide ((20 : Int) < (j : Int)) = true := decide_eq_true (by omega)
                      have HIb := HI.out.1
                      clear hX hE hO2 h20 HX0 HE0 HT0 HF0 HO1 HKS HLEN HRr HOw HTX
                      go_wp2_with (first | (go_at_call 13; refine (LK _).mono ?_; rintro e w1 ⟨rfl, hb⟩))
                      go_ret3
                      exact ⟨none, 0, by rw [HR2.out]; rfl, by rw [HR2.out]; exact TR.nil _ _, below_next HIb HIb.size hb⟩
                    · have hO2 : oneL (s.data.toList.drop a) = (1, j, 0) := by rw [HO1.out, if_neg (by simp), if_neg h20]
                      have g20 : decide ((20 : Int) < (j : Int)) = false := decide_eq_false (by omega)
                      have hX := HX0.out
                      have hT := HT0.out
                      have hfit := HF0.out
                      rw [hO2] at hT hfit
                      rw [hT rfl] at hX
                      obtain ⟨hf1, hf2⟩ := hfit rfl
                      simp only at hf1 hf2
                      rw [HLEN.out] at hf2
                      have HX2 : Hid (lexL s.data.toList 0 = ((ts ++ [⟨1, (s.data.toList.drop a).take j, a⟩]) ++ (lexL (s.data.toList.drop (a + j)) (a + j)).1, (lexL (s.data.toList.drop (a + j)) (a + j)).2)) := Lib.hid (by rw [hX]; simp)
                      clear hX hT hfit hO2 h20 HX0 HE0 HT0 HF0 HO1 HKS HLEN HRr
                      go_wp2_with (first | (go_at_call 13; refine (LK _).mono ?_; rintro e w1 ⟨rfl, hb⟩; have HBk := Lib.hid hb; have hszk := hb.size; clear hb) | (at_builtin; refine wpList_append_own_at _ rfl _ _ 41 rfl w.heap.size 49 i0 (.agg #[.int .i64 0, .string ByteArray.empty, .int .i64 0]) 3 32 Try.underlying41 HInf.out.1 HInf.out.2.1 HInf.out.2.2.1 HInf.out.2.2.2 rfl (by omega) (.slice A ts.length c) ts.length _ (by rfl) (HOw.out _ _ HBk.out) ⟨w1.heap.size, 0, none⟩ 1 1 [.int .i64 1, .string (s.extract a (a + j)), .int .i64 (a : Int)] (by rfl) rfl (tok_bd w1 #[.int .i64 1, .string (s.extract a (a + j)), .int .i64 (a : Int)] 49) (by simp [Value.oneCell']) (by unfold maxLen; omega) (by omega) (by simp; omega) ?_; intro v' w2 hown hg2 hnil hat; have HW := Lib.hid (And.intro hown hg2); clear hown hg2 hnil hat; obtain ⟨va, rfl⟩ : ∃ va : Value, va = v' := ⟨_, rfl⟩))
                      have HN := HI.out.snoc (t := ⟨1, (s.data.toList.drop a).take j, a⟩) HBk.out (by rw [show tokV ⟨1, (s.data.toList.drop a).take j, a⟩ = [.int .i64 1, .string (s.extract a (a + j)), .int .i64 (a : Int)] by rw [← HTX.out]; rfl]; exact HW.out.1) HW.out.2
                      obtain ⟨A2, c2, rfl, HN2⟩ := HN
                      exact ⟨⟨a + j, ts ++ [⟨1, (s.data.toList.drop a).take j, a⟩], A2, c2, by omega, by simp; omega, by simp, by first | rfl | (congr 1; omega) | go_num, HX2, Lib.hid HN2⟩, by simp [intOf]; omega⟩
                  · have hO2 : oneL (s.data.toList.drop a) = (3, j, 0) := by rw [HO1.out, if_pos rfl]
                    have h20 := HKS.out rfl
                    have g20 : decide ((20 : Int) < (j : Int)) = false := decide_eq_false (by omega)
                    have hX := HX0.out
                    have hT := HT0.out
                    have hfit := HF0.out
                    rw [hO2] at hT hfit
                    rw [hT rfl] at hX
                    obtain ⟨hf1, hf2⟩ := hfit rfl
                    simp only at hf1 hf2
                    rw [HLEN.out] at hf2
                    have HX2 : Hid (lexL s.data.toList 0 = ((ts ++ [⟨3, (s.data.toList.drop a).take j, a⟩]) ++ (lexL (s.data.toList.drop (a + j)) (a + j)).1, (lexL (s.data.toList.drop (a + j)) (a + j)).2)) := Lib.hid (by rw [hX]; simp)
                    clear hX hT hfit hO2 h20 HX0 HE0 HT0 HF0 HO1 HKS HLEN HRr
                    go_wp2_with (first | (go_at_call 13; refine (LK _).mono ?_; rintro e w1 ⟨rfl, hb⟩; have HBk := Lib.hid hb; have hszk := hb.size; clear hb) | (at_builtin; refine wpList_append_own_at _ rfl _ _ 41 rfl w.heap.size 49 i0 (.agg #[.int .i64 0, .string ByteArray.empty, .int .i64 0]) 3 32 Try.underlying41 HInf.out.1 HInf.out.2.1 HInf.out.2.2.1 HInf.out.2.2.2 rfl (by omega) (.slice A ts.length c) ts.length _ (by rfl) (HOw.out _ _ HBk.out) ⟨w1.heap.size, 0, none⟩ 1 1 [.int .i64 3, .string (s.extract a (a + j)), .int .i64 (a : Int)] (by rfl) rfl (tok_bd w1 #[.int .i64 3, .string (s.extract a (a + j)), .int .i64 (a : Int)] 49) (by simp [Value.oneCell']) (by unfold maxLen; omega) (by omega) (by simp; omega) ?_; intro v' w2 hown hg2 hnil hat; have HW := Lib.hid (And.intro hown hg2); clear hown hg2 hnil hat; obtain ⟨va, rfl⟩ : ∃ va : Value, va = v' := ⟨_, rfl⟩))
                    have HN := HI.out.snoc (t := ⟨3, (s.data.toList.drop a).take j, a⟩) HBk.out (by rw [show tokV ⟨3, (s.data.toList.drop a).take j, a⟩ = [.int .i64 3, .string (s.extract a (a + j)), .int .i64 (a : Int)] by rw [← HTX.out]; rfl]; exact HW.out.1) HW.out.2
                    obtain ⟨A2, c2, rfl, HN2⟩ := HN
                    exact ⟨⟨a + j, ts ++ [⟨3, (s.data.toList.drop a).take j, a⟩], A2, c2, by omega, by simp; omega, by simp, by first | rfl | (congr 1; omega) | go_num, HX2, Lib.hid HN2⟩, by simp [intOf]; omega⟩
      · obtain rfl : a = s.size := by omega
        have hX := HX.out
        rw [List.drop_of_length_le (by omega), lexL_nil] at hX
        simp only [List.append_nil] at hX
        have HR2 : Hid (R = (ts ++ [⟨0, [], s.size⟩], 0, 0)) := Lib.hid (by
          rw [← HRr.out]
          unfold lexR
          rw [if_neg (by omega), hX, hL])
        clear hX HX HRr hlt
        go_wp2_with (at_builtin; refine wpList_append_own_at _ rfl _ _ 41 rfl w.heap.size 49 i0 (.agg #[.int .i64 0, .string ByteArray.empty, .int .i64 0]) 3 32 Try.underlying41 HInf.out.1 HInf.out.2.1 HInf.out.2.2.1 HInf.out.2.2.2 rfl (by omega) (.slice A ts.length c) ts.length _ (by rfl) (HOw.out _ _ (Below.refl _ _)) ⟨wo.heap.size, 0, none⟩ 1 1 [.int .i64 0, .string ByteArray.empty, .int .i64 (s.size : Int)] (by rfl) rfl (tok_bd wo #[.int .i64 0, .string ByteArray.empty, .int .i64 (s.size : Int)] 49) (by simp [Value.oneCell']) (by unfold maxLen; omega) (by omega) (by simp; omega) ?_; intro v' w2 hown hg2 hnil hat; have HW := Lib.hid (And.intro hown hg2); clear hown hg2 hnil hat; obtain ⟨va, rfl⟩ : ∃ va : Value, va = v' := ⟨_, rfl⟩)
        go_ret3
        obtain ⟨A2, c2, rfl, HN⟩ := HI.out.snoc (t := ⟨0, [], s.size⟩) (Below.refl _ _) HW.out.1 HW.out.2
        exact ⟨A2, c2, by rw [HR2.out]; rfl, by rw [HR2.out]; exact HN.2.tr, HN.1⟩
end Go.Proofs.Ytnnhdkchdjddkaa.C
