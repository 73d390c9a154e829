/- Digits of numbers, read again: plain Lean. -/
import Derived.Test.YtnnhdkchdjddkaaLexJ
import Derived.Test.YtnnhdkchdjddkaaLexVal
namespace Go.Proofs.Ytnnhdkchdjddkaa.C
open Go.RowKit
set_option linter.unusedSimpArgs false
set_option linter.unusedVariables false
def digN (u : Nat) : List UInt8 := if h : u < 10 then [UInt8.ofNat (48 + u)] else digN (u / 10) ++ [UInt8.ofNat (48 + u % 10)]
termination_by u
decreasing_by omega
theorem digN_lt {u : Nat} (h : u < 10) : digN u = [UInt8.ofNat (48 + u)] := by rw [digN, dif_pos h]
theorem digN_ge {u : Nat} (h : ¬ u < 10) : digN u = digN (u / 10) ++ [UInt8.ofNat (48 + u % 10)] := by rw [digN, dif_neg h]
theorem dig_toNat {k : Nat} (h : k < 10) : ((UInt8.ofNat (48 + k)).toNat : Int) = 48 + k := by
  rw [UInt8.toNat_ofNat']
  omega
def allD (d : List UInt8) : Prop := ∀ c ∈ d, digitI (c.toNat : Int) = true
theorem dig_allD {k : Nat} (h : k < 10) : digitI ((UInt8.ofNat (48 + k)).toNat : Int) = true := by
  rw [dig_toNat h]
  unfold digitI
  simp
  omega
theorem digN_all : ∀ (m u : Nat), u ≤ m → allD (digN u) := by
  intro m
  induction m with
  | zero =>
    intro u hu c hc
    rw [digN_lt (by omega)] at hc
    have : c = UInt8.ofNat (48 + u) := by simpa using hc
    rw [this]
    exact dig_allD (by omega)
  | succ m ih =>
    intro u hu c hc
    by_cases h : u < 10
    · rw [digN_lt h] at hc
      have : c = UInt8.ofNat (48 + u) := by simpa using hc
      rw [this]
      exact dig_allD h
    · rw [digN_ge h] at hc
      rcases List.mem_append.1 hc with hc | hc
      · exact ih (u / 10) (by omega) c hc
      · have : c = UInt8.ofNat (48 + u % 10) := by simpa using hc
        rw [this]
        exact dig_allD (by omega)
theorem digN_val : ∀ (m u : Nat), u ≤ m → foldV 0 (digN u) = (u : Int) := by
  intro m
  induction m with
  | zero =>
    intro u hu
    obtain rfl : u = 0 := by omega
    rw [digN_lt (by omega)]
    rfl
  | succ m ih =>
    intro u hu
    by_cases h : u < 10
    · rw [digN_lt h]
      show 10 * 0 + (((UInt8.ofNat (48 + u)).toNat : Int) - 48) = u
      rw [dig_toNat h]
      omega
    · rw [digN_ge h, foldV_snoc, ih (u / 10) (by omega), dig_toNat (by omega)]
      omega
theorem digN_len : ∀ (k u : Nat), u < 10 ^ (k + 1) → (digN u).length ≤ k + 1 := by
  intro k
  induction k with
  | zero =>
    intro u hu
    rw [digN_lt (by simpa using hu)]
    simp
  | succ k ih =>
    intro u hu
    by_cases h : u < 10
    · rw [digN_lt h]; simp
    · rw [digN_ge h, List.length_append]
      have := ih (u / 10) (by rw [Nat.pow_succ] at hu; omega)
      simp
      omega
theorem digN_pos (u : Nat) : 0 < (digN u).length := by
  by_cases h : u < 10
  · rw [digN_lt h]; simp
  · rw [digN_ge h, List.length_append]; simp
theorem digN_head : ∀ (m u : Nat), u ≤ m → 0 < u → chI (digN u) 0 ≠ 48 := by
  intro m
  induction m with
  | zero => intro u h1 h2; omega
  | succ m ih =>
    intro u h1 h2
    by_cases h : u < 10
    · rw [digN_lt h]
      show ((UInt8.ofNat (48 + u)).toNat : Int) ≠ 48
      rw [dig_toNat h]
      omega
    · rw [digN_ge h, chI_app_lt (digN_pos _)]
      exact ih (u / 10) (by omega) (by omega)
theorem runL_all {d : List UInt8} (h : allD d) (r : List UInt8) (hr : ∀ c t, r = c :: t → digitI (c.toNat : Int) = false) : runL digitI (d ++ r) = d.length := by
  induction d with
  | nil =>
    cases r with
    | nil => rfl
    | cons c t =>
      show runL digitI (c :: t) = 0
      rw [runL_cons, hr c t rfl]
      rfl
  | cons c d ih =>
    show runL digitI (c :: (d ++ r)) = d.length + 1
    rw [runL_cons, if_pos (h c (by simp)), ih (fun x hx => h x (by simp [hx]))]
theorem suf_u (d : List UInt8) : Lib.hasSuffix (d ++ [117]) [117] = true := by
  unfold Lib.hasSuffix
  rw [List.isSuffixOf_iff_suffix]
  exact List.suffix_append _ _
theorem suf_d {d : List UInt8} (h : allD d) : Lib.hasSuffix d [117] = false := by
  rw [Bool.eq_false_iff]
  intro hs
  unfold Lib.hasSuffix at hs
  rw [List.isSuffixOf_iff_suffix] at hs
  obtain ⟨t, ht⟩ := hs
  have := h 117 (by rw [← ht]; simp)
  exact absurd this (by decide)
theorem trim_u (d : List UInt8) : Lib.trimSuffix (d ++ [117]) [117] = d := by
  unfold Lib.trimSuffix
  rw [suf_u]
  simp
theorem trim_d {d : List UInt8} (h : allD d) : Lib.trimSuffix d [117] = d := by
  unfold Lib.trimSuffix
  rw [suf_d h]
  rfl
theorem value_u (d : List UInt8) : valueL (d ++ [117]) = valueT d 6 := by rw [valueL_eq, trim_u, suf_u]; rfl
theorem value_d {d : List UInt8} (h : allD d) : valueL d = valueT d 5 := by rw [valueL_eq, trim_d h, suf_d h]; rfl
theorem valueT_all {d : List UInt8} (h : allD d) (t : Int) : valueT d t = if 10 < d.length then (0, 0, 3) else if maxL t < foldV 0 d then (0, 0, 3) else if d.length = 0 ∨ (1 < d.length ∧ chI d 0 = 48) then (0, 0, 4) else (foldV 0 d, t, 0) := by
  have e := runL_all h [] (by simp)
  rw [List.append_nil] at e
  unfold valueT
  rw [e, List.take_length]
  simp
/-- A number's bytes: digits, perhaps a u. -/
def numS (u : Nat) (b : Bool) : List UInt8 := digN u ++ (if b then [117] else [])
theorem digN_10 {u : Nat} (h : u < 4294967296) : (digN u).length ≤ 10 := digN_len 9 u (by omega)
theorem num_value {u : Nat} (h : u < 4294967296) (b : Bool) : valueL (numS u b) = if b = true ∨ u ≤ 2147483647 then ((u : Int), (if b then 6 else 5), 0) else (0, 0, 3) := by
  have ha := digN_all u u (Nat.le_refl _)
  have h10 := digN_10 h
  have hp := digN_pos u
  have hv := digN_val u u (Nat.le_refl _)
  have hh : ¬ ((digN u).length = 0 ∨ (1 < (digN u).length ∧ chI (digN u) 0 = 48)) := by
    rintro (h0 | ⟨h1, h2⟩)
    · omega
    · by_cases hu : u = 0
      · subst hu
        rw [digN_lt (by omega)] at h1
        simp at h1
      · exact digN_head u u (Nat.le_refl _) (by omega) h2
  cases b
  · show valueL (digN u ++ []) = _
    rw [List.append_nil, value_d ha, valueT_all ha, if_neg (by omega), hv]
    have em : maxL 5 = 2147483647 := rfl
    rw [em]
    by_cases hf : u ≤ 2147483647
    · rw [if_neg (by omega), if_neg hh, if_pos (.inr hf)]
      rfl
    · rw [if_pos (by omega), if_neg (by simp; omega)]
  · show valueL (digN u ++ [117]) = _
    rw [value_u, valueT_all ha, if_neg (by omega), hv]
    have em : maxL 6 = 4294967295 := rfl
    rw [em, if_neg (by omega), if_neg hh, if_pos (.inl rfl)]
    rfl
theorem numS_all_cons {u : Nat} : allD (48 :: digN u) := by
  intro c hc
  rcases List.mem_cons.1 hc with rfl | hc
  · rfl
  · exact digN_all u u (Nat.le_refl _) c hc
/-- With a nought ahead: none. -/
theorem num_zero {u : Nat} (h : u < 4294967296) (b : Bool) : ∃ E, (E = 3 ∨ E = 4) ∧ valueL (48 :: numS u b) = (0, 0, E) := by
  have key : ∀ t, ∃ E, (E = 3 ∨ E = 4) ∧ valueT (48 :: digN u) t = (0, 0, E) := fun t => by
    rw [valueT_all numS_all_cons]
    by_cases h1 : 10 < (48 :: digN u).length
    · exact ⟨3, .inl rfl, by rw [if_pos h1]⟩
    · rw [if_neg h1]
      by_cases h2 : maxL t < foldV 0 (48 :: digN u)
      · exact ⟨3, .inl rfl, by rw [if_pos h2]⟩
      · exact ⟨4, .inr rfl, by rw [if_neg h2, if_pos (.inr ⟨by have := digN_pos u; simp; omega, rfl⟩)]⟩
  cases b
  · obtain ⟨E, h1, h2⟩ := key 5
    exact ⟨E, h1, by show valueL (48 :: (digN u ++ [])) = _; rw [List.append_nil, value_d numS_all_cons, h2]⟩
  · obtain ⟨E, h1, h2⟩ := key 6
    exact ⟨E, h1, by show valueL ((48 :: digN u) ++ [117]) = _; rw [value_u, h2]⟩
theorem chI_end (l : List UInt8) (c : UInt8) (r : List UInt8) : chI (l ++ c :: r) l.length = (c.toNat : Int) := by
  unfold chI
  simp [List.getD, List.getElem?_append_right (Nat.le_refl _)]
theorem chI_over {l : List UInt8} {k : Nat} (h : l.length ≤ k) : chI l k = 0 := by
  unfold chI
  simp [List.getD, List.getElem?_eq_none h]
/-- How many bytes look like a number, where behind it comes something that is no digit and no u. -/
theorem cnt_num (d : List UInt8) (h : allD d) (b : Bool) (r : List UInt8) (hr : b = false → ∀ c t, r = c :: t → digitI (c.toNat : Int) = false ∧ (c.toNat : Int) ≠ 117) : cntL (d ++ ((if b then [117] else []) ++ r)) = (d ++ (if b then [117] else [])).length := by
  unfold cntL
  cases b
  · simp only [Bool.false_eq_true, if_false, List.nil_append, List.append_nil]
    rw [runL_all h r (fun c t e => (hr rfl c t e).1)]
    cases r with
    | nil => rw [List.append_nil, if_neg (fun x => absurd x.1 (by omega))]
    | cons c t => rw [chI_end, if_neg (fun x => (hr rfl c t rfl).2 x.2)]
  · simp only [if_true]
    show (if runL digitI (d ++ (117 :: r)) < (d ++ (117 :: r)).length ∧ chI (d ++ (117 :: r)) (runL digitI (d ++ (117 :: r))) = 117 then runL digitI (d ++ (117 :: r)) + 1 else runL digitI (d ++ (117 :: r))) = (d ++ [117]).length
    rw [runL_all h (117 :: r) (fun c t e => by injection e with e _; rw [← e]; rfl), chI_end, if_pos ⟨by simp, rfl⟩]
    simp
theorem digit_tok {l : List UInt8} (h : digitI (chI l 0) = true) : oneL l = (2, (numberL l).1, (numberL l).2) ∧ skipL l = 0 ∧ l ≠ [] := by
  have hr := digitI_range h
  refine ⟨?_, ?_, ?_⟩
  · unfold oneL
    simp only
    rw [if_neg, if_pos h]
    unfold smallI
    simp
    omega
  · unfold skipL
    simp only
    rw [if_neg (by omega), if_neg (by omega)]
  · rintro rfl
    exact absurd h (by decide)
theorem chI_cons0 (c : UInt8) (l : List UInt8) : chI (c :: l) 0 = (c.toNat : Int) := rfl
theorem digN_first (u : Nat) (r : List UInt8) : digitI (chI (digN u ++ r) 0) = true := by
  rw [chI_app_lt (digN_pos u)]
  have h : chI (digN u) 0 = (((digN u)[0]'(digN_pos u)).toNat : Int) := by
    unfold chI
    simp [List.getD, digN_pos u]
  rw [h]
  exact digN_all u u (Nat.le_refl _) _ (List.getElem_mem _)
theorem skip_32 (l : List UInt8) : skipL (32 :: l) = 1 := by
  unfold skipL
  simp only
  rw [if_pos (.inl rfl)]
theorem lexR_of_err {L : List UInt8} {E : Int} {p : Nat} {ts : List Tok} (hl : L.length ≤ 8192) (h : lexL L 0 = (ts, some (E, p))) : lexR L = ([], E, (p : Int)) := lexR_err' (x := (E, p)) (by omega) h
/-- Between blanks. -/
theorem num_blanks {u : Nat} (h : u < 4294967296) (b : Bool) : lexR ([32] ++ numS u b ++ [32]) = if b = true ∨ u ≤ 2147483647 then ([⟨2, numS u b, 1⟩, ⟨0, [], (numS u b).length + 2⟩], 0, 0) else ([], 3, 1) := by
  have ha := digN_all u u (Nat.le_refl _)
  have h10 := digN_10 h
  have hlS : (numS u b).length ≤ 11 := by unfold numS; cases b <;> simp <;> omega
  have hL : [32] ++ numS u b ++ [32] = 32 :: (numS u b ++ [32]) := by simp
  have hlen : ([32] ++ numS u b ++ [32]).length = (numS u b).length + 2 := by simp
  have hdt := digit_tok (l := numS u b ++ [32]) (by unfold numS; rw [List.append_assoc]; exact digN_first u _)
  have hcnt : cntL (numS u b ++ [32]) = (numS u b).length := by
    unfold numS
    rw [List.append_assoc]
    exact cnt_num _ ha b [32] (fun _ c t e => by injection e with e _; rw [← e]; exact ⟨rfl, by decide⟩)
  have hstep : lexL ([32] ++ numS u b ++ [32]) 0 = lexL (numS u b ++ [32]) 1 := by
    rw [hL, lexL_skip (by simp) (by rw [skip_32]; omega), skip_32]
    rfl
  have hv := num_value h b
  have htk : (numS u b ++ [32]).take (numS u b).length = numS u b := by simp
  have hend : chI (numS u b ++ [32]) (numS u b).length = 32 := chI_end _ _ _
  by_cases hf : b = true ∨ u ≤ 2147483647
  · rw [if_pos hf] at hv ⊢
    have hn : numberL (numS u b ++ [32]) = ((numS u b).length, 0) := by
      unfold numberL
      rw [hcnt, htk, hv, if_neg (by simp), hend, if_neg (fun x => absurd x.2 (by decide))]
    have hx : lexL ([32] ++ numS u b ++ [32]) 0 = ([⟨2, numS u b, 1⟩], none) := by
      rw [hstep, lexL_tok hdt.2.2 hdt.2.1 (by rw [hdt.1, hn]), hdt.1, hn]
      simp only
      rw [htk, List.drop_left, lexL_skip (by simp) (by rw [skip_32]; omega), skip_32]
      rfl
    rw [lexR_ok' (by omega) hx, hlen]
    rfl
  · rw [if_neg hf] at hv ⊢
    have hn : numberL (numS u b ++ [32]) = (0, 3) := by
      unfold numberL
      rw [hcnt, htk, hv, if_pos (by simp)]
    exact lexR_of_err (by omega) (by rw [hstep, lexL_err hdt.2.2 hdt.2.1 (by rw [hdt.1, hn]; simp), hdt.1, hn])
/-- With a nought ahead, in a text. -/
theorem num_zero_lex {u : Nat} (h : u < 4294967296) (b : Bool) : ∃ E, (E = 3 ∨ E = 4) ∧ lexR ([32, 48] ++ numS u b) = ([], E, 1) := by
  obtain ⟨E, hE, hv⟩ := num_zero h b
  refine ⟨E, hE, ?_⟩
  have h10 := digN_10 h
  have hlS : (numS u b).length ≤ 11 := by unfold numS; cases b <;> simp <;> omega
  have hdt := digit_tok (l := 48 :: numS u b) (by rw [chI_cons0]; rfl)
  have hcnt : cntL (48 :: numS u b) = (48 :: numS u b).length := by
    have := cnt_num (48 :: digN u) numS_all_cons b [] (fun _ c t e => by cases e)
    simp only [List.append_nil] at this
    exact this
  have hn : numberL (48 :: numS u b) = (0, E) := by
    unfold numberL
    rw [hcnt, List.take_length, hv, if_pos]
    show E ≠ 0
    omega
  refine lexR_of_err (p := 1) (ts := []) (by simp; omega) ?_
  show lexL (32 :: (48 :: numS u b)) 0 = _
  rw [lexL_skip (by simp) (by rw [skip_32]; omega), skip_32]
  show lexL (48 :: numS u b) 1 = _
  rw [lexL_err hdt.2.2 hdt.2.1 (by rw [hdt.1, hn]; show E ≠ 0; omega), hdt.1, hn]
def nines : List UInt8 := [57, 57, 57, 57, 57, 57, 57, 57, 57, 57]
/-- With ten nines behind. -/
theorem num_nines {u : Nat} (h : u < 4294967296) (b : Bool) : ∃ E, E ≠ 0 ∧ lexR (numS u b ++ nines) = ([], E, 0) := by
  have ha := digN_all u u (Nat.le_refl _)
  have h10 := digN_10 h
  have hp := digN_pos u
  have hdt := digit_tok (l := numS u b ++ nines) (by unfold numS; rw [List.append_assoc]; exact digN_first u _)
  have hlS : (numS u b ++ nines).length ≤ 21 := by unfold numS nines; cases b <;> simp <;> omega
  have key : ∃ E, E ≠ 0 ∧ (numberL (numS u b ++ nines)).2 = E := by
    cases b
    · have e : numS u false ++ nines = digN u ++ nines := by unfold numS; simp
      have hall : allD (digN u ++ nines) := fun c hc => by
        rcases List.mem_append.1 hc with hc | hc
        · exact ha c hc
        · unfold nines at hc
          have : c = 57 := by simpa using hc
          rw [this]; rfl
      have hcnt := cnt_num (digN u ++ nines) hall false [] (fun _ c t e => by cases e)
      simp only [Bool.false_eq_true, if_false, List.append_nil] at hcnt
      refine ⟨3, by decide, ?_⟩
      rw [e]
      unfold numberL
      rw [hcnt, List.take_length, value_d hall, valueT_all hall, if_pos (show 10 < (digN u ++ nines).length by unfold nines; simp; omega), if_pos (by simp)]
    · have hv := num_value h true
      rw [if_pos (.inl rfl)] at hv
      have hcnt : cntL (numS u true ++ nines) = (numS u true).length := by
        unfold numS
        rw [List.append_assoc]
        exact cnt_num _ ha true nines (fun e => by cases e)
      refine ⟨4, by decide, ?_⟩
      unfold numberL
      rw [hcnt, List.take_left, hv, if_neg (by simp), show nines = 57 :: nines.tail from rfl, chI_end, if_pos ⟨by simp, rfl⟩]
  obtain ⟨E, hE, hk⟩ := key
  exact ⟨E, hE, lexR_of_err (p := 0) (ts := []) (by omega) (by rw [lexL_err hdt.2.2 hdt.2.1 (by rw [hdt.1, hk]; exact hE), hdt.1, hk])⟩
end Go.Proofs.Ytnnhdkchdjddkaa.C
