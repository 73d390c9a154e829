/- The reference's reader in memory: plain facts; fail, is, here, take, want, open: walks. -/
import Derived.Test.YtnnhdkchdjddkaaParP
import Derived.Test.YtnnhdkchdjddkaaRLex5
import Derived.Deep.CutBlock
namespace Go.Proofs.Ytnnhdkchdjddkaa.C
open Go.RowKit
set_option linter.unusedSimpArgs false
set_option linter.unusedVariables false
/-- All blocks but some are as they were. -/
structure Fr (S : Nat → Prop) (w w' : World) : Prop where
  os : w'.os = w.os
  tape : w'.tape = w.tape
  output : w'.output = w.output
  size : w.heap.size ≤ w'.heap.size
  block : ∀ k, k < w.heap.size → ¬ S k → w'.heap[k]? = w.heap[k]?
theorem Fr.of {S : Nat → Prop} {w w' : World} (h : Below w.heap.size w w') : Fr S w w' := ⟨h.os, h.tape, h.output, h.size, fun k hk _ => h.block k hk⟩
theorem Fr.trans {S S' : Nat → Prop} {a b c : World} (h : Fr S a b) (k : Fr S' b c) (hS : ∀ i, i < a.heap.size → S' i → S i) : Fr S a c :=
  ⟨k.os.trans h.os, k.tape.trans h.tape, k.output.trans h.output, Nat.le_trans h.size k.size, fun i hi hn => (k.block i (Nat.lt_of_lt_of_le hi h.size) (fun hs => hn (hS i hi hs))).trans (h.block i hi hn)⟩
theorem Fr.set {S : Nat → Prop} {a w : World} (h : Fr S a w) {p : Addr} (hp : S p.block) (u : Value) : Fr S a (w.setCell p u) :=
  ⟨h.os, h.tape, h.output, by have := h.size; simpa using this, fun i hi hn => (Below.heap_setCell _ _ _ _ (fun e => hn (by rw [e]; exact hp))).trans (h.block i hi hn)⟩
theorem Fr.below {S : Nat → Prop} {B : Nat} {w w' : World} (h : Fr S w w') (hB : ∀ i, S i → B ≤ i) (hw : B ≤ w.heap.size) : Below B w w' :=
  ⟨h.os, h.tape, h.output, h.size, fun k hk => h.block k (by omega) (fun hs => by have := hB k hs; omega)⟩
theorem Fr.cell {S : Nat → Prop} {w w' : World} (h : Fr S w w') {p : Addr} (hp : p.block < w.heap.size) (hn : ¬ S p.block) : w'.cell? p = w.cell? p := World.cell?_of_block (w := w) (h.block p.block hp hn)
theorem Fr.frozen {S : Nat → Prop} {w w' : World} (h : Fr S w w') {p : Addr} (hp : p.block < w.heap.size) (hn : ¬ S p.block) : w'.frozen? p = w.frozen? p := World.frozen?_of_block (w := w) (h.block p.block hp hn)
/-- The reader at p, over the tokens at g. -/
structure RdAt (p g n c : Nat) (ts : List Tok) (st : Rd) (w : World) : Prop where
  lt : p < w.heap.size
  c0 : w.cell? ⟨p, 0, none⟩ = some (.slice (some ⟨g, 0, none⟩) n c)
  c1 : w.cell? ⟨p, 1, none⟩ = some (.int .i64 (st.i : Int))
  c2 : w.cell? ⟨p, 2, none⟩ = some (.int .i64 st.deep)
  c3 : w.cell? ⟨p, 3, none⟩ = some (.int .i64 st.e)
  c4 : w.cell? ⟨p, 4, none⟩ = some (.int .i64 st.at_)
  fz : ∀ o, w.frozen? ⟨p, o, none⟩ = false
  hn : ts.length = n
  hb : n ≤ 100000
  hi : st.i < n
  ne : g ≠ p
  glt : g < w.heap.size
  toks : ∀ j t, ts[j]? = some t → w.cell? ⟨g, j * 3, none⟩ = some (.int .i64 t.k) ∧ w.cell? ⟨g, j * 3 + 1, none⟩ = some (.string ⟨t.t.toArray⟩) ∧ w.cell? ⟨g, j * 3 + 2, none⟩ = some (.int .i64 (t.at_ : Int))
theorem RdAt.below {p g n c : Nat} {ts : List Tok} {st : Rd} {w w' : World} (h : RdAt p g n c ts st w) (hb : Below w.heap.size w w') : RdAt p g n c ts st w' := by
  have e : ∀ o, w'.cell? ⟨p, o, none⟩ = w.cell? ⟨p, o, none⟩ := fun o => hb.cell (p := ⟨p, o, none⟩) h.lt
  refine ⟨by have := hb.size; have := h.lt; omega, (e 0).trans h.c0, (e 1).trans h.c1, (e 2).trans h.c2, (e 3).trans h.c3, (e 4).trans h.c4, fun o => (hb.frozen (p := ⟨p, o, none⟩) h.lt).trans (h.fz o), h.hn, h.hb, h.hi, h.ne, by have := hb.size; have := h.glt; omega, fun j t hj => ?_⟩
  obtain ⟨t0, t1, t2⟩ := h.toks j t hj
  exact ⟨(hb.cell (p := ⟨g, j * 3, none⟩) h.glt).trans t0, (hb.cell (p := ⟨g, j * 3 + 1, none⟩) h.glt).trans t1, (hb.cell (p := ⟨g, j * 3 + 2, none⟩) h.glt).trans t2⟩
theorem RdAt.tok {p g n c : Nat} {ts : List Tok} {st : Rd} {w : World} (h : RdAt p g n c ts st w) : ts[st.i]? = some (tkP ts st.i) := by
  have hi : st.i < ts.length := by rw [h.hn]; exact h.hi
  unfold tkP
  simp [List.getD, hi]
/-- One of the reader's cells anew. -/
theorem RdAt.set {p g n c : Nat} {ts : List Tok} {st st' : Rd} {w : World} (h : RdAt p g n c ts st w) (o : Nat) (v : Value) (ho : 0 < o) (hi : st'.i < n)
    (h1 : (if o = 1 then v else .int .i64 (st.i : Int)) = .int .i64 (st'.i : Int)) (h2 : (if o = 2 then v else .int .i64 st.deep) = .int .i64 st'.deep) (h3 : (if o = 3 then v else .int .i64 st.e) = .int .i64 st'.e) (h4 : (if o = 4 then v else .int .i64 st.at_) = .int .i64 st'.at_) :
    RdAt p g n c ts st' (w.setCell ⟨p, o, none⟩ v) := by
  have key : ∀ (q : Nat) (u : Value), w.cell? ⟨p, q, none⟩ = some u → (w.setCell ⟨p, o, none⟩ v).cell? ⟨p, q, none⟩ = some (if o = q then v else u) := fun q u hu => by
    by_cases e : o = q
    · subst e
      rw [if_pos rfl]
      exact World.cell?_setCell_same _ _ _ hu
    · rw [if_neg e, World.cell?_setCell_other _ _ _ _ (fun x => e (by injection x))]
      exact hu
  have hne : ∀ q : Nat, (⟨p, o, none⟩ : Addr) ≠ ⟨g, q, none⟩ := fun q x => h.ne (by injection x with x _; exact x.symm)
  refine ⟨by have := h.lt; simpa using this, ?_, ?_, ?_, ?_, ?_, fun q => ?_, h.hn, h.hb, hi, h.ne, by have := h.glt; simpa using this, fun j t hj => ?_⟩
  · have := key 0 _ h.c0
    rw [if_neg (by omega)] at this
    exact this
  · rw [key 1 _ h.c1, h1]
  · rw [key 2 _ h.c2, h2]
  · rw [key 3 _ h.c3, h3]
  · rw [key 4 _ h.c4, h4]
  · have : (w.setCell ⟨p, o, none⟩ v).frozen? ⟨p, q, none⟩ = w.frozen? ⟨p, q, none⟩ := by simp [go_sem]
    rw [this]; exact h.fz q
  · obtain ⟨t0, t1, t2⟩ := h.toks j t hj
    exact ⟨(World.cell?_setCell_other _ _ _ _ (hne _)).trans t0, (World.cell?_setCell_other _ _ _ _ (hne _)).trans t1, (World.cell?_setCell_other _ _ _ _ (hne _)).trans t2⟩
set_option maxHeartbeats 1600000 in
theorem rd_here_c {p g n c : Nat} {ts : List Tok} {st : Rd} {w : World} (h : RdAt p g n c ts st w) :
    Calls Try.prog 18 #[.pointer (some ⟨p, 0, none⟩)] w fun e w' => e = .returned (.int .i64 ((tkP ts st.i).at_ : Int)) ∧ Below w.heap.size w w' := by
  have c0 := h.c0
  have c1 := h.c1
  have c2 := (h.toks _ _ h.tok).2.2
  have hi0 : (0 : Int) ≤ (st.i : Int) := by omega
  have hi1 : (st.i : Int) < (n : Int) := by have := h.hi; omega
  have hi2 : st.i < n := h.hi
  clear h
  go_enter Try.func18, Try.ntmps18
  go_wp2
  go_region
  all_goals go_wp2
  all_goals go_ret
  all_goals exact ⟨rfl, (Below.refl _ _).drew⟩
set_option maxHeartbeats 3200000 in
theorem rd_is_c {p g n c : Nat} {ts : List Tok} {st : Rd} {w : World} (h : RdAt p g n c ts st w) (W : ByteArray) :
    Calls Try.prog 17 #[.pointer (some ⟨p, 0, none⟩), .string W] w fun e w' => e = .returned (.bool (isP ts st W.data.toList)) ∧ Below w.heap.size w w' := by
  have c0 := h.c0
  have c1 := h.c1
  have c3 := h.c3
  obtain ⟨t0, t1, t2⟩ := h.toks _ _ h.tok
  have hi0 : (0 : Int) ≤ (st.i : Int) := by omega
  have hi1 : (st.i : Int) < (n : Int) := by have := h.hi; omega
  have hi2 : st.i < n := h.hi
  have hlt := h.lt
  have hglt := h.glt
  have hlt2 : p ≠ w.heap.size := by omega
  have hR : Hid (isP ts st W.data.toList = (decide (st.e = 0) && ((decide ((tkP ts st.i).k = 4) || decide ((tkP ts st.i).k = 3)) && ((⟨(tkP ts st.i).t.toArray⟩ : ByteArray).toList == W.toList)))) := Lib.hid (by
    unfold isP
    congr 2
    rw [Bool.eq_iff_iff, decide_eq_true_eq, beq_iff_eq, Lib.toList_data, Lib.toList_data])
  obtain ⟨X, hX⟩ : ∃ X : ByteArray, (⟨(tkP ts st.i).t.toArray⟩ : ByteArray) = X := ⟨_, rfl⟩
  rw [hX] at t1 hR
  obtain ⟨b1, g1⟩ : ∃ b, (st.e == 0) = b := ⟨_, rfl⟩
  obtain ⟨b2, g2⟩ : ∃ b, ((tkP ts st.i).k == 4) = b := ⟨_, rfl⟩
  obtain ⟨b3, g3⟩ : ∃ b, ((tkP ts st.i).k == 3) = b := ⟨_, rfl⟩
  obtain ⟨b4, g4⟩ : ∃ b, (X.toList == W.toList) = b := ⟨_, rfl⟩
  rw [show decide (st.e = 0) = b1 from g1, show decide ((tkP ts st.i).k = 4) = b2 from g2, show decide ((tkP ts st.i).k = 3) = b3 from g3, g4] at hR
  obtain ⟨kk, hkk⟩ : ∃ k, (tkP ts st.i).k = k := ⟨_, rfl⟩
  rw [hkk] at t0 g2 g3
  clear hX h hkk
  go_enter Try.func17, Try.ntmps17
  go_wp2
  go_region
  cases b1 <;> cases b2 <;> cases b3 <;> (go_wp2; go_ret; exact ⟨by rw [hR.out]; rfl, ((Below.refl _ _).drew).alloc (Nat.le_refl _) _⟩)
/-- What a method of the reader leaves. -/
def RdPost (p g n c : Nat) (ts : List Tok) (st' : Rd) (w w' : World) : Prop := RdAt p g n c ts st' w' ∧ Fr (fun k => k = p) w w'
set_option maxHeartbeats 3200000 in
theorem rd_fail_c {p g n c : Nat} {ts : List Tok} {st : Rd} {w : World} (h : RdAt p g n c ts st w) (E : Int) :
    Calls Try.prog 9 #[.pointer (some ⟨p, 0, none⟩), .int .i64 E] w fun e w' => (∃ v, e = .returned v) ∧ RdPost p g n c ts (failP ts st E) w w' := by
  by_cases h0 : st.e = 0
  · have c3 := h.c3
    rw [h0] at c3
    have f3 := h.fz 3
    have h1 : RdAt p g n c ts { st with e := E } (w.setCell ⟨p, 3, none⟩ (.int .i64 E)) := h.set 3 (.int .i64 E) (by omega) h.hi rfl rfl rfl rfl
    have H2 : RdPost p g n c ts (failP ts st E) w ((w.setCell ⟨p, 3, none⟩ (.int .i64 E)).drew.setCell ⟨p, 4, none⟩ (.int .i64 ((tkP ts st.i).at_ : Int))) := by
      unfold failP
      rw [if_pos h0]
      have h2 := h1.below ((Below.refl _ _).drew)
      refine ⟨h2.set 4 (.int .i64 ((tkP ts st.i).at_ : Int)) (by omega) h.hi rfl rfl rfl rfl, ?_⟩
      have f1 : Fr (fun k => k = p) w (w.setCell ⟨p, 3, none⟩ (.int .i64 E)) := Fr.set (S := fun k => k = p) (p := ⟨p, 3, none⟩) (Fr.of (Below.refl _ _)) rfl _
      have f2 : Fr (fun k => k = p) w (w.setCell ⟨p, 3, none⟩ (.int .i64 E)).drew := ⟨f1.os, f1.tape, f1.output, f1.size, f1.block⟩
      exact Fr.set (S := fun k => k = p) (p := ⟨p, 4, none⟩) f2 rfl _
    have H3 := Lib.hid H2
    obtain ⟨w1, hw1⟩ : ∃ w1, w.setCell ⟨p, 3, none⟩ (.int .i64 E) = w1 := ⟨_, rfl⟩
    rw [hw1] at h1 H3
    have d0 := h1.c0
    have d1 := h1.c1
    have d4 := h1.c4
    have df := h1.fz 4
    have dt := (h1.toks _ _ h1.tok).2.2
    have hi0 : (0 : Int) ≤ (st.i : Int) := by omega
    have hi1 : (st.i : Int) < (n : Int) := by have := h.hi; omega
    have hi2 : st.i < n := h.hi
    simp only at d0 d1 d4 dt
    clear H2 h h1 h0
    go_enter Try.func9, Try.ntmps9
    go_upto_region 2 with fail
    go_region
    all_goals go_wp2
    all_goals go_end0
    all_goals exact ⟨⟨_, rfl⟩, H3.out⟩
  · have c3 := h.c3
    have g0 : (st.e == 0) = false := by rw [beq_eq_false_iff_ne]; exact h0
    have H2 : RdPost p g n c ts (failP ts st E) w w := by
      unfold failP
      rw [if_neg h0]
      exact ⟨h, Fr.of (Below.refl _ _)⟩
    have H3 := Lib.hid H2
    clear H2 h h0
    go_enter Try.func9, Try.ntmps9
    go_wp2
    go_end0
    exact ⟨⟨_, rfl⟩, H3.out⟩
end Go.Proofs.Ytnnhdkchdjddkaa.C
