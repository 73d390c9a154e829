/- The reference's reader of expressions: what its functions need and leave; inner: walk. -/
import Derived.Test.YtnnhdkchdjddkaaParE
namespace Go.Proofs.Ytnnhdkchdjddkaa.C
open Go.RowKit
set_option linter.unusedSimpArgs false
set_option linter.unusedVariables false
def e1P (st : Rd) : Nat := if st.e = 0 then 0 else 1
/-- What a function of the reader that goes on with a row of nodes may lean on. -/
structure PIn (B p g n c : Nat) (ts : List Tok) (st : Rd) (A : Option Addr) (l : List Ex) (cc : Nat) (w : World) : Prop where
  rd : RdAt p g n c ts st w
  oe : OE w B A l cc
  pB : p < B
  gB : g < B
  bw : B ≤ w.heap.size
  hE : (tkP ts (n - 1)).k = 0
  d0 : 0 ≤ st.deep
  d1 : st.deep ≤ ((st.i + e1P st : Nat) : Int)
  ll : l.length ≤ st.i + e1P st
/-- What it leaves. -/
def POut (B p g n c : Nat) (ts : List Tok) (R : Rd × List Ex → Prop) (st : Rd) (A : Option Addr) (l : List Ex) (cc : Nat) (w : World) (e : Ending) (w' : World) : Prop :=
  ∃ st' l' A' cc', R (st', l') ∧ e = .returned (.slice A' l'.length cc') ∧ RdAt p g n c ts st' w' ∧ OE w' B A' l' cc' ∧ Fr (fun k => k = p ∨ Blk A l.length cc k) w w' ∧
    (∀ k, Blk A' l'.length cc' k → Blk A l.length cc k ∨ w.heap.size ≤ k) ∧ st'.deep = st.deep ∧ st.i ≤ st'.i ∧ l'.length + st.i ≤ l.length + st'.i + e1P st' ∧ (st.e ≠ 0 → st' = st ∧ l' = l)
theorem PIn.blk {B p g n c : Nat} {ts : List Tok} {st : Rd} {A : Option Addr} {l : List Ex} {cc : Nat} {w : World} (h : PIn B p g n c ts st A l cc w) : ∀ k, Blk A l.length cc k → ¬ k = p := fun k hk e => by
  have := (h.oe.ge hk).1
  have := h.pB
  omega
/-- The reader has moved; the row is as it was. -/
theorem PIn.move {B p g n c : Nat} {ts : List Tok} {st st1 : Rd} {A : Option Addr} {l : List Ex} {cc : Nat} {w w1 : World} (h : PIn B p g n c ts st A l cc w) (hp : RdPost p g n c ts st1 w w1)
    (h0 : 0 ≤ st1.deep) (h1 : st1.deep ≤ ((st1.i + e1P st1 : Nat) : Int)) (h2 : st.i + e1P st ≤ st1.i + e1P st1) : PIn B p g n c ts st1 A l cc w1 :=
  ⟨hp.1, h.oe.fr hp.2 (fun k hk e => h.blk k hk e), h.pB, h.gB, Nat.le_trans h.bw hp.2.size, h.hE, h0, h1, by have := h.ll; omega⟩
theorem wantP_facts (ts : List Tok) (st : Rd) (W : List UInt8) : (wantP ts st W).deep = st.deep ∧ st.i ≤ (wantP ts st W).i ∧ ((wantP ts st W).i = st.i + 1 ∧ (wantP ts st W).e = st.e ∧ st.e = 0 ∨ (wantP ts st W).i = st.i ∧ (wantP ts st W).e ≠ 0) ∧ (st.e ≠ 0 → wantP ts st W = st) := by
  unfold wantP
  by_cases h : isP ts st W = true
  · rw [if_pos h]
    exact ⟨rfl, by show st.i ≤ st.i + 1; omega, .inl ⟨rfl, rfl, isP_e h⟩, fun he => absurd (isP_e h) he⟩
  · rw [if_neg h]
    unfold failP
    by_cases he : st.e = 0
    · rw [if_pos he]
      exact ⟨rfl, Nat.le_refl _, .inr ⟨rfl, by show (5 : Int) ≠ 0; decide⟩, fun h => absurd he h⟩
    · rw [if_neg he]
      exact ⟨rfl, Nat.le_refl _, .inr ⟨rfl, he⟩, fun _ => rfl⟩
theorem openP_facts (ts : List Tok) (st : Rd) (W : List UInt8) (h0 : st.e = 0) : (openP ts st W).deep = st.deep + 1 ∧ ((openP ts st W).i = st.i + 1 ∧ (openP ts st W).e = 0 ∨ (openP ts st W).i = st.i ∧ (openP ts st W).e ≠ 0) := by
  unfold openP
  by_cases h : isP ts st W = true ∧ 30 ≤ st.deep
  · rw [if_pos h]
    have hf : failP ts st 6 = { st with e := 6, at_ := (tkP ts st.i).at_ } := by unfold failP; rw [if_pos h0]
    obtain ⟨a1, a2, a3, a4⟩ := wantP_facts ts (failP ts st 6) W
    have hw := a4 (by rw [hf]; show (6 : Int) ≠ 0; decide)
    simp only
    rw [hw, hf]
    exact ⟨rfl, .inr ⟨rfl, by show (6 : Int) ≠ 0; decide⟩⟩
  · rw [if_neg h]
    obtain ⟨a1, a2, a3, a4⟩ := wantP_facts ts st W
    simp only
    refine ⟨by rw [a1], ?_⟩
    rcases a3 with ⟨x, y, z⟩ | ⟨x, y⟩
    · exact .inl ⟨x, by rw [y, z]⟩
    · exact .inr ⟨x, y⟩
theorem e1P_0 {st : Rd} (h : st.e = 0) : e1P st = 0 := by unfold e1P; rw [if_pos h]
theorem e1P_1 {st : Rd} (h : st.e ≠ 0) : e1P st = 1 := by unfold e1P; rw [if_neg h]
theorem PIn.opened {B p g n c : Nat} {ts : List Tok} {st : Rd} {A : Option Addr} {l : List Ex} {cc : Nat} {w w1 : World} (h : PIn B p g n c ts st A l cc w) (h0 : st.e = 0) (W : List UInt8) (hp : RdPost p g n c ts (openP ts st W) w w1) :
    PIn B p g n c ts (openP ts st W) A l cc w1 ∧ st.i + 1 = (openP ts st W).i + e1P (openP ts st W) := by
  obtain ⟨a1, a2⟩ := openP_facts ts st W h0
  have hd := h.d1
  have hd0 := h.d0
  rw [e1P_0 h0] at hd
  have he : st.i + 1 = (openP ts st W).i + e1P (openP ts st W) := by
    rcases a2 with ⟨x, y⟩ | ⟨x, y⟩
    · rw [e1P_0 y, x]
    · rw [e1P_1 y, x]
  refine ⟨h.move hp (by omega) (by rw [a1]; omega) (by rw [e1P_0 h0]; omega), he⟩
theorem wantP_sum (ts : List Tok) (st : Rd) (W : List UInt8) : st.i + e1P st ≤ (wantP ts st W).i + e1P (wantP ts st W) := by
  obtain ⟨_, _, a3, a4⟩ := wantP_facts ts st W
  rcases a3 with ⟨x, y, z⟩ | ⟨x, y⟩
  · rw [e1P_0 z, x]; omega
  · rw [e1P_1 y, x]
    unfold e1P
    split <;> omega
/-- What inner leaves: the row between the brackets. -/
def IOut (B p g n c : Nat) (ts : List Tok) (o s : List UInt8) (st : Rd) (A : Option Addr) (l : List Ex) (cc : Nat) (w : World) (e : Ending) (w' : World) : Prop :=
  ∃ st2 l' A' cc', PFs ts 0 (openP ts st o) l (st2, l') ∧ e = .returned (.slice A' l'.length cc') ∧ RdAt p g n c ts (upP (wantP ts st2 s)) w' ∧ OE w' B A' l' cc' ∧ Fr (fun k => k = p ∨ Blk A l.length cc k) w w' ∧
    (∀ k, Blk A' l'.length cc' k → Blk A l.length cc k ∨ w.heap.size ≤ k) ∧ (upP (wantP ts st2 s)).deep = st.deep ∧ st.i ≤ (upP (wantP ts st2 s)).i ∧ l'.length + st.i + 1 ≤ l.length + (upP (wantP ts st2 s)).i + e1P (upP (wantP ts st2 s))
theorem expr_c {B p g n c : Nat} {ts : List Tok} {R : Rd × List Ex → Prop} {st : Rd} {A : Option Addr} {l : List Ex} {cc : Nat} {w : World}
    (IH : Calls Try.prog 45 #[.pointer (some ⟨p, 0, none⟩), .slice A l.length cc, .int .i64 0] w (POut B p g n c ts R st A l cc w)) :
    Calls Try.prog 38 #[.pointer (some ⟨p, 0, none⟩), .slice A l.length cc] w (POut B p g n c ts R st A l cc w) := by
  go_enter Try.func38, Try.ntmps38
  go_wp2_with (go_at_call 45; refine IH.mono ?_; rintro e w1 ⟨st', l', A', cc', h1, rfl, h2⟩)
  go_ret
  exact ⟨st', l', A', cc', h1, rfl, h2⟩
set_option maxHeartbeats 3200000 in
theorem inner_c {B p g n c : Nat} {ts : List Tok} {st : Rd} {A : Option Addr} {l : List Ex} {cc : Nat} {w : World} (h : PIn B p g n c ts st A l cc w) (h0 : st.e = 0) (o s : ByteArray)
    (IH : ∀ w1, PIn B p g n c ts (openP ts st o.data.toList) A l cc w1 → Calls Try.prog 45 #[.pointer (some ⟨p, 0, none⟩), .slice A l.length cc, .int .i64 0] w1 (POut B p g n c ts (PFs ts 0 (openP ts st o.data.toList) l) (openP ts st o.data.toList) A l cc w1)) :
    Calls Try.prog 58 #[.pointer (some ⟨p, 0, none⟩), .slice A l.length cc, .string o, .string s] w (IOut B p g n c ts o.data.toList s.data.toList st A l cc w) := by
  have hdn : st.deep ≤ 200000 := by have := h.d1; have := h.rd.hi; have := h.rd.hb; rw [e1P_0 h0] at *; omega
  have hd0 := h.d0
  have HO := rd_open_c h.rd h.hE (by omega) o
  have H := Lib.hid h
  obtain ⟨a1, a2⟩ := openP_facts ts st o.data.toList h0
  have HX : ∀ w1, RdPost p g n c ts (openP ts st o.data.toList) w w1 → Calls Try.prog 38 #[.pointer (some ⟨p, 0, none⟩), .slice A l.length cc] w1 (POut B p g n c ts (PFs ts 0 (openP ts st o.data.toList) l) (openP ts st o.data.toList) A l cc w1) := fun w1 hp => expr_c (IH w1 (h.opened h0 o.data.toList hp).1)
  have HXH := Lib.hid HX
  have HSUM : Hid (∀ w1, RdPost p g n c ts (openP ts st o.data.toList) w w1 → st.i + 1 = (openP ts st o.data.toList).i + e1P (openP ts st o.data.toList)) := Lib.hid (fun w1 hp => (h.opened h0 o.data.toList hp).2)
  have e1 : IntKind.i64.wrap (st.deep + 1 - 1) = st.deep := by rw [IntWalk.i64_in _ (by omega)]; omega
  obtain ⟨s1, hs1⟩ : ∃ s1, openP ts st o.data.toList = s1 := ⟨_, rfl⟩
  have HA2 := Lib.hid a2
  have HA1 := Lib.hid a1
  clear HX IH h a1 a2
  rw [hs1] at HO HXH HSUM HA1 HA2
  have HS1 := Lib.hid hs1
  clear hs1
  go_enter Try.func58, Try.ntmps58
  go_wp2_with (first | (go_at_call 37; refine HO.mono ?_; rintro e w1 ⟨⟨v1, rfl⟩, hp1⟩; have HP1 := Lib.hid hp1; have HX := HXH.out w1 hp1; clear hp1) | (go_at_call 38; refine HX.mono ?_; rintro e w2 ⟨s2, l2, A2, cc2, hpf, rfl, hrd, hrest⟩; have HPF := Lib.hid hpf; have HR2 := Lib.hid (And.intro hrd hrest); have HW := rd_want_c hrd H.out.hE s; clear hpf hrd hrest) | (go_at_call 19; refine HW.mono ?_; rintro e w3 ⟨⟨v3, rfl⟩, hp3⟩; have HP3 := Lib.hid hp3; have k2 := hp3.1.c2; have f2 := hp3.1.fz 2; rw [(wantP_facts ts s2 s.data.toList).1, HR2.out.2.2.2.2.1, HA1.out] at k2; clear hp3))
  go_ret
  obtain ⟨hrd, hoe, hfr, hblk, hd2, hi2, hl2, hs2⟩ := HR2.out
  have hdw : (wantP ts s2 s.data.toList).deep = st.deep + 1 := by rw [(wantP_facts ts s2 s.data.toList).1, hd2, HA1.out]
  have hup : upP (wantP ts s2 s.data.toList) = { wantP ts s2 s.data.toList with deep := st.deep } := by
    unfold upP
    rw [hdw, show st.deep + 1 - 1 = st.deep by omega]
  have hp4 := (HP3.out).trans (RdPost.deep HP3.out.1 st.deep)
  have hb : ∀ k, Blk A l.length cc k → ¬ k = p := H.out.blk
  have hf1 : Fr (fun k => k = p ∨ Blk A l.length cc k) w w1 := ⟨HP1.out.2.os, HP1.out.2.tape, HP1.out.2.output, HP1.out.2.size, fun k hk hn => HP1.out.2.block k hk (fun e => hn (.inl e))⟩
  have hsz1 := HP1.out.2.size
  have hsz2 := hfr.size
  have hf4 := hp4.2
  have hoe4 := hoe.fr hf4 (fun k hk e => by
    have h1 := (hoe.ge hk).1
    have := H.out.pB
    omega)
  have hsum := HSUM.out w1 HP1.out
  refine ⟨s2, l2, A2, cc2, by rw [HS1.out]; exact HPF.out, rfl, by rw [hup]; exact hp4.1, hoe4, (hf1.trans hfr (fun _ _ h => h)).trans hf4 (fun _ _ h => .inl h), fun k hk => ?_, by rw [hup], ?_, ?_⟩
  · rcases hblk k hk with h | h
    · exact .inl h
    · exact .inr (by omega)
  · rw [hup]
    have := (wantP_facts ts s2 s.data.toList).2.1
    show st.i ≤ (wantP ts s2 s.data.toList).i
    rcases HA2.out with ⟨x, _⟩ | ⟨x, _⟩ <;> omega
  · rw [hup]
    show l2.length + st.i + 1 ≤ l.length + (wantP ts s2 s.data.toList).i + e1P { wantP ts s2 s.data.toList with deep := st.deep }
    have hw := wantP_sum ts s2 s.data.toList
    have he : e1P { wantP ts s2 s.data.toList with deep := st.deep } = e1P (wantP ts s2 s.data.toList) := rfl
    rw [he]
    rcases HA2.out with ⟨x, y⟩ | ⟨x, y⟩
    · rw [e1P_0 y] at hsum
      omega
    · obtain ⟨z1, z2⟩ := hs2 y
      rw [z1] at hw ⊢
      rw [z2]
      omega
end Go.Proofs.Ytnnhdkchdjddkaa.C
