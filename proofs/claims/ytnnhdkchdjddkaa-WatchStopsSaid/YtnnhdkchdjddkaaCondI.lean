/- The reference's reader of conditions: what its functions need and leave: plain facts. -/
import Derived.Test.YtnnhdkchdjddkaaCondM
import Derived.Test.YtnnhdkchdjddkaaParX
namespace Go.Proofs.Ytnnhdkchdjddkaa.C
open Go.RowKit
set_option linter.unusedSimpArgs false
set_option linter.unusedVariables false
theorem OE.base {w : World} {B B' : Nat} {A : Option Addr} {l : List Ex} {c : Nat} (h : OE w B' A l c) (hB : B ≤ B') : OE w B A l c := by
  obtain ⟨h1, h2⟩ := h
  refine ⟨h1, ?_⟩
  rcases h2 with h2 | ⟨g, cap, cur, e, hg, r⟩
  · exact .inl h2
  · exact .inr ⟨g, cap, cur, e, Nat.le_trans hB hg, r⟩
def cvP (k a b at_ : Int) : Cv := ⟨cdP k a b at_, none, 0, none, 0⟩
def csOf (l : List Cv) : List Cd := l.map Cv.c
theorem csOf_len (l : List Cv) : (csOf l).length = l.length := List.length_map _
theorem csOf_snoc (l : List Cv) (x : Cv) : csOf (l ++ [x]) = csOf l ++ [x.c] := by unfold csOf; rw [List.map_append]; rfl
/-- What a function of the reader that goes on with a row of conditions may lean on. -/
structure CIn (B p g n c : Nat) (ts : List Tok) (st : Rd) (A : Option Addr) (l : List Cv) (cc : Nat) (w : World) : Prop where
  rd : RdAt p g n c ts st w
  oc : OC w B A l cc
  pB : p < B
  gB : g < B
  bw : B ≤ w.heap.size
  hE : (tkP ts (n - 1)).k = 0
  d0 : 0 ≤ st.deep
  d1 : st.deep ≤ ((st.i + e1P st : Nat) : Int)
  ll : l.length ≤ st.i + e1P st
/-- What it leaves. -/
def COut (B p g n c : Nat) (ts : List Tok) (R : Rd × List Cd → Prop) (st : Rd) (A : Option Addr) (l : List Cv) (cc : Nat) (w : World) (e : Ending) (w' : World) : Prop :=
  ∃ st' l' A' cc', R (st', csOf l') ∧ e = .returned (.slice A' l'.length cc') ∧ RdAt p g n c ts st' w' ∧ OC w' B A' l' cc' ∧ Fr (fun k => k = p ∨ Blk A l.length cc k) w w' ∧
    (∀ k, Blk A' l'.length cc' k → Blk A l.length cc k ∨ w.heap.size ≤ k) ∧ st'.deep = st.deep ∧ st.i ≤ st'.i ∧ l'.length + st.i ≤ l.length + st'.i + e1P st' ∧ (st.e ≠ 0 → st' = st ∧ l' = l)
/-- A row of conditions behind another one. -/
structure CMid (B p g n c : Nat) (ts : List Tok) (st' : Rd) (l' : List Cv) (A' : Option Addr) (cc' : Nat) (A : Option Addr) (l : List Cv) (cc : Nat) (w w3 : World) : Prop where
  pB : p < B
  gB : g < B
  bw : B ≤ w.heap.size
  rd : RdAt p g n c ts st' w3
  oc : OC w3 B A' l' cc'
  fr : Fr (fun k => k = p ∨ Blk A l.length cc k) w w3
  bk : ∀ k, Blk A' l'.length cc' k → Blk A l.length cc k ∨ w.heap.size ≤ k
section
variable {B p g n c : Nat} {ts : List Tok} {st st' st1 s2 : Rd} {A A' A2 : Option Addr} {l l' l2 : List Cv} {cc cc' cc2 c2 n2 : Nat} {w w1 w3 w4 : World} {R : Rd × List Cd → Prop}
theorem CIn.mid (h : CIn B p g n c ts st A l cc w) : CMid B p g n c ts st l A cc A l cc w w := ⟨h.pB, h.gB, h.bw, h.rd, h.oc, Fr.of (Below.refl _ _), fun _ x => .inl x⟩
theorem CMid.post (h : CMid B p g n c ts st' l' A' cc' A l cc w w3) (hp : RdPost p g n c ts s2 w3 w4) : CMid B p g n c ts s2 l' A' cc' A l cc w w4 :=
  ⟨h.pB, h.gB, h.bw, hp.1, h.oc.fr hp.2 (fun k hk e => by have := (h.oc.ge hk).1; have := h.pB; omega) (fun k hk e => by have := (h.oc.geN hk).1; have := h.pB; omega), h.fr.trans hp.2 (fun _ _ x => .inl x), h.bk⟩
theorem CMid.below (h : CMid B p g n c ts st' l' A' cc' A l cc w w3) (hb : Below w3.heap.size w3 w4) : CMid B p g n c ts st' l' A' cc' A l cc w w4 := h.post (RdPost.of h.rd hb)
theorem CMid.deep (h : CMid B p g n c ts st' l' A' cc' A l cc w w3) {d : Int} (hd : st'.deep = d + 1) : CMid B p g n c ts (upP st') l' A' cc' A l cc w (w3.setCell ⟨p, 2, none⟩ (.int .i64 d)) := by
  have hp := RdPost.deep h.rd d
  have e : ({ st' with deep := d } : Rd) = upP st' := by unfold upP; rw [hd]; simp
  rw [e] at hp
  exact h.post hp
theorem CMid.bw3 (h : CMid B p g n c ts st' l' A' cc' A l cc w w3) : B ≤ w3.heap.size := Nat.le_trans h.bw h.fr.size
theorem CMid.join (h : CMid B p g n c ts st1 l A cc A l cc w w1) (q3 : RdAt p g n c ts s2 w3) (q4 : OC w3 B A2 l2 cc2) (q5 : Fr (fun k => k = p ∨ Blk A l.length cc k) w1 w3) (q6 : ∀ k, Blk A2 l2.length cc2 k → Blk A l.length cc k ∨ w1.heap.size ≤ k) :
    CMid B p g n c ts s2 l2 A2 cc2 A l cc w w3 :=
  ⟨h.pB, h.gB, h.bw, q3, q4, h.fr.trans q5 (fun _ _ x => x), fun k hk => (q6 k hk).imp id (fun x => Nat.le_trans h.fr.size x)⟩
theorem CMid.opened (h : CIn B p g n c ts st A l cc w) (h0 : st.e = 0) (hM : CMid B p g n c ts st l A cc A l cc w w1) (W : List UInt8) (hp : RdPost p g n c ts (openP ts st W) w1 w3) : CIn B p g n c ts (openP ts st W) A l cc w3 ∧ CMid B p g n c ts (openP ts st W) l A cc A l cc w w3 := by
  have hm := hM.post hp
  obtain ⟨a1, a2⟩ := openP_facts ts st W h0
  have hs := openP_sum ts st W h0
  have hd := h.d1
  have hd0 := h.d0
  have hl := h.ll
  rw [e1P_0 h0] at hd hl
  exact ⟨⟨hm.rd, hm.oc, h.pB, h.gB, hm.bw3, h.hE, by omega, by rw [a1]; omega, by omega⟩, hm⟩
theorem open_len (h0 : st.e = 0) (W : List UInt8) (hl : l2.length + (openP ts st W).i ≤ l.length + s2.i + e1P s2) (he : (openP ts st W).e ≠ 0 → s2 = openP ts st W ∧ l2 = l) : l2.length + st.i + 1 ≤ l.length + s2.i + e1P s2 := by
  rcases (openP_facts ts st W h0).2 with ⟨x, y⟩ | ⟨x, y⟩
  · rw [x] at hl; omega
  · obtain ⟨z1, z2⟩ := he y
    rw [z1, z2, e1P_1 y, x]
    omega
theorem open_i (h0 : st.e = 0) (W : List UInt8) : st.i ≤ (openP ts st W).i := by
  rcases (openP_facts ts st W h0).2 with ⟨x, y⟩ | ⟨x, y⟩ <;> omega
theorem fin_cd {X : Cv} (h0 : st.e = 0) (hM : CMid B p g n c ts st' l' A' cc' A l cc w w3) (hR : R (st', csOf (l' ++ [X]))) (ho : OC w4 B A2 (l' ++ [X]) c2) (hf : Fr (Blk A' l'.length cc') w3 w4) (hk : ∀ k, Blk A2 (l' ++ [X]).length c2 k → Blk A' l'.length cc' k ∨ w3.heap.size ≤ k) (hn : n2 = (l' ++ [X]).length)
    (hd : st'.deep = st.deep) (hi : st.i ≤ st'.i) (hl : l'.length + st.i + 1 ≤ l.length + st'.i + e1P st') : COut B p g n c ts R st A l cc w (.returned (.slice A2 n2 c2)) w4 := by
  have hg : ∀ k, Blk A' l'.length cc' k → B ≤ k := fun k hk => (hM.oc.ge hk).1
  have s2 := hM.fr.size
  refine ⟨st', l' ++ [X], A2, c2, hR, by rw [hn], hM.rd.fr hf (fun e => by have := hg _ e; have := hM.pB; omega) (fun e => by have := hg _ e; have := hM.gB; omega), ho, ?_, fun k hk2 => ?_, hd, hi, by rw [List.length_append]; show l'.length + 1 + st.i ≤ _; omega, fun he => absurd h0 he⟩
  · refine hM.fr.trans hf (fun k hkw hb => ?_)
    rcases hM.bk k hb with x | x
    · exact .inr x
    · exact absurd hkw (by omega)
  · rcases hk k hk2 with x | x
    · exact hM.bk k x
    · exact .inr (by omega)
theorem fin_cs (h0 : st.e = 0) (hM : CMid B p g n c ts st' l' A' cc' A l cc w w3) (hR : R (st', csOf l')) (hd : st'.deep = st.deep) (hi : st.i ≤ st'.i) (hl : l'.length + st.i ≤ l.length + st'.i + e1P st') : COut B p g n c ts R st A l cc w (.returned (.slice A' l'.length cc')) w3 :=
  ⟨st', l', A', cc', hR, rfl, hM.rd, hM.oc, hM.fr, hM.bk, hd, hi, hl, fun he => absurd h0 he⟩
/-- The first side of a relation has been read. -/
def CMx (B p g n c : Nat) (ts : List Tok) (s1 : Rd) (A : Option Addr) (l : List Cv) (cc : Nat) (w : World) (ax : Option Addr) (x : List Ex) (cx : Nat) (W : World) : Prop :=
  CMid B p g n c ts s1 l A cc A l cc w W ∧ OE W B ax x cx ∧ ∀ k, Blk ax x.length cx k → ¬ Blk A l.length cc k
theorem CMx.post {s1 : Rd} {ax : Option Addr} {x : List Ex} {cx : Nat} (h : CMx B p g n c ts s1 A l cc w ax x cx w3) (hp : RdPost p g n c ts s2 w3 w4) : CMx B p g n c ts s2 A l cc w ax x cx w4 :=
  ⟨h.1.post hp, h.2.1.fr hp.2 (fun k hk e => by have := (h.2.1.ge hk).1; have := h.1.pB; omega), h.2.2⟩
theorem CMx.below {s1 : Rd} {ax : Option Addr} {x : List Ex} {cx : Nat} (h : CMx B p g n c ts s1 A l cc w ax x cx w3) (hb : Below w3.heap.size w3 w4) : CMx B p g n c ts s1 A l cc w ax x cx w4 := h.post (RdPost.of h.1.rd hb)
theorem CMx.mk {s1 : Rd} {ax : Option Addr} {x : List Ex} {cx : Nat} (h : CMid B p g n c ts st l A cc A l cc w w1) (hb : ∀ k, Blk A l.length cc k → k < w.heap.size) (x2 : RdAt p g n c ts s1 w3) (x3 : OE w3 w1.heap.size ax x cx) (x4 : Fr (fun k => k = p) w1 w3) : CMx B p g n c ts s1 A l cc w ax x cx w3 :=
  ⟨h.post ⟨x2, x4⟩, x3.base h.bw3, fun k hk ha => by have := (x3.ge hk).1; have := hb k ha; have := h.fr.size; omega⟩
theorem CMx.apart {s1 : Rd} {ax ay : Option Addr} {x y : List Ex} {cx cy : Nat} (hb : ∀ k, Blk A l.length cc k → k < w.heap.size) (h : CMx B p g n c ts s1 A l cc w ax x cx w1) (y3 : OE w3 w1.heap.size ay y cy) : ∀ k, Blk ay y.length cy k → ¬ Blk A l.length cc k := fun k hk ha => by
  have := (y3.ge hk).1
  have := hb k ha
  have := h.1.fr.size
  omega
theorem failP_same (ts : List Tok) (s : Rd) (E : Int) : (failP ts s E).deep = s.deep ∧ (failP ts s E).i = s.i := by
  unfold failP
  split <;> exact ⟨rfl, rfl⟩
/-- Inside the loops of cond and of both. -/
structure CLp (B p g n c : Nat) (ts : List Tok) (m : Nat) (st : Rd) (A : Option Addr) (l : List Cv) (cc : Nat) (w : World) (s1 : Rd) (A1 : Option Addr) (l1 : List Cv) (cc1 : Nat) (W : World) : Prop where
  mid : CMid B p g n c ts s1 l1 A1 cc1 A l cc w W
  dp : s1.deep = st.deep
  ii : st.i ≤ s1.i
  ll : l1.length + st.i ≤ l.length + s1.i + e1P s1
  er : st.e ≠ 0 → s1 = st ∧ l1 = l
  on : ∀ r, CFs ts (3 + m) s1 (csOf l1) r → CFs ts m st (csOf l) r
end
section
variable {B p g n c m : Nat} {ts : List Tok} {st s1 s2 : Rd} {A A1 A2 A3 : Option Addr} {l l1 l2 : List Cv} {cc cc1 cc2 c3 : Nat} {w W W1 W2 W3 : World} {K : Int} {T : List UInt8}
theorem CLp.cin (h : CLp B p g n c ts m st A l cc w s1 A1 l1 cc1 W) (hi : CIn B p g n c ts st A l cc w) (h0 : s1.e = 0) (hp : RdPost p g n c ts { s1 with i := s1.i + 1 } W W1) : CIn B p g n c ts { s1 with i := s1.i + 1 } A1 l1 cc1 W1 ∧ st.i + e1P st < s1.i + 1 + e1P { s1 with i := s1.i + 1 } := by
  have hm := h.mid.post hp
  have e2 : e1P { s1 with i := s1.i + 1 } = 0 := e1P_0 (st := { s1 with i := s1.i + 1 }) h0
  have hst : st.e = 0 := Classical.byContradiction (fun x => by have := (h.er x).1; rw [this] at h0; exact x h0)
  have e3 := e1P_0 hst
  have e1 := e1P_0 h0
  have hd0 := hi.d0
  have hd1 := hi.d1
  have hdp := h.dp
  have hll := h.ll
  have hl0 := hi.ll
  have hii := h.ii
  refine ⟨⟨hm.rd, hm.oc, h.mid.pB, h.mid.gB, hm.bw3, hi.hE, by show 0 ≤ s1.deep; omega, ?_, ?_⟩, by omega⟩
  · show s1.deep ≤ ((s1.i + 1 + e1P { s1 with i := s1.i + 1 } : Nat) : Int)
    omega
  · show l1.length ≤ s1.i + 1 + e1P { s1 with i := s1.i + 1 }
    omega
theorem CLp.fin (h : CLp B p g n c ts m st A l cc w s1 A1 l1 cc1 W) (hR : CFs ts (3 + m) s1 (csOf l1) (s1, csOf l1)) (hp : RdPost p g n c ts s1 W W1) : COut B p g n c ts (CFs ts m st (csOf l)) st A l cc w (.returned (.slice A1 l1.length cc1)) W1 := by
  have hm := h.mid.post hp
  exact ⟨s1, l1, A1, cc1, h.on _ hR, rfl, hm.rd, hm.oc, hm.fr, hm.bk, h.dp, h.ii, h.ll, h.er⟩
theorem CLp.next (h : CLp B p g n c ts m st A l cc w s1 A1 l1 cc1 W) (h0 : s1.e = 0) (hp : RdPost p g n c ts { s1 with i := s1.i + 1 } W W1) {M : Nat}
    (hon : ∀ {r1 r : Rd × List Cd}, CFs ts M { s1 with i := s1.i + 1 } (csOf l1) r1 → CFs ts (3 + m) r1.1 (r1.2 ++ [cdP K (((csOf l1).length : Int) - 1) ((r1.2.length : Int) - 1) (tkP ts s1.i).at_]) r → CFs ts (3 + m) s1 (csOf l1) r)
    (q1 : CFs ts M { s1 with i := s1.i + 1 } (csOf l1) (s2, csOf l2)) (q2 : RdAt p g n c ts s2 W2) (q3 : OC W2 B A2 l2 cc2) (q4 : Fr (fun k => k = p ∨ Blk A1 l1.length cc1 k) W1 W2) (q5 : ∀ k, Blk A2 l2.length cc2 k → Blk A1 l1.length cc1 k ∨ W1.heap.size ≤ k) (q6 : s2.deep = s1.deep) (q7 : s1.i + 1 ≤ s2.i) (q8 : l2.length + (s1.i + 1) ≤ l1.length + s2.i + e1P s2)
    (r1 : OC W3 B A3 (l2 ++ [cvP K ((l1.length : Int) - 1) ((l2.length : Int) - 1) (tkP ts s1.i).at_]) c3) (r2 : Fr (Blk A2 l2.length cc2) W2 W3) (r3 : ∀ k, Blk A3 (l2 ++ [cvP K ((l1.length : Int) - 1) ((l2.length : Int) - 1) (tkP ts s1.i).at_]).length c3 k → Blk A2 l2.length cc2 k ∨ W2.heap.size ≤ k) :
    CLp B p g n c ts m st A l cc w s2 A3 (l2 ++ [cvP K ((l1.length : Int) - 1) ((l2.length : Int) - 1) (tkP ts s1.i).at_]) c3 W3 := by
  have pB := h.mid.pB
  have gB := h.mid.gB
  have z1 := h.mid.fr.size
  have z2 := hp.2.size
  have z3 := q4.size
  have f1 := h.mid.fr.trans hp.2 (fun _ _ x => .inl x)
  have f2 := f1.trans q4 (fun k hkw x => by
    rcases x with x | x
    · exact .inl x
    · rcases h.mid.bk k x with y | y
      · exact .inr y
      · exact absurd hkw (by omega))
  have f3 := f2.trans r2 (fun k hkw x => by
    rcases q5 k x with x | x
    · rcases h.mid.bk k x with y | y
      · exact .inr y
      · exact absurd hkw (by omega)
    · exact absurd hkw (by omega))
  have hl1 := h.ll
  have e1 := e1P_0 h0
  refine ⟨⟨pB, gB, h.mid.bw, q2.fr r2 (fun x => by have := (q3.ge x).1; omega) (fun x => by have := (q3.ge x).1; omega), r1, f3, fun k x => ?_⟩, by rw [q6, h.dp], by have := h.ii; omega, ?_, fun x => absurd h0 (by rw [(h.er x).1]; exact x), fun r hr => h.on _ (hon q1 ?_)⟩
  · rcases r3 k x with x | x
    · rcases q5 k x with x | x
      · exact h.mid.bk k x
      · exact .inr (by omega)
    · exact .inr (by omega)
  · rw [List.length_append]
    show l2.length + 1 + st.i ≤ _
    omega
  · rw [csOf_snoc] at hr
    rw [csOf_len, csOf_len]
    exact hr
end
end Go.Proofs.Ytnnhdkchdjddkaa.C
