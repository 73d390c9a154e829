/- The reference's unary: walk (printed by gen_paru.py). -/
import Derived.Test.YtnnhdkchdjddkaaParR
import Derived.Test.YtnnhdkchdjddkaaRefTyp
namespace Go.Proofs.Ytnnhdkchdjddkaa.C
open Go.RowKit
set_option linter.unusedSimpArgs false
set_option linter.unusedVariables false
theorem RdAt.fr {S : Nat → Prop} {p g n c : Nat} {ts : List Tok} {st : Rd} {w w' : World} (h : RdAt p g n c ts st w) (hf : Fr S w w') (hp : ¬ S p) (hg : ¬ S g) : RdAt p g n c ts st w' := by
  have e : ∀ o, w'.cell? ⟨p, o, none⟩ = w.cell? ⟨p, o, none⟩ := fun o => hf.cell (p := ⟨p, o, none⟩) h.lt hp
  refine ⟨by have := hf.size; have := h.lt; omega, (e 0).trans h.c0, (e 1).trans h.c1, (e 2).trans h.c2, (e 3).trans h.c3, (e 4).trans h.c4, fun o => (hf.frozen (p := ⟨p, o, none⟩) h.lt hp).trans (h.fz o), h.hn, h.hb, h.hi, h.ne, by have := hf.size; have := h.glt; omega, fun j t hj => ?_⟩
  obtain ⟨t0, t1, t2⟩ := h.toks j t hj
  exact ⟨(hf.cell (p := ⟨g, j * 3, none⟩) h.glt hg).trans t0, (hf.cell (p := ⟨g, j * 3 + 1, none⟩) h.glt hg).trans t1, (hf.cell (p := ⟨g, j * 3 + 2, none⟩) h.glt hg).trans t2⟩
theorem PIn.below {B p g n c : Nat} {ts : List Tok} {st : Rd} {A : Option Addr} {l : List Ex} {cc : Nat} {w w1 : World} (h : PIn B p g n c ts st A l cc w) (hb : Below w.heap.size w w1) : PIn B p g n c ts st A l cc w1 :=
  h.move (RdPost.of h.rd hb) h.d0 h.d1 (Nat.le_refl _)
/-- Inside unary: the token lies in a box of its own. -/
structure UIn (B p g n c : Nat) (ts : List Tok) (st : Rd) (A : Option Addr) (l : List Ex) (cc : Nat) (w : World) (kk : Int) (TX : ByteArray) (aa : Int) (W : World) : Prop where
  pin : PIn B p g n c ts st A l cc W
  fr : Fr (fun k => k = p) w W
  sz : w.heap.size < W.heap.size
  d0 : W.cell? ⟨w.heap.size, 0, none⟩ = some (.int .i64 kk)
  d1 : W.cell? ⟨w.heap.size, 1, none⟩ = some (.string TX)
  d2 : W.cell? ⟨w.heap.size, 2, none⟩ = some (.int .i64 aa)
  nb : ∀ k, Blk A l.length cc k → k < w.heap.size
  bw : B ≤ w.heap.size
theorem UIn.fr2 {S : Nat → Prop} {B p g n c : Nat} {ts : List Tok} {st st1 : Rd} {A : Option Addr} {l : List Ex} {cc : Nat} {w : World} {kk : Int} {TX : ByteArray} {aa : Int} {W W1 : World} (h : UIn B p g n c ts st A l cc w kk TX aa W) (hp : PIn B p g n c ts st1 A l cc W1) (hf : Fr (fun k => k = p) W W1) : UIn B p g n c ts st1 A l cc w kk TX aa W1 := by
  have hD : ¬ w.heap.size = p := by have := h.bw; have := h.pin.pB; omega
  exact ⟨hp, h.fr.trans hf (fun _ _ x => x), Nat.lt_of_lt_of_le h.sz hf.size, (hf.cell (p := ⟨w.heap.size, 0, none⟩) h.sz hD).trans h.d0, (hf.cell (p := ⟨w.heap.size, 1, none⟩) h.sz hD).trans h.d1, (hf.cell (p := ⟨w.heap.size, 2, none⟩) h.sz hD).trans h.d2, h.nb, h.bw⟩
theorem UIn.below {B p g n c : Nat} {ts : List Tok} {st : Rd} {A : Option Addr} {l : List Ex} {cc : Nat} {w : World} {kk : Int} {TX : ByteArray} {aa : Int} {W W1 : World} (h : UIn B p g n c ts st A l cc w kk TX aa W) (hb : Below W.heap.size W W1) : UIn B p g n c ts st A l cc w kk TX aa W1 :=
  h.fr2 (S := fun _ => False) (h.pin.below hb) (Fr.of hb)
/-- The next token. -/
theorem UIn.step {B p g n c : Nat} {ts : List Tok} {st : Rd} {A : Option Addr} {l : List Ex} {cc : Nat} {w : World} {kk : Int} {TX : ByteArray} {aa : Int} {W W1 : World} (h : UIn B p g n c ts st A l cc w kk TX aa W) (hp : RdPost p g n c ts { st with i := st.i + 1 } W W1) :
    UIn B p g n c ts { st with i := st.i + 1 } A l cc w kk TX aa W1 :=
  h.fr2 (S := fun _ => False) (h.pin.move hp h.pin.d0 (by have := h.pin.d1; show st.deep ≤ ((st.i + 1 + e1P st : Nat) : Int); omega) (by show st.i + e1P st ≤ st.i + 1 + e1P st; omega)) hp.2
/-- A row of nodes behind another one. -/
structure Mid (B p g n c : Nat) (ts : List Tok) (st' : Rd) (l' : List Ex) (A' : Option Addr) (cc' : Nat) (A : Option Addr) (l : List Ex) (cc : Nat) (W w3 : World) : Prop where
  rd : RdAt p g n c ts st' w3
  oe : OE w3 B A' l' cc'
  fr : Fr (fun k => k = p ∨ Blk A l.length cc k) W w3
  bk : ∀ k, Blk A' l'.length cc' k → Blk A l.length cc k ∨ W.heap.size ≤ k
theorem Mid.refl {B p g n c : Nat} {ts : List Tok} {st : Rd} {A : Option Addr} {l : List Ex} {cc : Nat} {w : World} {kk : Int} {TX : ByteArray} {aa : Int} {W : World} (h : UIn B p g n c ts st A l cc w kk TX aa W) : Mid B p g n c ts st l A cc A l cc W W :=
  ⟨h.pin.rd, h.pin.oe, Fr.of (Below.refl _ _), fun _ x => .inl x⟩
theorem Mid.box {B p g n c : Nat} {ts : List Tok} {st : Rd} {A : Option Addr} {l : List Ex} {cc : Nat} {w : World} {kk : Int} {TX : ByteArray} {aa : Int} {W w3 : World} {st' : Rd} {l' : List Ex} {A' : Option Addr} {cc' : Nat} (h : UIn B p g n c ts st A l cc w kk TX aa W) (hM : Mid B p g n c ts st' l' A' cc' A l cc W w3) :
    w3.cell? ⟨w.heap.size, 0, none⟩ = some (.int .i64 kk) ∧ w3.cell? ⟨w.heap.size, 1, none⟩ = some (.string TX) ∧ w3.cell? ⟨w.heap.size, 2, none⟩ = some (.int .i64 aa) := by
  have hD : ¬ (w.heap.size = p ∨ Blk A l.length cc w.heap.size) := fun e => by
    have h1 := h.bw
    have h2 := h.pin.pB
    rcases e with e | e
    · omega
    · have := h.nb _ e; omega
  exact ⟨(hM.fr.cell (p := ⟨w.heap.size, 0, none⟩) h.sz hD).trans h.d0, (hM.fr.cell (p := ⟨w.heap.size, 1, none⟩) h.sz hD).trans h.d1, (hM.fr.cell (p := ⟨w.heap.size, 2, none⟩) h.sz hD).trans h.d2⟩
theorem Mid.below {B p g n c : Nat} {ts : List Tok} {st' : Rd} {l' : List Ex} {A' : Option Addr} {cc' : Nat} {A : Option Addr} {l : List Ex} {cc : Nat} {W w3 w4 : World} (h : Mid B p g n c ts st' l' A' cc' A l cc W w3) (hb : Below w3.heap.size w3 w4) : Mid B p g n c ts st' l' A' cc' A l cc W w4 :=
  ⟨h.rd.below hb, ownT_below h.oe hb, h.fr.trans (Fr.of (S := fun _ => False) hb) (fun _ _ x => x.elim), h.bk⟩
theorem fin_node {B p g n c : Nat} {ts : List Tok} {st : Rd} {A : Option Addr} {l : List Ex} {cc : Nat} {w : World} {R : Rd × List Ex → Prop} {W w3 w4 : World} {st' : Rd} {l' : List Ex} {A' : Option Addr} {cc' : Nat} {X : Ex} {A2 : Option Addr} {c2 n2 : Nat} (h : PIn B p g n c ts st A l cc w) (h0 : st.e = 0)
    (hfr : Fr (fun k => k = p) w W) (hM : Mid B p g n c ts st' l' A' cc' A l cc W w3) (hR : R (st', l' ++ [X]))
    (ho : OE w4 B A2 (l' ++ [X]) c2) (hf : Fr (Blk A' l'.length cc') w3 w4) (hk : ∀ k, Blk A2 (l' ++ [X]).length c2 k → Blk A' l'.length cc' k ∨ w3.heap.size ≤ k) (hn : n2 = (l' ++ [X]).length)
    (hd : st'.deep = st.deep) (hi : st.i ≤ st'.i) (hl : l'.length + st.i + 1 ≤ l.length + st'.i + e1P st') : POut B p g n c ts R st A l cc w (.returned (.slice A2 n2 c2)) w4 := by
  have hg : ∀ k, Blk A' l'.length cc' k → B ≤ k := fun k hk => (hM.oe.ge hk).1
  have s1 := hfr.size
  have s2 := hM.fr.size
  refine ⟨st', l' ++ [X], A2, c2, hR, by rw [hn], hM.rd.fr hf (fun e => by have := hg _ e; have := h.pB; omega) (fun e => by have := hg _ e; have := h.gB; omega), ho, ?_, fun k hk2 => ?_, hd, hi, by rw [List.length_append]; show l'.length + 1 + st.i ≤ _; omega, fun he => absurd h0 he⟩
  · have f1 : Fr (fun k => k = p ∨ Blk A l.length cc k) w W := ⟨hfr.os, hfr.tape, hfr.output, hfr.size, fun k hk hn => hfr.block k hk (fun e => hn (.inl e))⟩
    refine (f1.trans hM.fr (fun _ _ x => x)).trans hf (fun k hkw hb => ?_)
    rcases hM.bk k hb with x | x
    · exact .inr x
    · exact absurd hkw (by omega)
  · rcases hk k hk2 with x | x
    · rcases hM.bk k x with y | y
      · exact .inl y
      · exact .inr (by omega)
    · exact .inr (by omega)
theorem fin_row {B p g n c : Nat} {ts : List Tok} {st : Rd} {A : Option Addr} {l : List Ex} {cc : Nat} {w : World} {R : Rd × List Ex → Prop} {W w3 : World} {st' : Rd} {l' : List Ex} {A' : Option Addr} {cc' : Nat} (h0 : st.e = 0)
    (hfr : Fr (fun k => k = p) w W) (hM : Mid B p g n c ts st' l' A' cc' A l cc W w3) (hR : R (st', l'))
    (hd : st'.deep = st.deep) (hi : st.i ≤ st'.i) (hl : l'.length + st.i ≤ l.length + st'.i + e1P st') : POut B p g n c ts R st A l cc w (.returned (.slice A' l'.length cc')) w3 := by
  have s1 := hfr.size
  have f1 : Fr (fun k => k = p ∨ Blk A l.length cc k) w W := ⟨hfr.os, hfr.tape, hfr.output, hfr.size, fun k hk hn => hfr.block k hk (fun e => hn (.inl e))⟩
  refine ⟨st', l', A', cc', hR, rfl, hM.rd, hM.oe, f1.trans hM.fr (fun _ _ x => x), fun k hk => ?_, hd, hi, hl, fun he => absurd h0 he⟩
  rcases hM.bk k hk with y | y
  · exact .inl y
  · exact .inr (by omega)
/-- A node behind a row of one's own. -/
theorem wpList_append_ex {ops : Array Oper} {rest : List Oper} {o : Oper} {a : Act} {Q : Exit → Act → World → Prop} (hgd : o.guard = none) (s x : Operand)
    (ho : o.op = .call { callee := .builtin .append, args := #[s, x], argTypes := #[60, 60] }) {w W0 : World} (X : Ex) {base : Nat} {A : Option Addr} {l : List Ex} {c : Nat}
    (hs : a.eval s = .slice A l.length c) (hw : w = W0.alloc (.cells #[.int .i64 X.k, .int .i64 X.num, .int .i64 X.t, .string ⟨X.nm.toArray⟩, .int .i64 X.a, .int .i64 X.b, .int .i64 X.at_] 73)) (hoe : OE W0 base A l c) (hb : base ≤ W0.heap.size) {z : Nat} (hx : a.eval x = .slice (some ⟨z, 0, none⟩) 1 1) (hz : W0.heap.size = z) (hl : l.length ≤ 1000000)
    (h : ∀ (A2 : Option Addr) (c2 n2 : Nat) (w' : World), n2 = (l ++ [X]).length → OE w' base A2 (l ++ [X]) c2 → Fr (Blk A l.length c) W0 w' → (∀ k, Blk A2 (l ++ [X]).length c2 k → Blk A l.length c k ∨ W0.heap.size ≤ k) → wpList Try.prog ops Q rest (a.put o.dst (.slice A2 n2 c2)) w') :
    wpList Try.prog ops Q (o :: rest) a w := by
  obtain ⟨i0, hi, hzz⟩ := Option.map_eq_some_iff.1 infoEx
  simp only [Prod.mk.injEq] at hzz
  subst hw
  subst hz
  refine wpList_append_own_at _ hgd s x 60 ho base 73 i0 (.agg #[.int .i64 0, .int .i64 0, .int .i64 0, .string ByteArray.empty, .int .i64 0, .int .i64 0, .int .i64 0]) 7 64 Try.underlying60 hi hzz.1 hzz.2.1 hzz.2.2 rfl (by omega) (.slice A l.length c) l.length _ hs (ownT_below hoe ((Below.refl _ _).alloc (Nat.le_refl _) _)) ⟨W0.heap.size, 0, none⟩ 1 1 (exV X) hx rfl (tok_bd W0 _ 73) (by intro u hu; simp only [exV, List.mem_cons, List.not_mem_nil, or_false] at hu; rcases hu with rfl | rfl | rfl | rfl | rfl | rfl | rfl <;> rfl) (by unfold maxLen; omega) (by omega) (by simp; omega) ?_
  intro v' w2 hown hg2 hnil hat
  obtain ⟨A2, c2, rfl, ho2, hf, hk⟩ := hoe.snoc (x := X) (Below.refl _ _) hown hg2 hat
  exact h A2 c2 _ w2 rfl ho2 hf hk
theorem openP_sum (ts : List Tok) (st : Rd) (W : List UInt8) (h0 : st.e = 0) : st.i + 1 = (openP ts st W).i + e1P (openP ts st W) := by
  rcases (openP_facts ts st W h0).2 with ⟨x, y⟩ | ⟨x, y⟩
  · rw [e1P_0 y, x]
  · rw [e1P_1 y, x]
theorem inner_u {B p g n c : Nat} {ts : List Tok} {st s : Rd} {A : Option Addr} {l : List Ex} {cc : Nat} {w : World} {kk : Int} {TX : ByteArray} {aa : Int} {W : World} (U : UIn B p g n c ts s A l cc w kk TX aa W) (h0 : s.e = 0) (hle : st.i + e1P st ≤ s.i) (o q : ByteArray)
    (IHr : ∀ st1 W, st.i + e1P st < st1.i + e1P st1 → PIn B p g n c ts st1 A l cc W → Calls Try.prog 45 #[.pointer (some ⟨p, 0, none⟩), .slice A l.length cc, .int .i64 0] W (POut B p g n c ts (PFs ts 0 st1 l) st1 A l cc W)) :
    Calls Try.prog 58 #[.pointer (some ⟨p, 0, none⟩), .slice A l.length cc, .string o, .string q] W fun e w3 => ∃ st2 l' A' cc', e = .returned (.slice A' l'.length cc') ∧ PFs ts 0 (openP ts s o.data.toList) l (st2, l') ∧
      Mid B p g n c ts (upP (wantP ts st2 q.data.toList)) l' A' cc' A l cc W w3 ∧ (upP (wantP ts st2 q.data.toList)).deep = s.deep ∧ s.i ≤ (upP (wantP ts st2 q.data.toList)).i ∧ l'.length + s.i + 1 ≤ l.length + (upP (wantP ts st2 q.data.toList)).i + e1P (upP (wantP ts st2 q.data.toList)) ∧ l'.length ≤ 1000000 := by
  refine (inner_c U.pin h0 o q (fun w1 h1 => IHr _ w1 (by rw [← openP_sum ts s _ h0]; omega) h1)).mono ?_
  rintro e w3 ⟨st2, l', A', cc', z1, rfl, z2, z3, z4, z5, z6, z7, z8⟩
  have hlen := U.pin.ll
  have hrn := z2.hi
  have hrb := z2.hb
  have he1 : e1P (upP (wantP ts st2 q.data.toList)) ≤ 1 := by unfold e1P; split <;> omega
  have he0 := e1P_0 h0
  exact ⟨st2, l', A', cc', rfl, z1, ⟨z2, z3, z4, z5⟩, z6, z7, z8, by omega⟩
theorem tok_lt {B p g n c : Nat} {ts : List Tok} {st : Rd} {A : Option Addr} {l : List Ex} {cc : Nat} {w : World} (h : PIn B p g n c ts st A l cc w) (hk : (tkP ts st.i).k ≠ 0) : st.i + 1 < n := by
  rcases Nat.lt_or_ge (st.i + 1) n with x | x
  · exact x
  · have : st.i = n - 1 := by have := h.rd.hi; omega
    rw [this] at hk
    exact absurd h.hE hk
theorem MidB {B p g n c : Nat} {ts : List Tok} {st : Rd} {A : Option Addr} {l : List Ex} {cc : Nat} {w : World} {kk : Int} {TX : ByteArray} {aa : Int} {W w3 : World} {st' : Rd} {l' : List Ex} {A' : Option Addr} {cc' : Nat} (hM : Mid B p g n c ts st' l' A' cc' A l cc W w3) (h : UIn B p g n c ts st A l cc w kk TX aa W) : B ≤ w3.heap.size :=
  Nat.le_trans h.pin.bw hM.fr.size
theorem UIn.same {B p g n c : Nat} {ts : List Tok} {st : Rd} {A : Option Addr} {l : List Ex} {cc : Nat} {w : World} {kk : Int} {TX : ByteArray} {aa : Int} {W W1 : World} (h : UIn B p g n c ts st A l cc w kk TX aa W) (hp : RdPost p g n c ts st W W1) : UIn B p g n c ts st A l cc w kk TX aa W1 :=
  h.fr2 (S := fun _ => False) (h.pin.move hp h.pin.d0 h.pin.d1 (Nat.le_refl _)) hp.2
theorem UIn.len {B p g n c : Nat} {ts : List Tok} {st : Rd} {A : Option Addr} {l : List Ex} {cc : Nat} {w : World} {kk : Int} {TX : ByteArray} {aa : Int} {W : World} (h : UIn B p g n c ts st A l cc w kk TX aa W) : l.length ≤ 1000000 := by
  have := h.pin.ll
  have := h.pin.rd.hi
  have := h.pin.rd.hb
  have : e1P st ≤ 1 := by unfold e1P; split <;> omega
  omega
theorem readT_L (s : ByteArray) : readT s = readTL s.data.toList := by
  obtain ⟨⟨l⟩⟩ := s
  unfold readT readTL idxT
  simp only [namesL, List.findIdx?_cons, Lib.toList_data]
  have e : ∀ m : List UInt8, (l == m) = decide (l = m) := fun m => by rw [Bool.eq_iff_iff, beq_iff_eq, decide_eq_true_eq]
  simp only [e]
  by_cases h1 : l = [105,56]
  · simp [h1]
  by_cases h2 : l = [117,56]
  · simp [h2]
  by_cases h3 : l = [105,49,54]
  · simp [h3]
  by_cases h4 : l = [117,49,54]
  · simp [h4]
  by_cases h5 : l = [105,51,50]
  · simp [h5]
  by_cases h6 : l = [117,51,50]
  · simp [h6]
  simp [h1, h2, h3, h4, h5, h6]
theorem pF4 (ts : List Tok) (f : Nat) (st : Rd) (l : List Ex) (h0 : st.e = 0) : pF ts (f + 1) 4 st l = (
      let t := tkP ts st.i
      if isP ts st [45] = true ∨ isP ts st [126] = true then
        (pF ts f 4 (openP ts st t.t) l).bind (fun r => some (upP r.1, r.2 ++ [nodeP (if t.t = [126] then 7 else 6) ((r.2.length : Int) - 1) (-1) t.at_]))
      else if isP ts st [40] = true then (pF ts f 0 (openP ts st [40]) l).bind (fun r => some (upP (wantP ts r.1 [41]), r.2))
      else if t.k = 2 then some ({ st with i := st.i + 1 }, l ++ [⟨1, (rnumberL t.t).1, (rnumberL t.t).2.1, [], -1, -1, t.at_⟩])
      else if t.k = 1 then
        if isP ts { st with i := st.i + 1 } [91] = true then
          (pF ts f 0 (openP ts { st with i := st.i + 1 } [91]) l).bind (fun r => some (upP (wantP ts r.1 [93]), r.2 ++ [⟨3, 0, 0, t.t, (r.2.length : Int) - 1, -1, t.at_⟩]))
        else some ({ st with i := st.i + 1 }, l ++ [⟨2, 0, 0, t.t, -1, -1, t.at_⟩])
      else if isP ts st [111, 108, 100] = true then
        (pF ts f 0 (openP ts { st with i := st.i + 1 } [40]) l).bind (fun r => some (upP (wantP ts r.1 [41]), r.2 ++ [nodeP 4 ((r.2.length : Int) - 1) (-1) t.at_]))
      else if isP ts st [114, 101, 115, 117, 108, 116] = true then some ({ st with i := st.i + 1 }, l ++ [nodeP 5 (-1) (-1) t.at_])
      else if t.k = 3 ∧ 0 < readTL t.t then
        (pF ts f 0 (openP ts { st with i := st.i + 1 } [40]) l).bind (fun r => some (upP (wantP ts r.1 [41]), r.2 ++ [⟨18, 0, readTL t.t, [], (r.2.length : Int) - 1, -1, t.at_⟩]))
      else some (failP ts st 5, l)) := by
  rw [pF, if_neg (by omega), if_neg (by omega), if_neg (by simp [h0])]
end Go.Proofs.Ytnnhdkchdjddkaa.C
