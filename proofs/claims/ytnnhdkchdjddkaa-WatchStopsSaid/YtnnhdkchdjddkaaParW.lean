/- The reference's row of operators: walk. -/
import Derived.Test.YtnnhdkchdjddkaaParV
namespace Go.Proofs.Ytnnhdkchdjddkaa.C
open Go.RowKit
set_option linter.unusedSimpArgs false
set_option linter.unusedVariables false
/-- Where the reader stands, out of its cell. -/
def posOf (p : Nat) (w : World) : Nat := match w.cell? ⟨p, 1, none⟩ with | some v => (intOf v).toNat | none => 0
theorem RdAt.pos {p g n c : Nat} {ts : List Tok} {st : Rd} {w : World} (h : RdAt p g n c ts st w) : posOf p w = st.i := by
  unfold posOf
  rw [h.c1]
  simp [intOf]
/-- Inside row's loop. -/
structure RowIn (B p g n c : Nat) (ts : List Tok) (st : Rd) (A : Option Addr) (l : List Ex) (cc : Nat) (w : World) (m b1 b2 : Nat) (s1 : Rd) (A1 : Option Addr) (l1 : List Ex) (cc1 : Nat) (W : World) : Prop where
  pB : p < B
  gB : g < B
  rd : RdAt p g n c ts s1 W
  oe : OE W B A1 l1 cc1
  fr : Fr (fun k => k = p ∨ Blk A l.length cc k) w W
  bk : ∀ k, Blk A1 l1.length cc1 k → Blk A l.length cc k ∨ w.heap.size ≤ k
  dp : s1.deep = st.deep
  ii : st.i ≤ s1.i
  ll : l1.length + st.i ≤ l.length + s1.i + e1P s1
  lv : LevAt m b1 b2 W
  nl : ∀ k, Blk A1 l1.length cc1 k → k ≠ b1 ∧ k ≠ b2
  np : b1 ≠ p ∧ b2 ≠ p
  er : st.e ≠ 0 → s1 = st ∧ l1 = l
  on : ∀ r, PFs ts (5 + m) s1 l1 r → PFs ts m st l r
theorem LevAt.fr {S : Nat → Prop} {m b1 b2 : Nat} {w w' : World} (h : LevAt m b1 b2 w) (hf : Fr S w w') (h1 : ¬ S b1) (h2 : ¬ S b2) : LevAt m b1 b2 w' := by
  obtain ⟨a1, a2, a3⟩ := h
  refine ⟨Nat.lt_of_lt_of_le a1 hf.size, Nat.lt_of_lt_of_le a2 hf.size, fun j s k hj => ?_⟩
  exact ⟨(hf.cell (p := ⟨b1, j, none⟩) a1 h1).trans (a3 j s k hj).1, (hf.cell (p := ⟨b2, j, none⟩) a2 h2).trans (a3 j s k hj).2⟩
/-- The first row is there, and the signs. -/
theorem RowIn.start {B p g n c : Nat} {ts : List Tok} {st : Rd} {A : Option Addr} {l : List Ex} {cc : Nat} {w : World} {m b1 b2 : Nat} {s1 : Rd} {A1 : Option Addr} {l1 : List Ex} {cc1 : Nat} {w1 w2 : World} (hm : m < 4) (pB : p < B) (gB : g < B)
    (h1 : PFs ts (m + 1) st l (s1, l1)) (h2 : RdAt p g n c ts s1 w1) (h3 : OE w1 B A1 l1 cc1) (h4 : Fr (fun k => k = p ∨ Blk A l.length cc k) w w1) (h5 : ∀ k, Blk A1 l1.length cc1 k → Blk A l.length cc k ∨ w.heap.size ≤ k)
    (h6 : s1.deep = st.deep) (h7 : st.i ≤ s1.i) (h8 : l1.length + st.i ≤ l.length + s1.i + e1P s1) (h9 : st.e ≠ 0 → s1 = st ∧ l1 = l) (hb1 : w1.heap.size ≤ b1) (hb2 : w1.heap.size ≤ b2) (hl : LevAt m b1 b2 w2) (hb : Below w1.heap.size w1 w2) : RowIn B p g n c ts st A l cc w m b1 b2 s1 A1 l1 cc1 w2 :=
  ⟨pB, gB, h2.below hb, ownT_below h3 hb, h4.trans (Fr.of (S := fun _ => False) hb) (fun _ _ x => x.elim), h5, h6, h7, h8, hl, fun k hk => by have := (h3.ge hk).2; omega, by have := h2.lt; omega, h9, fun r hr => PFs_row hm h1 hr⟩
theorem RowIn.sum {B p g n c : Nat} {ts : List Tok} {st : Rd} {A : Option Addr} {l : List Ex} {cc : Nat} {w : World} {m b1 b2 : Nat} {s1 : Rd} {A1 : Option Addr} {l1 : List Ex} {cc1 : Nat} {W : World} (h : RowIn B p g n c ts st A l cc w m b1 b2 s1 A1 l1 cc1 W) : st.i + e1P st ≤ s1.i + e1P s1 := by
  by_cases h0 : st.e = 0
  · rw [e1P_0 h0]; have := h.ii; omega
  · rw [(h.er h0).1]; omega
/-- What row leaves. -/
theorem RowIn.fin {B p g n c : Nat} {ts : List Tok} {st : Rd} {A : Option Addr} {l : List Ex} {cc : Nat} {w : World} {m b1 b2 : Nat} {s1 : Rd} {A1 : Option Addr} {l1 : List Ex} {cc1 : Nat} {W W' : World} (h : RowIn B p g n c ts st A l cc w m b1 b2 s1 A1 l1 cc1 W) (hm : m < 4) (he : s1.e ≠ 0 ∨ pickP ts s1 (levelP m) = 0) (hp : RdPost p g n c ts s1 W W') :
    POut B p g n c ts (PFs ts m st l) st A l cc w (.returned (.slice A1 l1.length cc1)) W' :=
  ⟨s1, l1, A1, cc1, h.on _ (PFs_end hm he), rfl, hp.1, h.oe.fr hp.2 (fun k hk e => by have := (h.oe.ge hk).1; have := h.pB; omega), h.fr.trans hp.2 (fun _ _ x => .inl x), h.bk, h.dp, h.ii, h.ll, h.er⟩
/-- The next operand's start. -/
theorem RowIn.pin {B p g n c : Nat} {ts : List Tok} {st : Rd} {A : Option Addr} {l : List Ex} {cc : Nat} {w : World} {m b1 b2 : Nat} {s1 : Rd} {A1 : Option Addr} {l1 : List Ex} {cc1 : Nat} {W W' : World} (h : RowIn B p g n c ts st A l cc w m b1 b2 s1 A1 l1 cc1 W) (hi : PIn B p g n c ts st A l cc w) (h0 : s1.e = 0) (hp : RdPost p g n c ts { s1 with i := s1.i + 1 } W W') :
    PIn B p g n c ts { s1 with i := s1.i + 1 } A1 l1 cc1 W' ∧ st.i + e1P st < s1.i + 1 + e1P { s1 with i := s1.i + 1 } := by
  have hs := h.sum
  have e1 : e1P s1 = 0 := e1P_0 h0
  have e2 : e1P { s1 with i := s1.i + 1 } = 0 := e1P_0 (st := { s1 with i := s1.i + 1 }) h0
  have hd0 := hi.d0
  have hd1 := hi.d1
  have hdp := h.dp
  have hst : st.e = 0 := Classical.byContradiction (fun x => by have := (h.er x).1; rw [this] at h0; exact x h0)
  have e3 := e1P_0 hst
  have hll := h.ll
  have hl0 := hi.ll
  refine ⟨⟨hp.1, h.oe.fr hp.2 (fun k hk e => by have := (h.oe.ge hk).1; have := h.pB; omega), h.pB, h.gB, Nat.le_trans hi.bw (Nat.le_trans h.fr.size hp.2.size), hi.hE, by show 0 ≤ s1.deep; omega, ?_, ?_⟩, by omega⟩
  · show s1.deep ≤ ((s1.i + 1 + e1P { s1 with i := s1.i + 1 } : Nat) : Int)
    omega
  · show l1.length ≤ s1.i + 1 + e1P { s1 with i := s1.i + 1 }
    omega
/-- One operator more. -/
theorem RowIn.next {B p g n c : Nat} {ts : List Tok} {st : Rd} {A : Option Addr} {l : List Ex} {cc : Nat} {w : World} {m b1 b2 : Nat} {s1 : Rd} {A1 : Option Addr} {l1 : List Ex} {cc1 : Nat} {W W1 W2 W3 : World} {s2 : Rd} {A2 A3 : Option Addr} {l2 : List Ex} {cc2 c3 : Nat} {K : Int} (h : RowIn B p g n c ts st A l cc w m b1 b2 s1 A1 l1 cc1 W) (hm : m < 4) (h0 : s1.e = 0) (hk : pickP ts s1 (levelP m) = K) (hK : K ≠ 0) (hp : RdPost p g n c ts { s1 with i := s1.i + 1 } W W1)
    (q1 : PFs ts (m + 1) { s1 with i := s1.i + 1 } l1 (s2, l2)) (q2 : RdAt p g n c ts s2 W2) (q3 : OE W2 B A2 l2 cc2) (q4 : Fr (fun k => k = p ∨ Blk A1 l1.length cc1 k) W1 W2) (q5 : ∀ k, Blk A2 l2.length cc2 k → Blk A1 l1.length cc1 k ∨ W1.heap.size ≤ k) (q6 : s2.deep = s1.deep) (q7 : s1.i + 1 ≤ s2.i) (q8 : l2.length + (s1.i + 1) ≤ l1.length + s2.i + e1P s2)
    (r1 : OE W3 B A3 (l2 ++ [nodeP K ((l1.length : Int) - 1) ((l2.length : Int) - 1) (tkP ts s1.i).at_]) c3) (r2 : Fr (Blk A2 l2.length cc2) W2 W3) (r3 : ∀ k, Blk A3 (l2 ++ [nodeP K ((l1.length : Int) - 1) ((l2.length : Int) - 1) (tkP ts s1.i).at_]).length c3 k → Blk A2 l2.length cc2 k ∨ W2.heap.size ≤ k) :
    RowIn B p g n c ts st A l cc w m b1 b2 s2 A3 (l2 ++ [nodeP K ((l1.length : Int) - 1) ((l2.length : Int) - 1) (tkP ts s1.i).at_]) c3 W3 := by
  have z1 := h.fr.size
  have z2 := hp.2.size
  have z3 := q4.size
  have pB := h.pB
  have gB := h.gB
  have hb1 := h.lv.1
  have hb2 := h.lv.2.1
  have n2 : ∀ k, Blk A2 l2.length cc2 k → k ≠ b1 ∧ k ≠ b2 := fun k hk2 => by
    rcases q5 k hk2 with x | x
    · exact h.nl k x
    · omega
  have f1 := h.fr.trans hp.2 (fun _ _ x => .inl x)
  have f2 := f1.trans q4 (fun k hkw x => by
    rcases x with x | x
    · exact .inl x
    · rcases h.bk k x with y | y
      · exact .inr y
      · exact absurd hkw (by omega))
  have f3 := f2.trans r2 (fun k hkw x => by
    rcases q5 k x with x | x
    · rcases h.bk k x with y | y
      · exact .inr y
      · exact absurd hkw (by omega)
    · exact absurd hkw (by omega))
  have lv1 := h.lv.fr hp.2 h.np.1 h.np.2
  have lv2 := lv1.fr q4 (fun x => x.elim h.np.1 (fun y => (h.nl _ y).1 rfl)) (fun x => x.elim h.np.2 (fun y => (h.nl _ y).2 rfl))
  have lv3 := lv2.fr r2 (fun x => (n2 _ x).1 rfl) (fun x => (n2 _ x).2 rfl)
  have hl1 := h.ll
  have e1 := e1P_0 h0
  refine ⟨pB, gB, q2.fr r2 (fun x => by have := (q3.ge x).1; omega) (fun x => by have := (q3.ge x).1; omega), r1, f3, fun k x => ?_, by rw [q6, h.dp], by have := h.ii; omega, ?_, lv3, fun k x => ?_, h.np, fun x => absurd h0 (by rw [(h.er x).1]; exact x), fun r hr => h.on _ (PFs_on hm h0 (by rw [hk]; exact hK) q1 (by rw [hk]; exact hr))⟩
  · rcases r3 k x with x | x
    · rcases q5 k x with x | x
      · exact h.bk k x
      · exact .inr (by omega)
    · exact .inr (by omega)
  · rw [List.length_append]
    show l2.length + 1 + st.i ≤ _
    omega
  · rcases r3 k x with x | x
    · exact n2 k x
    · omega
/-- Inside the loop over the signs. -/
def SgIn (p g n c : Nat) (ts : List Tok) (m : Nat) (s1 : Rd) (j : Nat) (K : Int) (W wr : World) : Prop :=
  pickP ts s1 (levelP m) = (if K = 0 then pickP ts s1 ((levelP m).drop j) else K) ∧ RdPost p g n c ts (if K = 0 then s1 else { s1 with i := s1.i + 1 }) W wr
set_option maxRecDepth 100000 in
set_option maxHeartbeats 6400000 in
theorem row_next {B p g n c : Nat} {ts : List Tok} {st : Rd} {A : Option Addr} {l : List Ex} {cc : Nat} {w : World} (m : Nat) (hm : m < 4) (h : PIn B p g n c ts st A l cc w)
    (IH0 : Calls Try.prog 45 #[.pointer (some ⟨p, 0, none⟩), .slice A l.length cc, .int .i64 ((m : Int) + 1)] w (POut B p g n c ts (PFs ts (m + 1) st l) st A l cc w))
    (IH1 : ∀ s1 A1 l1 cc1 W, st.i + e1P st < s1.i + e1P s1 → PIn B p g n c ts s1 A1 l1 cc1 W → Calls Try.prog 45 #[.pointer (some ⟨p, 0, none⟩), .slice A1 l1.length cc1, .int .i64 ((m : Int) + 1)] W (POut B p g n c ts (PFs ts (m + 1) s1 l1) s1 A1 l1 cc1 W)) :
    Calls Try.prog 45 #[.pointer (some ⟨p, 0, none⟩), .slice A l.length cc, .int .i64 (m : Int)] w (POut B p g n c ts (PFs ts m st l) st A l cc w) := by
  have H := Lib.hid h
  have HI := Lib.hid IH1
  have e1 : IntKind.i64.wrap ((m : Int) + 1) = (m : Int) + 1 := IntWalk.i64_in _ (by omega)
  have q3 : ¬ (3 : Int) < (m : Int) := by omega
  obtain ⟨LL, hLL⟩ : ∃ x, (levelP m).length = x := ⟨_, rfl⟩
  have hL3 := levelP_len m
  rw [hLL] at hL3
  have HLL := Lib.hid hLL
  have HLV : ∀ W, Calls Try.prog 54 #[.int .i64 (m : Int)] W fun e w' => ∃ b1 b2 c1 c2, e = .returned (.tuple #[.slice (some ⟨b1, 0, none⟩) LL c1, .slice (some ⟨b2, 0, none⟩) LL c2]) ∧ W.heap.size ≤ b1 ∧ W.heap.size ≤ b2 ∧ LevAt m b1 b2 w' ∧ Below W.heap.size W w' := fun W => by have := level_c m hm W; rwa [hLL] at this
  clear h IH1 hLL
  go_enter Try.func45, Try.ntmps45
  go_wp2_with (first | (go_at_call 45; refine IH0.mono ?_; rintro e w1 ⟨s1, l1, A1, cc1, z1, rfl, z2, z3, z4, z5, z6, z7, z8, z9⟩; have Z := Lib.hid (And.intro z1 (And.intro z2 (And.intro z3 (And.intro z4 (And.intro z5 (And.intro z6 (And.intro z7 (And.intro z8 z9)))))))); clear z1 z2 z3 z4 z5 z6 z7 z8 z9 IH0) | (go_at_call 54; refine (HLV _).mono ?_; rintro e w2 ⟨b1, b2, c1, c2, rfl, y1, y2, y3, y4⟩; have Y := Lib.hid (And.intro y1 (And.intro y2 (And.intro y3 y4))); clear y1 y2 y3 y4 HLV))
  have HRI : Hid (RowIn B p g n c ts st A l cc w m b1 b2 s1 A1 l1 cc1 w2) := Lib.hid (RowIn.start hm H.out.pB H.out.gB Z.out.1 Z.out.2.1 Z.out.2.2.1 Z.out.2.2.2.1 Z.out.2.2.2.2.1 Z.out.2.2.2.2.2.1 Z.out.2.2.2.2.2.2.1 Z.out.2.2.2.2.2.2.2.1 Z.out.2.2.2.2.2.2.2.2 Y.out.1 Y.out.2.1 Y.out.2.2.1 Y.out.2.2.2)
  clear Z Y
  go_loopw [1] (fun v wr => ∃ s1 A1 l1 cc1, v = .slice A1 (List.length l1) cc1 ∧ Hid (RowIn B p g n c ts st A l cc w m b1 b2 s1 A1 l1 cc1 wr)) (fun _ wr => n - posOf p wr)
  case atStart => exact ⟨s1, A1, l1, cc1, rfl, HRI⟩
  case round =>
    clear HRI
    obtain ⟨s1, A1, l1, cc1, rfl, HR⟩ := hrel
    obtain ⟨wo, rfl⟩ : ∃ wo : World, wo = wr := ⟨_, rfl⟩
    have c3 := HR.out.rd.c3
    by_cases h0 : s1.e = 0
    rotate_left
    · have g0 : (s1.e == 0) = false := by rw [beq_eq_false_iff_ne]; exact h0
      have HF : Hid (POut B p g n c ts (PFs ts m st l) st A l cc w (.returned (.slice A1 l1.length cc1)) wo) := Lib.hid (HR.out.fin hm (.inl h0) (RdPost.of HR.out.rd (Below.refl _ _)))
      clear h0 HR
      go_wp2_with fail
      go_ret
      exact HF.out
    rw [h0] at c3
    have HH0 := Lib.hid h0
    have hln : l1.length ≤ 300000 := by
      have a1 := HR.out.ll
      have a2 := H.out.ll
      have a3 := HR.out.rd.hi
      have a4 := HR.out.rd.hb
      have a5 : e1P s1 ≤ 1 := by unfold e1P; split <;> omega
      have a6 : e1P st ≤ 1 := by unfold e1P; split <;> omega
      omega
    have el1 : IntKind.i64.wrap ((l1.length : Int) - 1) = (l1.length : Int) - 1 := IntWalk.i64_in _ (by omega)
    have HHere := rd_here_c HR.out.rd
    clear h0
    go_wp2_with (go_at_call 18; refine HHere.mono ?_; rintro e w3 ⟨rfl, hb3⟩; have HP3 := Lib.hid (RdPost.of HR.out.rd hb3); clear hb3 HHere)
    go_loopw [11, 12] (fun kk ii wr => ∃ (j : Nat) (K : Int), j ≤ LL ∧ ii = .int .i64 (j : Int) ∧ kk = .int .i64 K ∧ Hid (SgIn p g n c ts m s1 j K wo wr)) (fun _ ii _ => LL + 1 - (intOf ii).toNat)
    case atStart => exact ⟨0, 0, by omega, rfl, rfl, Lib.hid ⟨by rw [if_pos rfl, List.drop_zero], by rw [if_pos rfl]; exact HP3.out⟩⟩
    case round =>
      clear HP3
      obtain ⟨j, K, hj, rfl, rfl, HS⟩ := hrel
      by_cases hK : K = 0
      · subst hK
        have hs := HS.out
        unfold SgIn at hs
        rw [if_pos rfl, if_pos rfl] at hs
        by_cases hjl : j < LL
        · obtain ⟨s, k, hsk⟩ : ∃ s k, (levelP m)[j]? = some (s, k) := ⟨((levelP m)[j]'(by rw [HLL.out]; exact hjl)).1, ((levelP m)[j]'(by rw [HLL.out]; exact hjl)).2, by rw [List.getElem?_eq_getElem (by rw [HLL.out]; exact hjl)]⟩
          have lv := HR.out.lv.fr hs.2.2 HR.out.np.1 HR.out.np.2
          have cs := (lv.2.2 j s k hsk).1
          have HCK : Hid (∀ st' W', RdPost p g n c ts st' wo W' → W'.cell? ⟨b2, j, none⟩ = some (.int .i64 k)) := Lib.hid (fun st' W' hp => ((HR.out.lv.fr hp.2 HR.out.np.1 HR.out.np.2).2.2 j s k hsk).2)
          have HT := rd_take_c hs.2.1 H.out.hE ⟨s.toArray⟩
          have hj0 : (0 : Int) ≤ (j : Int) := by omega
          have hj1 : (j : Int) < (LL : Int) := by omega
          have ej : IntKind.i64.wrap ((j : Int) + 1) = (j : Int) + 1 := IntWalk.i64_in _ (by omega)
          unfold takeP at HT
          obtain ⟨b, hb⟩ : ∃ b, isP ts s1 (⟨s.toArray⟩ : ByteArray).data.toList = b := ⟨_, rfl⟩
          rw [hb] at HT
          have hb' : isP ts s1 s = b := hb
          cases b
          · have HS2 : Hid (∀ W', RdPost p g n c ts s1 wr W' → SgIn p g n c ts m s1 (j + 1) 0 wo W') := Lib.hid (fun W' hp => ⟨by rw [if_pos rfl, hs.1]; exact pickP_miss hsk hb', by rw [if_pos rfl]; exact hs.2.trans hp⟩)
            simp only [Bool.false_eq_true, if_false] at HT
            clear hs lv hb hb' hsk HS
            go_wp2_with (go_at_call 27; refine HT.mono ?_; rintro e w4 ⟨rfl, hp4⟩; have HP4 := Lib.hid hp4; clear hp4 HT)
            exact ⟨⟨j + 1, 0, by omega, by go_num, rfl, Lib.hid (HS2.out _ HP4.out)⟩, by simp [intOf]; omega⟩
          · have hk0 := levelP_ne hsk
            have HS2 : Hid (∀ W', RdPost p g n c ts { s1 with i := s1.i + 1 } wr W' → SgIn p g n c ts m s1 (j + 1) k wo W') := Lib.hid (fun W' hp => ⟨by rw [if_neg hk0, hs.1]; exact pickP_hit hsk hb', by rw [if_neg hk0]; exact hs.2.trans hp⟩)
            have HTR : Hid (∀ W', RdPost p g n c ts { s1 with i := s1.i + 1 } wr W' → W'.cell? ⟨b2, j, none⟩ = some (.int .i64 k)) := Lib.hid (fun W' hp => HCK.out _ _ (hs.2.trans hp))
            simp only [if_true] at HT
            clear hs lv hb hb' hsk HS hk0
            go_wp2_with (go_at_call 27; refine HT.mono ?_; rintro e w4 ⟨rfl, hp4⟩; have HP4 := Lib.hid hp4; have ck := HTR.out _ hp4; clear hp4 HT)
            exact ⟨⟨j + 1, k, by omega, by go_num, rfl, Lib.hid (HS2.out _ HP4.out)⟩, by simp [intOf]; omega⟩
        · obtain rfl : j = LL := by omega
          have hp0 : pickP ts s1 (levelP m) = 0 := by
            rw [hs.1, ← HLL.out, List.drop_length]
            rfl
          have HF : Hid (POut B p g n c ts (PFs ts m st l) st A l cc w (.returned (.slice A1 l1.length cc1)) wr) := Lib.hid (HR.out.fin hm (.inr hp0) hs.2)
          clear hs hp0 hjl HS HR
          go_wp2_with fail
          go_ret
          exact HF.out
      · have hs := HS.out
        unfold SgIn at hs
        rw [if_neg hK, if_neg hK] at hs
        have gK : (K == 0) = false := by rw [beq_eq_false_iff_ne]; exact hK
        have hpin := HR.out.pin H.out HH0.out hs.2
        have HC := HI.out _ A1 l1 cc1 wr hpin.2 hpin.1
        have HN : Hid (∀ (s2 : Rd) (A2 A3 : Option Addr) (l2 : List Ex) (cc2 c3 : Nat) (W2 W3 : World), PFs ts (m + 1) { s1 with i := s1.i + 1 } l1 (s2, l2) → RdAt p g n c ts s2 W2 → OE W2 B A2 l2 cc2 → Fr (fun k => k = p ∨ Blk A1 l1.length cc1 k) wr W2 → (∀ k, Blk A2 l2.length cc2 k → Blk A1 l1.length cc1 k ∨ wr.heap.size ≤ k) → s2.deep = s1.deep → s1.i + 1 ≤ s2.i → l2.length + (s1.i + 1) ≤ l1.length + s2.i + e1P s2 →
            OE W3 B A3 (l2 ++ [nodeP K ((l1.length : Int) - 1) ((l2.length : Int) - 1) (tkP ts s1.i).at_]) c3 → Fr (Blk A2 l2.length cc2) W2 W3 → (∀ k, Blk A3 (l2 ++ [nodeP K ((l1.length : Int) - 1) ((l2.length : Int) - 1) (tkP ts s1.i).at_]).length c3 k → Blk A2 l2.length cc2 k ∨ W2.heap.size ≤ k) →
            RowIn B p g n c ts st A l cc w m b1 b2 s2 A3 (l2 ++ [nodeP K ((l1.length : Int) - 1) ((l2.length : Int) - 1) (tkP ts s1.i).at_]) c3 W3) := Lib.hid (fun s2 A2 A3 l2 cc2 c3 W2 W3 => HR.out.next hm HH0.out hs.1 hK hs.2)
        have HB : B ≤ wr.heap.size := hpin.1.bw
        have HPOS := Lib.hid HR.out.rd.pos
        have HI1 := Lib.hid HR.out.rd.hi
        have HNB := Lib.hid HR.out.rd.hb
        have HLN : Hid (l1.length ≤ s1.i + 1) := Lib.hid (by have := hpin.1.ll; have e2 : e1P { s1 with i := s1.i + 1 } = 0 := e1P_0 (st := { s1 with i := s1.i + 1 }) HH0.out; rw [e2] at this; exact this)
        clear hs hpin hK HS
        rcases (by omega : j < LL ∨ j = LL) with hjl | rfl
        all_goals go_wp2_with (first | (go_at_call 45; refine HC.mono ?_; rintro e w4 ⟨s2, l2, A2, cc2, x1, rfl, x2, x3, x4, x5, x6, x7, x8, x9⟩; have hl2 : l2.length ≤ 200000 := (by have y1 := HLN.out; have y2 := HNB.out; have y3 := x2.hi; have y4 : e1P s2 ≤ 1 := (by unfold e1P; split <;> omega); simp only at x7 x8; omega); have HTW := fun a at_ => two_c x3 (Nat.le_trans HB x4.size) hl2 a K at_; have X := Lib.hid (And.intro x1 (And.intro x2 (And.intro x3 (And.intro x4 (And.intro x5 (And.intro x6 (And.intro x7 x8))))))); clear x1 x2 x3 x4 x5 x6 x7 x8 x9 hl2 HC) | (go_at_call 55; refine (HTW _ _).mono ?_; rintro e w5 ⟨A3, c3, rfl, v1, v2, v3⟩; have V := Lib.hid (And.intro v1 (And.intro v2 v3)); clear v1 v2 v3 HTW))
        all_goals (
          have HX := HN.out s2 A2 A3 l2 cc2 c3 w4 w5 X.out.1 X.out.2.1 X.out.2.2.1 X.out.2.2.2.1 X.out.2.2.2.2.1 X.out.2.2.2.2.2.1 X.out.2.2.2.2.2.2.1 X.out.2.2.2.2.2.2.2 V.out.1 V.out.2.1 V.out.2.2
          have hp5 := HX.rd.pos
          have hx7 : s1.i + 1 ≤ s2.i := X.out.2.2.2.2.2.2.1
          refine ⟨⟨s2, A3, _, c3, by rw [List.length_append]; rfl, Lib.hid HX⟩, ?_⟩
          have h5 := HPOS.out
          have h6 := HI1.out
          rw [hp5, h5]
          omega)
end Go.Proofs.Ytnnhdkchdjddkaa.C
