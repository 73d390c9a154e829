/- MemoryRuns: two memories side by side, and a block that is neither's: contracts. -/
import Derived.Test.YtkgdogdallojlaaLaw7c
namespace Go.Proofs.Ytkgdogdallojlaa.C
open Go.RowKit
set_option linter.unusedSimpArgs false
set_option linter.unusedVariables false
def Tw (w : World) (B p1 p2 n1 n2 : Nat) (ts1 ts2 : Nat → Int) (ln1 ln2 : Nat → Nat) (f1 f2 : Nat → Nat → Int) (x : Nat) : Prop :=
  B ≤ w.heap.size ∧ ∃ L1 L2 ad1 ad2 cp1 cp2, Pair w B p1 p2 L1 L2 n1 n2 ts1 ts2 ad1 ad2 ln1 ln2 cp1 cp2 f1 f2 ∧ x < w.heap.size ∧ ¬ foot p1 L1 n1 ad1 x ∧ ¬ foot p2 L2 n2 ad2 x
def TwP (w : World) (B p1 p2 n : Nat) : Prop :=
  B ≤ w.heap.size ∧ ∃ ts ln f L1 L2 ad1 ad2 cp1 cp2, Pair w B p1 p2 L1 L2 n n ts ts ad1 ad2 ln ln cp1 cp2 f f
theorem Tw.swap {w : World} {B p1 p2 n1 n2 x : Nat} {ts1 ts2 : Nat → Int} {ln1 ln2 : Nat → Nat} {f1 f2 : Nat → Nat → Int} (h : Tw w B p1 p2 n1 n2 ts1 ts2 ln1 ln2 f1 f2 x) : Tw w B p2 p1 n2 n1 ts2 ts1 ln2 ln1 f2 f1 x := by
  obtain ⟨hB, L1, L2, ad1, ad2, cp1, cp2, h, hx, h1, h2⟩ := h
  exact ⟨hB, L2, L1, ad2, ad1, cp2, cp1, h.swap, hx, h2, h1⟩
theorem Tw.twin {w : World} {B p1 p2 n x : Nat} {ts : Nat → Int} {ln : Nat → Nat} {f : Nat → Nat → Int} (h : Tw w B p1 p2 n n ts ts ln ln f f x) : TwP w B p1 p2 n := by
  obtain ⟨hB, L1, L2, ad1, ad2, cp1, cp2, h, _⟩ := h
  exact ⟨hB, ts, ln, f, L1, L2, ad1, ad2, cp1, cp2, h⟩
theorem Pair.below {w w' : World} {base p1 p2 : Nat} {L1 L2 : Value} {n1 n2 : Nat} {ts1 ts2 : Nat → Int} {ad1 ad2 ln1 ln2 cp1 cp2 : Nat → Nat} {f1 f2 : Nat → Nat → Int} (h : Pair w base p1 p2 L1 L2 n1 n2 ts1 ts2 ad1 ad2 ln1 ln2 cp1 cp2 f1 f2) (hb : Below w.heap.size w w') : Pair w' base p1 p2 L1 L2 n1 n2 ts1 ts2 ad1 ad2 ln1 ln2 cp1 cp2 f1 f2 :=
  ⟨h.a.below hb, h.b.below hb, h.apart⟩
theorem TwP.below {w w' : World} {B p1 p2 n : Nat} (h : TwP w B p1 p2 n) (hb : Below w.heap.size w w') : TwP w' B p1 p2 n := by
  obtain ⟨hB, ts, ln, f, L1, L2, ad1, ad2, cp1, cp2, h⟩ := h
  exact ⟨Nat.le_trans hB hb.size, ts, ln, f, L1, L2, ad1, ad2, cp1, cp2, h.below hb⟩
theorem TwP.fresh {w w' : World} {B p1 p2 n : Nat} (h : TwP w B p1 p2 n) (hb : Below w.heap.size w w') (hs : w.heap.size < w'.heap.size) : ∃ ts ln f, Tw w' B p1 p2 n n ts ts ln ln f f w.heap.size := by
  obtain ⟨hB, ts, ln, f, L1, L2, ad1, ad2, cp1, cp2, h⟩ := h
  exact ⟨ts, ln, f, Nat.le_trans hB hb.size, L1, L2, ad1, ad2, cp1, cp2, h.below hb, hs, fun q => Nat.lt_irrefl _ (h.a.foot_lt _ q), fun q => Nat.lt_irrefl _ (h.b.foot_lt _ q)⟩
theorem Tw.below {w w' : World} {B p1 p2 n1 n2 x : Nat} {ts1 ts2 : Nat → Int} {ln1 ln2 : Nat → Nat} {f1 f2 : Nat → Nat → Int} (h : Tw w B p1 p2 n1 n2 ts1 ts2 ln1 ln2 f1 f2 x) (hb : Below w.heap.size w w') : Tw w' B p1 p2 n1 n2 ts1 ts2 ln1 ln2 f1 f2 x := by
  obtain ⟨hB, L1, L2, ad1, ad2, cp1, cp2, h, hx, h1, h2⟩ := h
  exact ⟨Nat.le_trans hB hb.size, L1, L2, ad1, ad2, cp1, cp2, h.below hb, Nat.lt_of_lt_of_le hx hb.size, h1, h2⟩
theorem Tw.drew {w : World} {B p1 p2 n1 n2 x : Nat} {ts1 ts2 : Nat → Int} {ln1 ln2 : Nat → Nat} {f1 f2 : Nat → Nat → Int} (h : Tw w B p1 p2 n1 n2 ts1 ts2 ln1 ln2 f1 f2 x) : Tw w.drew B p1 p2 n1 n2 ts1 ts2 ln1 ln2 f1 f2 x := h.below (Below.refl _ _).drew
theorem RowNew.rowc {w w' : World} {g cap n : Nat} {f : Nat → Int} (h : RowNew w g cap n f w') (hn : n ≤ 16) : RowC w' (some ⟨g, 0, none⟩) n f :=
  ⟨by omega, fun _ => ⟨_, rfl, fun j hj => by rw [m_plain]; exact h.2.2.2.1 j hj⟩⟩
theorem RowNew.bel {w w' : World} {g cap n : Nat} {f : Nat → Int} (h : RowNew w g cap n f w') : Below w.heap.size w w' := h.2.2.2.2.2
theorem rowc0 (w : World) : RowC w none 0 (fun _ => 0) := ⟨by omega, fun h => absurd h (by omega)⟩
def TwPost (w : World) (B p1 p2 n1 n2 : Nat) (ts1 ts2 : Nat → Int) (ln1 ln2 : Nat → Nat) (f1 f2 : Nat → Nat → Int) (x : Nat) (v : Value) (e : Ending) (w' : World) : Prop :=
  e = .returned v ∧ Below B w w' ∧ w'.heap[x]? = w.heap[x]? ∧ Tw w' B p1 p2 n1 n2 ts1 ts2 ln1 ln2 f1 f2 x
theorem TwPost.swap {w : World} {B p1 p2 n1 n2 x : Nat} {ts1 ts2 : Nat → Int} {ln1 ln2 : Nat → Nat} {f1 f2 : Nat → Nat → Int} {v : Value} {e : Ending} {w' : World} (h : TwPost w B p1 p2 n1 n2 ts1 ts2 ln1 ln2 f1 f2 x v e w') : TwPost w B p2 p1 n2 n1 ts2 ts1 ln2 ln1 f2 f1 x v e w' :=
  ⟨h.1, h.2.1, h.2.2.1, h.2.2.2.swap⟩
theorem tw_step {w w' : World} {B p1 p2 x : Nat} {L1 L2 : Value} {n1 n2 : Nat} {ts1 ts2 : Nat → Int} {ad1 ad2 ln1 ln2 cp1 cp2 : Nat → Nat} {f1 f2 : Nat → Nat → Int} (h : Pair w B p1 p2 L1 L2 n1 n2 ts1 ts2 ad1 ad2 ln1 ln2 cp1 cp2 f1 f2) (hB : B ≤ w.heap.size) (hx : x < w.heap.size) (h1 : ¬ foot p1 L1 n1 ad1 x) (h2 : ¬ foot p2 L2 n2 ad2 x)
    {q n : Nat} {L : Value} {ts : Nat → Int} {ad ln cp : Nat → Nat} {f : Nat → Nat → Int} {v : Value} (hb : Below B w w') (ha : MS w' B q L n ts ad ln cp f)
    (hk : ∀ b, b < w.heap.size → ¬ foot p1 L1 n1 ad1 b → w'.heap[b]? = w.heap[b]?) (hf : ∀ x, foot q L n ad x → foot p1 L1 n1 ad1 x ∨ w.heap.size ≤ x) :
    TwPost w B q p2 n n2 ts ts2 ln ln2 f f2 x v (.returned v) w' := by
  have hs : w.heap.size ≤ w'.heap.size := hb.size
  refine ⟨rfl, hb, hk x hx h1, Nat.le_trans hB hs, L, L2, ad, ad2, cp, cp2, h.step hs ha hk hf, Nat.lt_of_lt_of_le hx hs, fun q => ?_, h2⟩
  rcases hf x q with h3 | h3
  · exact h1 h3
  · omega
theorem add1_t {w : World} {B p1 p2 n1 n2 x : Nat} {ts1 ts2 : Nat → Int} {ln1 ln2 : Nat → Nat} {f1 f2 : Nat → Nat → Int} (h : Tw w B p1 p2 n1 n2 ts1 ts2 ln1 ln2 f1 f2 x) (hn : n1 ≤ 100000) (t s : Int) :
    Calls Try.prog 12 #[.pointer (some ⟨p1, 0, none⟩), .int .i64 t, .int .i64 s] w (TwPost w B p1 p2 (n1 + 1) n2 (addT n1 ts1 t) ts2 (addN n1 ln1 (sizeM s)) ln2 (addF n1 f1 fun _ => 0) f2 x (.int .i64 n1)) := by
  obtain ⟨hB, L1, L2, ad1, ad2, cp1, cp2, hp, hx, h1, h2⟩ := h
  refine (add_s B p1 n1 L1 ts1 ad1 ln1 cp1 f1 t s w hp.a hn hB).mono ?_
  rintro e w' ⟨rfl, g, cap, a, haw, ⟨hb, hk, hg⟩, hm⟩
  refine tw_step hp hB hx h1 h2 hb hm.ms (fun b hbl hnf => hk b hbl (fun e => hnf (.inl e)) (fun e => hnf (.inr (.inl e)))) (fun x hx => ?_)
  rcases hx with hx | hx | ⟨i, hi, hx⟩
  · exact .inl (.inl hx)
  · have hx2 : g = x := by simpa [Value.ownBlock] using hx
    rcases hg with hg | hg
    · exact .inl (.inr (.inl (by rw [hg, hx2])))
    · exact .inr (by omega)
  · unfold addN at hx
    by_cases e : i = n1
    · rw [if_pos e] at hx; exact .inr (by omega)
    · rw [if_neg e] at hx; exact .inl (.inr (.inr ⟨i, by omega, hx⟩))
theorem add2_t {w : World} {B p1 p2 n1 n2 x : Nat} {ts1 ts2 : Nat → Int} {ln1 ln2 : Nat → Nat} {f1 f2 : Nat → Nat → Int} (h : Tw w B p1 p2 n1 n2 ts1 ts2 ln1 ln2 f1 f2 x) (hn : n2 ≤ 100000) (t s : Int) :
    Calls Try.prog 17 #[.pointer (some ⟨p2, 0, none⟩), .int .i64 t, .int .i64 s] w (TwPost w B p1 p2 n1 (n2 + 1) ts1 (addT n2 ts2 t) ln1 (addN n2 ln2 (sizeM s)) f1 (addF n2 f2 fun _ => 0) x (.int .i64 n2)) := by
  obtain ⟨hB, L1, L2, ad1, ad2, cp1, cp2, hp, hx, h1, h2⟩ := h.swap
  refine (radd_s B p2 n2 L1 ts2 ad1 ln2 cp1 f2 t s w hp.a hn hB).mono ?_
  rintro e w' ⟨rfl, g, cap, a, haw, ⟨hb, hk, hg⟩, hm⟩
  refine (tw_step hp hB hx h1 h2 hb hm.ms (fun b hbl hnf => hk b hbl (fun e => hnf (.inl e)) (fun e => hnf (.inr (.inl e)))) (fun x hx => ?_)).swap
  rcases hx with hx | hx | ⟨i, hi, hx⟩
  · exact .inl (.inl hx)
  · have hx2 : g = x := by simpa [Value.ownBlock] using hx
    rcases hg with hg | hg
    · exact .inl (.inr (.inl (by rw [hg, hx2])))
    · exact .inr (by omega)
  · unfold addN at hx
    by_cases e : i = n2
    · rw [if_pos e] at hx; exact .inr (by omega)
    · rw [if_neg e] at hx; exact .inl (.inr (.inr ⟨i, by omega, hx⟩))
theorem set1_t {w : World} {B p1 p2 n1 n2 x : Nat} {ts1 ts2 : Nat → Int} {ln1 ln2 : Nat → Nat} {f1 f2 : Nat → Nat → Int} (h : Tw w B p1 p2 n1 n2 ts1 ts2 ln1 ln2 f1 f2 x) (id at' v : Int) :
    Calls Try.prog 14 #[.pointer (some ⟨p1, 0, none⟩), .int .i64 id, .int .i64 at', .int .i64 v] w (TwPost w B p1 p2 n1 n2 ts1 ts2 ln1 ln2 (setM n1 ln1 ts1 f1 id at' v) f2 x (.bool (hasM n1 ln1 id at'))) := by
  obtain ⟨hB, L1, L2, ad1, ad2, cp1, cp2, hp, hx, h1, h2⟩ := h
  refine (set_s B p1 n1 L1 ts1 ad1 ln1 cp1 f1 id at' v w hp.a hB).mono ?_
  rintro e w' ⟨rfl, hb, hm, hk⟩
  exact tw_step hp hB hx h1 h2 hb hm (fun b hbl hnf => hk b hbl (fun i hi q => hnf (.inr (.inr ⟨i, hi, q⟩)))) (fun x hx => .inl hx)
theorem set2_t {w : World} {B p1 p2 n1 n2 x : Nat} {ts1 ts2 : Nat → Int} {ln1 ln2 : Nat → Nat} {f1 f2 : Nat → Nat → Int} (h : Tw w B p1 p2 n1 n2 ts1 ts2 ln1 ln2 f1 f2 x) (id at' v : Int) :
    Calls Try.prog 18 #[.pointer (some ⟨p2, 0, none⟩), .int .i64 id, .int .i64 at', .int .i64 v] w (TwPost w B p1 p2 n1 n2 ts1 ts2 ln1 ln2 f1 (setM n2 ln2 ts2 f2 id at' v) x (.bool (hasM n2 ln2 id at'))) := by
  obtain ⟨hB, L1, L2, ad1, ad2, cp1, cp2, hp, hx, h1, h2⟩ := h.swap
  refine (rset_s B p2 n2 L1 ts2 ad1 ln2 cp1 f2 id at' v w hp.a hB).mono ?_
  rintro e w' ⟨rfl, hb, hm, hk⟩
  exact (tw_step hp hB hx h1 h2 hb hm (fun b hbl hnf => hk b hbl (fun i hi q => hnf (.inr (.inr ⟨i, hi, q⟩)))) (fun x hx => .inl hx)).swap
theorem cut1_t {w : World} {B p1 p2 n1 n2 x : Nat} {ts1 ts2 : Nat → Int} {ln1 ln2 : Nat → Nat} {f1 f2 : Nat → Nat → Int} (h : Tw w B p1 p2 n1 n2 ts1 ts2 ln1 ln2 f1 f2 x) (c : Int) :
    Calls Try.prog 7 #[.pointer (some ⟨p1, 0, none⟩), .int .i64 c] w (TwPost w B p1 p2 (cutM c n1) n2 ts1 ts2 ln1 ln2 f1 f2 x (.tuple #[])) := by
  obtain ⟨hB, L1, L2, ad1, ad2, cp1, cp2, hp, hx, h1, h2⟩ := h
  have hle := cutM_le c n1
  refine (cut_s B p1 n1 L1 ts1 ad1 ln1 cp1 f1 c w hp.a).mono ?_
  rintro e w' ⟨rfl, hb, ⟨L', hL, hm⟩, hk⟩
  refine tw_step hp hB hx h1 h2 hb hm (fun b hbl hnf => hk b hbl (fun e => hnf (.inl e))) (fun x hx => ?_)
  rcases hx with hx | hx | ⟨i, hi, hx⟩
  · exact .inl (.inl hx)
  · rcases hL with hL | ⟨b, hb1, hb2⟩
    · exact .inl (.inr (.inl (by rw [← hL]; exact hx)))
    · rw [hb2] at hx; injection hx with hx; exact .inr (by omega)
  · exact .inl (.inr (.inr ⟨i, by omega, hx⟩))
theorem cut2_t {w : World} {B p1 p2 n1 n2 x : Nat} {ts1 ts2 : Nat → Int} {ln1 ln2 : Nat → Nat} {f1 f2 : Nat → Nat → Int} (h : Tw w B p1 p2 n1 n2 ts1 ts2 ln1 ln2 f1 f2 x) (hn : n2 ≤ 1000) (c : Int) :
    Calls Try.prog 8 #[.pointer (some ⟨p2, 0, none⟩), .int .i64 c] w (TwPost w B p1 p2 n1 (cutM c n2) ts1 ts2 ln1 ln2 f1 f2 x (.tuple #[])) := by
  obtain ⟨hB, L1, L2, ad1, ad2, cp1, cp2, hp, hx, h1, h2⟩ := h.swap
  have hle := cutM_le c n2
  refine (rcut_s B p2 n2 L1 ts2 ad1 ln2 cp1 f2 c w hp.a hB hn).mono ?_
  rintro e w' ⟨rfl, hb, ⟨L', hL, hm⟩, hk⟩
  refine (tw_step hp hB hx h1 h2 hb hm (fun b hbl hnf => hk b hbl (fun e => hnf (.inl e))) (fun x hx => ?_)).swap
  rcases hx with hx | hx | ⟨i, hi, hx⟩
  · exact .inl (.inl hx)
  · rcases hL with hL | ⟨b, hb1, hb2⟩
    · exact .inl (.inr (.inl (by rw [← hL]; exact hx)))
    · rw [hb2] at hx; injection hx with hx; exact .inr (by omega)
  · exact .inl (.inr (.inr ⟨i, by omega, hx⟩))
def CopyTw (w : World) (B p2 n1 n2 : Nat) (ts1 ts2 : Nat → Int) (ln1 ln2 : Nat → Nat) (f1 f2 : Nat → Nat → Int) (x : Nat) (e : Ending) (w' : World) : Prop :=
  ∃ p, TwPost w B p p2 n1 n2 ts1 ts2 ln1 ln2 f1 f2 x (.pointer (some ⟨p, 0, none⟩)) e w'
theorem copy_t {w : World} {B p1 p2 n1 n2 x : Nat} {ts1 ts2 : Nat → Int} {ln1 ln2 : Nat → Nat} {f1 f2 : Nat → Nat → Int} (h : Tw w B p1 p2 n1 n2 ts1 ts2 ln1 ln2 f1 f2 x) (hn : n1 ≤ 1000) :
    Calls Try.prog 13 #[.pointer (some ⟨p1, 0, none⟩)] w (CopyTw w B p2 n1 n2 ts1 ts2 ln1 ln2 f1 f2 x) := by
  obtain ⟨hB, L1, L2, ad1, ad2, cp1, cp2, hp, hx, h1, h2⟩ := h
  refine (copy_s B p1 n1 L1 ts1 ad1 ln1 cp1 f1 w hp.a hn).mono ?_
  rintro e w' ⟨p, L, ad, cp, rfl, hb, hm⟩
  refine ⟨p, tw_step hp hB hx h1 h2 (hb.mono hB) (hm.mono hB) (fun b hbl _ => hb.block b hbl) (fun x hx => .inr ?_)⟩
  rcases hx with rfl | hx | ⟨i, hi, rfl⟩
  · exact hm.hp.1
  · exact (hm.own.blk x hx).1
  · exact (hm.hA i hi).1
def GetsTw (w : World) (p1 p2 : Nat) (id at' v : Int) (b : Bool) : Prop :=
  (Calls Try.prog 45 #[.pointer (some ⟨p1, 0, none⟩), .int .i64 id, .int .i64 at'] w fun e w' => e = .returned (.tuple #[.int .i64 v, .bool b]) ∧ w = w') ∧
  (Calls Try.prog 29 #[.pointer (some ⟨p2, 0, none⟩), .int .i64 id, .int .i64 at'] w fun e w' => e = .returned (.tuple #[.int .i64 v, .bool b]) ∧ w = w')
theorem get_t {w : World} {B p1 p2 n x : Nat} {ts : Nat → Int} {ln : Nat → Nat} {f : Nat → Nat → Int} (h : Tw w B p1 p2 n n ts ts ln ln f f x) (id at' : Int) : ∃ v b, GetsTw w p1 p2 id at' v b := by
  obtain ⟨hB, L1, L2, ad1, ad2, cp1, cp2, hp, _⟩ := h
  have c1 := get_s B p1 n L1 ts ad1 ln cp1 f id at' w hp.a
  have c2 := rget_s B p2 n L2 ts ad2 ln cp2 f id at' w hp.b
  by_cases hh : hasM n ln id at' = true
  · have e0 : getM n ln f id at' = .tuple #[.int .i64 (f id.toNat at'.toNat), .bool true] := if_pos hh
    rw [e0] at c1 c2
    exact ⟨_, _, c1, c2⟩
  · have e0 : getM n ln f id at' = .tuple #[.int .i64 0, .bool false] := if_neg hh
    rw [e0] at c1 c2
    exact ⟨_, _, c1, c2⟩
theorem TwP.cell2 {w : World} {B p1 p2 n : Nat} (h : TwP w B p1 p2 n) : ∃ ao cap, w.cell? ⟨p2, 0, none⟩ = some (.slice ao n cap) := by
  obtain ⟨hB, ts, ln, f, L1, L2, ad1, ad2, cp1, cp2, h⟩ := h
  obtain ⟨ao, cap, hL, _⟩ := h.b.own.form
  exact ⟨ao, cap, by rw [← hL]; exact h.b.cell⟩
def BlocksTw (w : World) (p1 p2 : Nat) (z t : Int) (l : Nat) (f : Nat → Int) : Prop :=
  (∀ W, Below w.heap.size w W → Calls Try.prog 19 #[.pointer (some ⟨p1, 0, none⟩), .int .i64 z] W (BlockPost t l f W)) ∧
  (∀ W, Below w.heap.size w W → Calls Try.prog 22 #[.pointer (some ⟨p2, 0, none⟩), .int .i64 z] W (BlockPost t l f W))
theorem TwP.blocks {w : World} {B p1 p2 n : Nat} (h : TwP w B p1 p2 n) (z : Int) (h0 : 0 ≤ z) (h1 : z < n) : ∃ t l f, l ≤ 16 ∧ BlocksTw w p1 p2 z t l f := by
  obtain ⟨i, rfl⟩ := Int.eq_ofNat_of_zero_le h0
  obtain ⟨hB, ts, ln, f, L1, L2, ad1, ad2, cp1, cp2, h⟩ := h
  have hi : i < n := by omega
  exact ⟨ts i, ln i, f i, (h.a.hA i hi).2.2.2.2.2.1, fun W hb => block_s B p1 n L1 ts ad1 ln cp1 f i W (h.a.below hb) hi, fun W hb => rblock_s B p2 n L2 ts ad2 ln cp2 f i W (h.b.below hb) hi⟩
def NoBlocksTw (w : World) (p1 p2 : Nat) (z : Int) : Prop :=
  (∀ W, Below w.heap.size w W → Calls Try.prog 19 #[.pointer (some ⟨p1, 0, none⟩), .int .i64 z] W (NoBlock W)) ∧
  (∀ W, Below w.heap.size w W → Calls Try.prog 22 #[.pointer (some ⟨p2, 0, none⟩), .int .i64 z] W (NoBlock W))
theorem TwP.noBlocks {w : World} {B p1 p2 n : Nat} (h : TwP w B p1 p2 n) (z : Int) (h0 : ¬ (0 ≤ z ∧ z < n)) : NoBlocksTw w p1 p2 z := by
  obtain ⟨hB, ts, ln, f, L1, L2, ad1, ad2, cp1, cp2, h⟩ := h
  exact ⟨fun W hb => block_out B p1 n L1 ts ad1 ln cp1 f z W (h.a.below hb) h0, fun W hb => rblock_out B p2 n L2 ts ad2 ln cp2 f z W (h.b.below hb) h0⟩
end Go.Proofs.Ytkgdogdallojlaa.C
