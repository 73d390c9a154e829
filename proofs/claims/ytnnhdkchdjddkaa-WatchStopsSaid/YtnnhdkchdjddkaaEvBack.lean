/- slices.Backward at binds: the closure's contract; eval.Bind: walk. -/
import Derived.RangeFuncNested
import Derived.RangeFuncBound
import Derived.RangeFuncCalls
import Derived.RangeFuncLeaves
import Derived.RangeFuncBox
import Derived.Shelf.Abstract
import Derived.Shelf.RegionOpen
import Derived.WalkKit
import Derived.OwnWalkIn
import Derived.TacticsInMore
import Derived.LoopNIn
import Derived.LoopIn
import Derived.Test.YtnnhdkchdjddkaaEvBind
namespace Go.Proofs.Ytnnhdkchdjddkaa.C
open Go.RowKit Go.Shelf
set_option linter.unusedSimpArgs false
set_option linter.unusedVariables false
attribute [local go_sem] Oper.semAt_some
/-- What has come when the binds from k on are over: from the last one down. -/
def comeB (bs : List Bd) (k : Nat) : List (Int × Bd) := ((List.range' k (bs.length - k)).reverse).map (fun (i : Nat) => ((i : Int), bs.getD i bd0))
theorem comeB_len (bs : List Bd) (k : Nat) : (comeB bs k).length = bs.length - k := by simp [comeB]
theorem comeB_step (bs : List Bd) {k : Nat} (hk : k < bs.length) : comeB bs k = comeB bs (k + 1) ++ [((k : Int), bs.getD k bd0)] := by
  unfold comeB
  have e : bs.length - k = (bs.length - (k + 1)) + 1 := by omega
  rw [e, List.range'_succ, List.reverse_cons, List.map_append]
  rfl
theorem comeB_top (bs : List Bd) : comeB bs bs.length = [] := by simp [comeB]
def bdVs (x : Int × Bd) : Array Value := #[.int .i64 x.1, .agg #[.string x.2.nm, .int .i64 x.2.t, .int .i64 x.2.size, .int .i64 x.2.id]]
set_option maxRecDepth 100000 in
set_option maxHeartbeats 4000000 in
theorem back1_in (F : Fence) (n : Nat) (hF : F.fn 56) (hro : F.round = none) (hn : 1 ≤ n) (l Bs n₀ g cap : Nat) (hBn : Bs < n₀) (bs : List Bd) (hlen : bs.length ≤ 100000) (hb : g < n₀) (J Jx : List (Int × Bd) → World → Prop)
    (hY : ∀ pre x W, J pre W → pre.length < bs.length → YieldAt F (n - 1) Try.prog l (bdVs x) W fun e W' =>
      (e = .returned (.bool true) ∧ J (pre ++ [x]) W' ∧ Below n₀ W W') ∨ (e = .returned (.bool false) ∧ Jx (pre ++ [x]) W'))
    (W : World) (hBs : W.cell? ⟨Bs, 0, none⟩ = some (.slice (some ⟨g, 0, none⟩) bs.length cap)) (hc : BL W g bs) (h0 : J [] W) :
    CallsIn F n Try.prog 56 #[.func (.yield l) #[] #[], .pointer (some ⟨Bs, 0, none⟩)] W fun e W' => (∃ v, e = .returned v) ∧
      ((∃ ys, ys = comeB bs 0 ∧ J ys W') ∨ (∃ pre, (∃ k, k ≤ bs.length ∧ pre = comeB bs k) ∧ Jx pre W')) := by
  have HC := Lib.hid hc
  have HJ0 : Hid (J (comeB bs bs.length) W) := Lib.hid (by rw [comeB_top]; exact h0)
  obtain ⟨m, hm⟩ : ∃ m, bs.length = m := ⟨_, rfl⟩
  have HM := Lib.hid hm
  have e1 : IntKind.i64.wrap ((m : Int) - 1) = (m : Int) - 1 := IntWalk.i64_in _ (by omega)
  rw [hm] at hBs HJ0 hlen
  clear hc h0 hm
  refine callsIn_of_wp Try.func56 rfl hF ?_ hro
  simp only [Try.ntmps56, List.size_toArray, List.length_cons, List.length_nil, Nat.reduceAdd, Nat.reduceSub, Array.replicate_succ, Array.replicate_zero, List.push_toArray, List.append_toArray, List.nil_append, List.cons_append]
  gi_wp2
  gi_loopw [3] (fun i wr => ∃ k : Nat, k ≤ m ∧ i = .int .i64 ((k : Int) - 1) ∧ Hid (J (comeB bs k) wr) ∧ wr.cell? ⟨Bs, 0, none⟩ = some (.slice (some ⟨g, 0, none⟩) m cap) ∧ BL wr g bs)
    (fun i _ => (intOf i + 1).toNat)
  case atStart => exact ⟨m, Nat.le_refl _, rfl, HJ0, hBs, HC.out⟩
  case round =>
    obtain ⟨k, hk, rfl, hJs, hBs2, hbl⟩ := hrel
    cases k with
    | zero =>
      have q0 : ¬ (0 : Int) ≤ ((0 : Nat) : Int) - 1 := by omega
      gi_wp2
      go_end0
      first | exact ⟨⟨_, rfl⟩, .inl hJs.out⟩ | exact ⟨⟨_, rfl⟩, .inl ⟨_, rfl, hJs.out⟩⟩
    | succ k =>
      have hkl : k < bs.length := by rw [HM.out]; omega
      obtain ⟨c0, c1, c2, c3⟩ := hbl.2 k (bs.getD k bd0) (by simp [List.getD, hkl])
      have HJ2 : Hid (∀ W', J (comeB bs (k + 1) ++ [((k : Int), bs.getD k bd0)]) W' → J (comeB bs k) W') := Lib.hid (fun W' h => by rw [comeB_step bs hkl]; exact h)
      have HJ3 : Hid (∀ W', Jx (comeB bs (k + 1) ++ [((k : Int), bs.getD k bd0)]) W' → ∃ pre, (∃ k, k ≤ bs.length ∧ pre = comeB bs k) ∧ Jx pre W') := Lib.hid (fun W' h => ⟨_, ⟨k, by omega, (comeB_step bs hkl).symm⟩, h⟩)
      obtain ⟨fn, tmps, assign, body, hy, hR⟩ := hY _ ((k : Int), bs.getD k bd0) wr hJs.out (by rw [comeB_len]; omega)
      have q0 : (0 : Int) ≤ ((k + 1 : Nat) : Int) - 1 := by omega
      have q1 : ((k + 1 : Nat) : Int) - 1 = (k : Int) := by omega
      have q2 : (k : Int) < (m : Int) := by omega
      have q3 : k < m := by omega
      have q4 : IntKind.i64.wrap ((k : Int) - 1) = (k : Int) - 1 := IntWalk.i64_in _ (by omega)
      obtain ⟨b, hb⟩ : ∃ b, bs.getD k bd0 = b := ⟨_, rfl⟩
      rw [hb] at c0 c1 c2 c3 hy hR HJ2 HJ3
      obtain ⟨x, t, sz, id⟩ := b
      unfold bdVs at hy
      simp only at c0 c1 c2 c3 hy hR
      clear hb hkl
      gi_wp2
      refine hR.mono ?_
      rintro e W3 (⟨rfl, hJ3, hk3⟩ | ⟨rfl, hJx3⟩)
      · have hBs3 : W3.cell? ⟨Bs, 0, none⟩ = some (.slice (some ⟨g, 0, none⟩) m cap) := (hk3.cell (p := ⟨Bs, 0, none⟩) hBn).trans hBs2
        have hbl3 : BL W3 g bs := ⟨Nat.lt_of_lt_of_le hbl.1 hk3.size, fun j b hj => by
          obtain ⟨y0, y1, y2, y3⟩ := hbl.2 j b hj
          exact ⟨(hk3.cell (p := ⟨g, j * 4, none⟩) hb).trans y0, (hk3.cell (p := ⟨g, j * 4 + 1, none⟩) hb).trans y1, (hk3.cell (p := ⟨g, j * 4 + 2, none⟩) hb).trans y2, (hk3.cell (p := ⟨g, j * 4 + 3, none⟩) hb).trans y3⟩⟩
        have HJN := Lib.hid (HJ2.out _ hJ3)
        clear c0 c1 c2 c3
        gi_wp2
        go_roundw
        case rel => exact ⟨k, by omega, by first | rfl | go_num | (congr 1; omega), HJN, hBs3, hbl3⟩
        case measure => simp [intOf]; try omega
      · have HJN := Lib.hid (HJ3.out _ hJx3)
        clear c0 c1 c2 c3
        gi_wp2
        refine bodyPost_ret (results_none rfl _ _ _) rfl ?_
        exact ⟨⟨_, rfl⟩, .inr HJN.out⟩
set_option maxRecDepth 100000 in
set_option maxHeartbeats 1000000 in
theorem back1_nil_in (F : Fence) (n : Nat) (hF : F.fn 56) (hro : F.round = none) (l Bs : Nat) (J : List (Int × Bd) → World → Prop) (W : World) (hBs : W.cell? ⟨Bs, 0, none⟩ = some (.slice none 0 0)) (h0 : J [] W) :
    CallsIn F n Try.prog 56 #[.func (.yield l) #[] #[], .pointer (some ⟨Bs, 0, none⟩)] W fun e W' => (∃ v, e = .returned v) ∧ J [] W' := by
  refine callsIn_of_wp Try.func56 rfl hF ?_ hro
  simp only [Try.ntmps56, List.size_toArray, List.length_cons, List.length_nil, Nat.reduceAdd, Nat.reduceSub, Array.replicate_succ, Array.replicate_zero, List.push_toArray, List.append_toArray, List.nil_append, List.cons_append]
  gi_wp2
  gi_loopw [3] (fun i wr => i = .int .i64 (-1) ∧ J [] wr) (fun _ _ => 0)
  case atStart => exact ⟨rfl, h0⟩
  case round =>
    obtain ⟨rfl, hJs⟩ := hrel
    gi_wp2
    go_end0
    exact ⟨⟨_, rfl⟩, hJs⟩
/-- A row of binds, or nil. -/
def BN (w : World) (v : Value) (bs : List Bd) : Prop := (v = .slice none 0 0 ∧ bs = []) ∨ ∃ g c, v = .slice (some ⟨g, 0, none⟩) bs.length c ∧ BL w g bs
theorem BN.below {w w' : World} {v : Value} {bs : List Bd} (h : BN w v bs) (hb : Below w.heap.size w w') : BN w' v bs := by
  rcases h with h | ⟨g, c, e, h⟩
  · exact .inl h
  · exact .inr ⟨g, c, e, h.below hb⟩
set_option maxHeartbeats 1000000 in
theorem back_in (F : Fence) (n : Nat) (hF : F.fn 46) (hro : F.round = none) (a : Option Addr) (len cap : Nat) (w : World) :
    CallsIn F n Try.prog 46 #[.slice a len cap] w fun e w' => e = .returned (.func (.func (56)) #[] #[.pointer (some ⟨w.heap.size, 0, none⟩)]) ∧ w' = w.alloc (.cells #[.slice a len cap] 34) := by
  refine callsIn_of_wp Try.func46 rfl hF ?_ hro
  simp only [Try.ntmps46, List.size_toArray, List.length_cons, List.length_nil, Nat.reduceAdd, Nat.reduceSub, Array.replicate_succ, Array.replicate_zero, List.push_toArray, List.append_toArray, List.nil_append, List.cons_append]
  gi_wp2
  go_ret
  exact ⟨rfl, rfl⟩
theorem back_stops (F : Fence) (n : Nat) (hF : F.fn 56) (hro : F.round = none) (hn : 1 ≤ n) (Bs n₀ : Nat) (v : Value) (bs : List Bd) (hlen : bs.length ≤ 100000) (w : World) (hBs : Bs < n₀) (hn₀ : n₀ ≤ w.heap.size)
    (hc : w.cell? ⟨Bs, 0, none⟩ = some v) (hI : BN w v bs) (hlt : ∀ g c m, v = .slice (some ⟨g, 0, none⟩) m c → g < n₀) :
    SeqStopsK F n Try.prog 56 #[.pointer (some ⟨Bs, 0, none⟩)] bdVs (Below n₀) (fun ys => ys = comeB bs 0) (fun pre => ∃ k, k ≤ bs.length ∧ pre = comeB bs k) bs.length w := fun l J Jx W hW _ _ hY h0 => by
  have hc' := (hW.cell (p := ⟨Bs, 0, none⟩) (by show Bs < w.heap.size; omega)).trans hc
  rcases hI.below hW with ⟨rfl, rfl⟩ | ⟨g, c, rfl, hcs⟩
  · exact (back1_nil_in F n hF hro l Bs J W hc' h0).mono fun e W' ⟨he, hj⟩ => ⟨he, .inl ⟨_, by simp [comeB], hj⟩⟩
  · exact back1_in F n hF hro hn l Bs n₀ g c hBs bs hlen (hlt g c _ rfl) J Jx hY W hc' hcs h0
/-- Bind's own cells between two rounds. -/
structure BindI (D : Nat) (nm : ByteArray) (W : World) : Prop where
  cn : W.cell? ⟨D, 0, none⟩ = some (.string nm)
  r0 : W.cell? ⟨D + 1, 0, none⟩ = some (.string ⟨#[]⟩)
  r1 : W.cell? ⟨D + 1, 1, none⟩ = some (.int .i64 0)
  r2 : W.cell? ⟨D + 1, 2, none⟩ = some (.int .i64 0)
  r3 : W.cell? ⟨D + 1, 3, none⟩ = some (.int .i64 0)
  f0 : W.frozen? ⟨D + 1, 0, none⟩ = false
  f1 : W.frozen? ⟨D + 1, 1, none⟩ = false
  f2 : W.frozen? ⟨D + 1, 2, none⟩ = false
  f3 : W.frozen? ⟨D + 1, 3, none⟩ = false
  rb : W.cell? ⟨D + 2, 0, none⟩ = some (.bool false)
  fb : W.frozen? ⟨D + 2, 0, none⟩ = false
theorem BindI.kept {D : Nat} {nm : ByteArray} {A B : World} {row : Option Nat} (h : BindI D nm A) (hg : A.grownBy B row) (hr : ∀ r, row = some r → ∃ o : Obj, A.heap[r]? = some o ∧ o.isCells = false) : BindI D nm B :=
  ⟨cell_kept h.cn hg hr, cell_kept h.r0 hg hr, cell_kept h.r1 hg hr, cell_kept h.r2 hg hr, cell_kept h.r3 hg hr, (frozen_kept h.r0 hg hr).trans h.f0, (frozen_kept h.r1 hg hr).trans h.f1, (frozen_kept h.r2 hg hr).trans h.f2, (frozen_kept h.r3 hg hr).trans h.f3, cell_kept h.rb hg hr, (frozen_kept h.rb hg hr).trans h.fb⟩
theorem BindI.below {D n : Nat} {nm : ByteArray} {A B : World} (h : BindI D nm A) (hb : Below n A B) (hn : D + 3 ≤ n) : BindI D nm B :=
  ⟨(hb.cell (p := ⟨D, 0, none⟩) (by show D < n; omega)).trans h.cn, (hb.cell (p := ⟨D + 1, 0, none⟩) (by show D + 1 < n; omega)).trans h.r0, (hb.cell (p := ⟨D + 1, 1, none⟩) (by show D + 1 < n; omega)).trans h.r1, (hb.cell (p := ⟨D + 1, 2, none⟩) (by show D + 1 < n; omega)).trans h.r2, (hb.cell (p := ⟨D + 1, 3, none⟩) (by show D + 1 < n; omega)).trans h.r3,
    (hb.frozen (p := ⟨D + 1, 0, none⟩) (by show D + 1 < n; omega)).trans h.f0, (hb.frozen (p := ⟨D + 1, 1, none⟩) (by show D + 1 < n; omega)).trans h.f1, (hb.frozen (p := ⟨D + 1, 2, none⟩) (by show D + 1 < n; omega)).trans h.f2, (hb.frozen (p := ⟨D + 1, 3, none⟩) (by show D + 1 < n; omega)).trans h.f3, (hb.cell (p := ⟨D + 2, 0, none⟩) (by show D + 2 < n; omega)).trans h.rb, (hb.frozen (p := ⟨D + 2, 0, none⟩) (by show D + 2 < n; omega)).trans h.fb⟩
/-- Bind's answer lies there. -/
structure BindR (D : Nat) (b : Bd) (ok : Bool) (W : World) : Prop where
  r0 : W.cell? ⟨D + 1, 0, none⟩ = some (.string b.nm)
  r1 : W.cell? ⟨D + 1, 1, none⟩ = some (.int .i64 b.t)
  r2 : W.cell? ⟨D + 1, 2, none⟩ = some (.int .i64 b.size)
  r3 : W.cell? ⟨D + 1, 3, none⟩ = some (.int .i64 b.id)
  rb : W.cell? ⟨D + 2, 0, none⟩ = some (.bool ok)
theorem BindR.kept {D : Nat} {b : Bd} {ok : Bool} {A B : World} {row : Option Nat} (h : BindR D b ok A) (hg : A.grownBy B row) (hr : ∀ r, row = some r → ∃ o : Obj, A.heap[r]? = some o ∧ o.isCells = false) : BindR D b ok B :=
  ⟨cell_kept h.r0 hg hr, cell_kept h.r1 hg hr, cell_kept h.r2 hg hr, cell_kept h.r3 hg hr, cell_kept h.rb hg hr⟩
theorem BindI.set {D : Nat} {nm : ByteArray} {W : World} (h : BindI D nm W) (b : Bd) (ok : Bool) : BindR D b ok (((((W.setCell ⟨D + 1, 0, none⟩ (.string b.nm)).setCell ⟨D + 1, 1, none⟩ (.int .i64 b.t)).setCell ⟨D + 1, 2, none⟩ (.int .i64 b.size)).setCell ⟨D + 1, 3, none⟩ (.int .i64 b.id)).setCell ⟨D + 2, 0, none⟩ (.bool ok)) := by
  have h0 := h.r0
  have h1 := h.r1
  have h2 := h.r2
  have h3 := h.r3
  have hb := h.rb
  constructor <;> simp [go_sem, World.cell?_setCell_other, World.cell?_setCell_same, *]
theorem lastB_skip (bs : List Bd) (nm : ByteArray) (k : Nat) : ∀ m, k ≤ m → (∀ i, k ≤ i → i < m → ((bs.getD i bd0).nm.toList == nm.toList) = false) → lastB bs nm m = lastB bs nm k := by
  intro m
  induction m with
  | zero =>
    intro hk _
    obtain rfl : k = 0 := by omega
    rfl
  | succ m ih =>
    intro hk hm
    by_cases e : k = m + 1
    · rw [e]
    · have := hm m (by omega) (by omega)
      rw [show lastB bs nm (m + 1) = if ((bs.getD m bd0).nm.toList == nm.toList) = true then some (bs.getD m bd0) else lastB bs nm m from rfl, if_neg (by rw [this]; simp)]
      exact ih (by omega) (fun i h1 h2 => hm i h1 (by omega))
theorem comeB_mem (bs : List Bd) {k i : Nat} (h1 : k ≤ i) (h2 : i < bs.length) : ((i : Int), bs.getD i bd0) ∈ comeB bs k := by
  unfold comeB
  rw [List.mem_map]
  exact ⟨i, by rw [List.mem_reverse, List.mem_range']; exact ⟨i - k, by omega, by omega⟩, rfl⟩
/-- None of them has the name. -/
def BdNo (nm : ByteArray) (pre : List (Int × Bd)) : Prop := ∀ p ∈ pre, (p.2.nm.toList == nm.toList) = false
/-- The last one has it: Bind has its answer. -/
def BdHit (D : Nat) (nm : ByteArray) (c : Code) (pre : List (Int × Bd)) (W : World) : Prop := c = .ret ∧ ∃ ini last, pre = ini ++ [last] ∧ BdNo nm ini ∧ (last.2.nm.toList == nm.toList) = true ∧ BindR D last.2 true W
theorem BdNo.snoc {nm : ByteArray} {pre : List (Int × Bd)} {x : Int × Bd} (h : BdNo nm pre) (hx : (x.2.nm.toList == nm.toList) = false) : BdNo nm (pre ++ [x]) := fun p hp => by
  rw [List.mem_append, List.mem_singleton] at hp
  rcases hp with hp | rfl
  · exact h p hp
  · exact hx
theorem BdHit.kept {D : Nat} {nm : ByteArray} {c : Code} {pre : List (Int × Bd)} {A B : World} {row : Option Nat} (h : BdHit D nm c pre A) (hg : A.grownBy B row) (hr : ∀ r, row = some r → ∃ o : Obj, A.heap[r]? = some o ∧ o.isCells = false) : BdHit D nm c pre B := by
  obtain ⟨hc, ini, last, e1, e2, e3, e4⟩ := h
  exact ⟨hc, ini, last, e1, e2, e3, e4.kept hg hr⟩
theorem BdNo.last {nm : ByteArray} {bs : List Bd} (h : BdNo nm (comeB bs 0)) : lastB bs nm bs.length = none :=
  lastB_skip bs nm 0 bs.length (Nat.zero_le _) (fun i h1 h2 => h _ (comeB_mem bs h1 h2))
theorem BdHit.last {D : Nat} {nm : ByteArray} {c : Code} {bs : List Bd} {k : Nat} {W : World} (hk : k ≤ bs.length) (h : BdHit D nm c (comeB bs k) W) : ∃ b, lastB bs nm bs.length = some b ∧ BindR D b true W := by
  obtain ⟨hc, ini, last, e1, e2, e3, e4⟩ := h
  rcases Nat.lt_or_ge k bs.length with hlt | hge
  · rw [comeB_step bs hlt] at e1
    obtain ⟨rfl, e5⟩ := List.append_inj' e1 rfl
    obtain rfl : ((k : Int), bs.getD k bd0) = last := by simpa using e5
    refine ⟨bs.getD k bd0, ?_, e4⟩
    rw [lastB_skip bs nm (k + 1) bs.length (by omega) (fun i h1 h2 => e2 _ (comeB_mem bs h1 h2))]
    rw [show lastB bs nm (k + 1) = if ((bs.getD k bd0).nm.toList == nm.toList) = true then some (bs.getD k bd0) else lastB bs nm k from rfl, if_pos e3]
  · obtain rfl : k = bs.length := by omega
    rw [comeB_top] at e1
    have := congrArg List.length e1
    simp at this
theorem at_worldIn {c : Code} {F : Fence} {n : Nat} {P : Program} {Q : Exit → Act → World → Prop} {a : Act} {w : World} (I : World → Prop) (h0 : I w) (h : ∀ W, I W → c.wpIn F n P Q a W) : c.wpIn F n P Q a w := h w h0
set_option maxRecDepth 100000 in
set_option maxHeartbeats 4000000 in
theorem bind_in (F : Fence) (n : Nat) (h58 : F.fn 40) (h68 : F.fn 46) (h81 : F.fn 56) (hro : F.round = none) (hn : 3 ≤ n) (A : Option Addr) (len cap : Nat) (bs : List Bd) (nm : ByteArray) (w : World) (hI : BN w (.slice A len cap) bs) (hlen : bs.length ≤ 100000) :
    CallsIn F n Try.prog 40 #[.slice A len cap, .string nm] w fun e w' => e = .returned (lastV (lastB bs nm bs.length)) ∧ Below w.heap.size w w' := by
  have h1 : 1 ≤ n := by omega
  have HIN := Lib.hid hI
  have hlt : Hid (∀ g c m, (Value.slice A len cap) = .slice (some ⟨g, 0, none⟩) m c → g < w.heap.size) := Lib.hid (fun g c m e => by
    rcases hI with ⟨e2, _⟩ | ⟨g2, c2, e2, h⟩
    · rw [e2] at e; cases e
    · rw [e2] at e; cases e; exact h.1)
  clear hI
  refine callsIn_of_wp_marks Try.func40 rfl h58 ?_ hro
  simp only [Try.ntmps40, List.size_toArray, List.length_cons, List.length_nil, Nat.reduceAdd, Nat.reduceSub, Array.replicate_succ, Array.replicate_zero, List.push_toArray, List.append_toArray, List.nil_append, List.cons_append]
  gi_wp2_with (gi_at_call 46; refine (back_in F (n - 1) h68 hro _ _ _ _).mono ?_; rintro e w' ⟨rfl, rfl⟩)
  refine at_worldIn (fun W => Below w.heap.size w W ∧ W.heap.size = w.heap.size + 4 ∧ BindI w.heap.size nm W ∧ W.cell? ⟨w.heap.size + 3, 0, none⟩ = some (.slice A len cap)) ⟨(by repeat' (first | exact Below.refl _ _ | (refine Below.alloc ?_ ?_ _) | (refine Below.setCell ?_ ?_ _) | (refine Below.drew ?_) | (refine below_next ?_ ?_ (by assumption)) | omega | (simp; done) | (simp; omega))), by simp, ⟨by simp [go_sem], by simp [go_sem], by simp [go_sem], by simp [go_sem], by simp [go_sem], by simp [go_sem], by simp [go_sem], by simp [go_sem], by simp [go_sem], by simp [go_sem], by simp [go_sem]⟩, by simp [go_sem]⟩ ?_
  rintro W0 ⟨hB0, hsz, hBI, hcs⟩
  refine wpIn_rangeFunc_ownH hro h1 (gf := 56) (lb := #[.pointer (some ⟨w.heap.size + 3, 0, none⟩)]) rfl h81 (enters_of Try.func56 (by kernel_rfl) rfl)
    (back_stops F (n - 1) h81 hro (by omega) (w.heap.size + 3) (w.heap.size + 4) _ bs hlen W0 (by omega) (by omega) hcs (HIN.out.below hB0) (fun g c m e => by have := hlt.out g c m e; omega)) belowK_t (belowK_b (by omega)) (Below.refl _ _) (fun _ => rfl)
    (fun pre W => BdNo nm pre ∧ Below (w.heap.size + 4) W0 W)
    (fun c pre W => BdHit w.heap.size nm c pre W ∧ Below w.heap.size w W)
    (OwnFrom.and (Own.from (fun s A B row hs hg hr => hs) _) (ownFrom_below (by omega) (by omega)))
    (fun c => OwnFrom.and (Own.from (fun s A B row hs hg hr => hs.kept hg hr) _) (ownFrom_below (Nat.le_refl _) (by omega)))
    ⟨fun p hp => by simp at hp, Below.refl _ _⟩
    (fun x a' W => ∃ Bx, w.heap.size + 4 ≤ Bx ∧ (W.cell? ⟨Bx, 0, none⟩ = some (.string x.2.nm) ∧ W.cell? ⟨Bx, 1, none⟩ = some (.int .i64 x.2.t) ∧ W.cell? ⟨Bx, 2, none⟩ = some (.int .i64 x.2.size) ∧ W.cell? ⟨Bx, 3, none⟩ = some (.int .i64 x.2.id)) ∧
      a' = { tmps := #[.slice A len cap, .string nm, undef, .pointer (some ⟨w.heap.size, 0, none⟩), .pointer (some ⟨w.heap.size + 1, 0, none⟩), .pointer (some ⟨w.heap.size + 2, 0, none⟩), undef, .pointer (some ⟨Bx, 0, none⟩), .slice A len cap, .func (.func (56)) #[] #[.pointer (some ⟨w.heap.size + 3, 0, none⟩)], .int .i64 x.1, .agg #[.string x.2.nm, .int .i64 x.2.t, .int .i64 x.2.size, .int .i64 x.2.id], undef, undef, undef, undef, undef, undef], defers := [] })
    (fun x a' _ X Y row hs hg hr => by
      obtain ⟨Bx, h1, ⟨c0, c1, c2, c3⟩, h3⟩ := hs
      exact ⟨Bx, h1, ⟨cell_kept c0 hg (fun r e => (hr r e).2), cell_kept c1 hg (fun r e => (hr r e).2), cell_kept c2 hg (fun r e => (hr r e).2), cell_kept c3 hg (fun r e => (hr r e).2)⟩, h3⟩)
    ?assign ?body ?done ?stop
  case assign =>
    rintro l pre x W K ⟨hp, hB1⟩ hK
    have hsW : w.heap.size + 4 ≤ W.heap.size := by have := hB1.size; omega
    have HK := Lib.hid hK
    clear hK
    obtain ⟨xi, ⟨xn, xt, xs, xd⟩⟩ := x
    dsimp only [bdVs]
    gi_wp2
    exact HK.out _ _ ((KeepsOthers.alloc _ _).from _) ((Below.refl _ W).alloc hsW _) ⟨hp, hB1.alloc hsW _⟩ ⟨W.heap.size, hsW, ⟨by simp [go_sem], by simp [go_sem], by simp [go_sem], by simp [go_sem]⟩, rfl⟩
  case body =>
    rintro l pre x a' W hl ⟨r, hr⟩ ⟨hp, hB1⟩ ⟨Bx, hBx, ⟨c0, c1, c2, c3⟩, rfl⟩ hlt2
    obtain ⟨xi, ⟨xn, xt, xs, xd⟩⟩ := x
    dsimp only at c0 c1 c2 c3 ⊢
    have hbi := hBI.below hB1 (by omega)
    have HBI := Lib.hid hbi
    have cn := hbi.cn
    have r0 := hbi.r0
    have r1 := hbi.r1
    have r2 := hbi.r2
    have r3 := hbi.r3
    have rb := hbi.rb
    have f0 := hbi.f0
    have f1 := hbi.f1
    have f2 := hbi.f2
    have f3 := hbi.f3
    have fb := hbi.fb
    have HP := Lib.hid hp
    have HB1 := Lib.hid hB1
    have HSET := Lib.hid (hbi.set ⟨xn, xt, xs, xd⟩ true)
    obtain ⟨q, hq⟩ : ∃ q, (xn.toList == nm.toList) = q := ⟨_, rfl⟩
    have HQ := Lib.hid hq
    clear hbi hp hB1 hlt2
    cases q
    · gi_wp2
      exact ⟨KeepsFrom.refl _ _, Below.refl _ _, HP.out.snoc HQ.out, HB1.out⟩
    · gi_wp2
      exact ⟨(((((KeepsOthers.setCell _ _ _).trans (KeepsOthers.setCell _ _ _)).trans (KeepsOthers.setCell _ _ _)).trans (KeepsOthers.setCell _ _ _)).trans (KeepsOthers.setCell _ _ _)).from _, ⟨rfl, pre, _, rfl, HP.out, HQ.out, HSET.out⟩,
        (((((hB0.trans (HB1.out.mono (by omega))).setCell (p := ⟨w.heap.size + 1, 0, none⟩) (by show w.heap.size ≤ w.heap.size + 1; omega) _).setCell (p := ⟨w.heap.size + 1, 1, none⟩) (by show w.heap.size ≤ w.heap.size + 1; omega) _).setCell (p := ⟨w.heap.size + 1, 2, none⟩) (by show w.heap.size ≤ w.heap.size + 1; omega) _).setCell (p := ⟨w.heap.size + 1, 3, none⟩) (by show w.heap.size ≤ w.heap.size + 1; omega) _).setCell (p := ⟨w.heap.size + 2, 0, none⟩) (by show w.heap.size ≤ w.heap.size + 2; omega) _⟩
  case done =>
    rintro D ys W hD rfl ⟨hne, hB⟩ hK
    have hbi := hBI.below hB (by omega)
    have hR := hbi.set ⟨⟨#[]⟩, 0, 0, 0⟩ false
    have hBW : Below w.heap.size w _ := (((((hB0.trans (hB.mono (by omega))).setCell (p := ⟨w.heap.size + 1, 0, none⟩) (by show w.heap.size ≤ w.heap.size + 1; omega) (.string ⟨#[]⟩)).setCell (p := ⟨w.heap.size + 1, 1, none⟩) (by show w.heap.size ≤ w.heap.size + 1; omega) (.int .i64 0)).setCell (p := ⟨w.heap.size + 1, 2, none⟩) (by show w.heap.size ≤ w.heap.size + 1; omega) (.int .i64 0)).setCell (p := ⟨w.heap.size + 1, 3, none⟩) (by show w.heap.size ≤ w.heap.size + 1; omega) (.int .i64 0)).setCell (p := ⟨w.heap.size + 2, 0, none⟩) (by show w.heap.size ≤ w.heap.size + 2; omega) (.bool false)
    have hKO : KeepsOthers W (((((W.setCell ⟨w.heap.size + 1, 0, none⟩ (.string ⟨#[]⟩)).setCell ⟨w.heap.size + 1, 1, none⟩ (.int .i64 0)).setCell ⟨w.heap.size + 1, 2, none⟩ (.int .i64 0)).setCell ⟨w.heap.size + 1, 3, none⟩ (.int .i64 0)).setCell ⟨w.heap.size + 2, 0, none⟩ (.bool false)) := (((((KeepsOthers.setCell _ _ _).trans (KeepsOthers.setCell _ _ _)).trans (KeepsOthers.setCell _ _ _)).trans (KeepsOthers.setCell _ _ _)).trans (KeepsOthers.setCell _ _ _))
    have hK' := hKO.same D _ hK rfl
    have HR := Lib.hid hR
    have HK' := Lib.hid hK'
    have HBW := Lib.hid hBW
    have HNE := Lib.hid hne
    have r0 := hbi.r0
    have r1 := hbi.r1
    have r2 := hbi.r2
    have r3 := hbi.r3
    have rb := hbi.rb
    have f0 := hbi.f0
    have f1 := hbi.f1
    have f2 := hbi.f2
    have f3 := hbi.f3
    have fb := hbi.fb
    clear hR hK' hBW hne hKO hbi hB
    gi_wp2
    refine ⟨by simp, .inl ⟨_, _, rfl, run_takeDeferred HK'.out, ?_⟩⟩
    have hk := HR.out.kept (grownBy_putObj' _ D (.deferred none)) (fun r e => by cases e; exact ⟨_, HK'.out, rfl⟩)
    have k0 := hk.r0
    have k1 := hk.r1
    have k2 := hk.r2
    have k3 := hk.r3
    have kb := hk.rb
    refine ⟨lastV (lastB bs nm bs.length), ?_, rfl, HBW.out.trans (belowK_b (w := w) (Nat.le_refl _) _ D _ _ (by omega) HK'.out rfl rfl)⟩
    rw [HNE.out.last]
    simp only at k0 k1 k2 k3 kb
    simp [results, Try.f40, go_sem, k0, k1, k2, k3, kb, lastV, bdV, bd0]
    rfl
  case stop =>
    rintro D c pre W hD ⟨k, hk, rfl⟩ ⟨hh, hB⟩ hK
    obtain rfl : c = .ret := hh.1
    obtain ⟨b, hb, hR⟩ := hh.last hk
    have HB := Lib.hid hB
    have HH := Lib.hid (And.intro hb hR)
    clear hh hb hR hB
    gi_wp2
    refine ⟨by simp, .inl ⟨_, _, rfl, run_takeDeferred hK, ?_⟩⟩
    have hk := HH.out.2.kept (grownBy_putObj' _ D (.deferred none)) (fun r e => by cases e; exact ⟨_, hK, rfl⟩)
    have k0 := hk.r0
    have k1 := hk.r1
    have k2 := hk.r2
    have k3 := hk.r3
    have kb := hk.rb
    refine ⟨lastV (lastB bs nm bs.length), ?_, rfl, HB.out.trans (belowK_b (w := w) (Nat.le_refl _) _ D _ _ (by omega) hK rfl rfl)⟩
    rw [HH.out.1]
    simp [results, Try.f40, go_sem, k0, k1, k2, k3, kb, lastV, bdV]
theorem bind_c (A : Option Addr) (len cap : Nat) (bs : List Bd) (nm : ByteArray) (w : World) (hI : BN w (.slice A len cap) bs) (hlen : bs.length ≤ 100000) :
    Calls Try.prog 40 #[.slice A len cap, .string nm] w fun e w' => e = .returned (lastV (lastB bs nm bs.length)) ∧ Below w.heap.size w w' :=
  callsIn_wide.1 (bind_in Fence.wide 3 trivial trivial trivial rfl (Nat.le_refl _) A len cap bs nm w hI hlen)
end Go.Proofs.Ytnnhdkchdjddkaa.C
