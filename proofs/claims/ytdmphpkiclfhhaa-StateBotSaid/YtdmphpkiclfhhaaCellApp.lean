/- append of intervals to a row of the call's own; r14.TopCells, r14.Write: walks. -/
import Derived.Test.YtdmphpkiclfhhaaCellWr
namespace Go.Proofs.Ytdmphpkiclfhhaa.C
open Go.RowKit
set_option linter.unusedSimpArgs false
set_option linter.unusedVariables false
attribute [local go_sem] fieldItv0 fieldItv1
theorem run_append_none_any {P : Program} (w : World) (base : Nat) (t ty e : TypeId) (i : TypeInfo) (size cap' : Nat) (ht : P.underlying t = some (.slice e)) (hi : P.info? e = some i)
    (v : Value) (n : Nat) (xs : List Value) (hown : w.ownsRow base e size v n xs) :
    (Builtin.append_ #[t, t] ty #[v, .slice none 0 cap']).run P w = .ok v w := by
  rcases hown.2 with ⟨rfl, rfl⟩ | ⟨g, cap, cur, rfl, _, _, hnc, _⟩
  · simp [Builtin.append_, run_underlying ht, sizeOf, typeInfo, hi, Builtin.lenOf, Builtin.firstCells]
  · simp [Builtin.append_, run_underlying ht, sizeOf, typeInfo, hi, Builtin.lenOf, Builtin.firstCells, hnc, storeCells]
/-- append(v, a..): v the call's own (or nil), a whatever row. -/
theorem wpList_append_itv {w : World} {ops : Array Oper} {rest : List Oper} {o : Oper} {a : Act} {Q : Exit → Act → World → Prop} (hgd : o.guard = none) (s x : Operand)
    (ho : o.op = .call { callee := .builtin .append, args := #[s, x], argTypes := #[61, 61] })
    (base : Nat) (v : Value) (n : Nat) (xs : List Value) (hs : a.eval s = v) (hown : w.ownsRow base 39 2 v n xs)
    (A : Option Addr) (m c : Nat) (r : Nat → Int × Int) (hx : a.eval x = .slice A m c) (hr : CR w A m r) (hn : n ≤ 100000) (hm : m ≤ 100000) (hbase : base ≤ w.heap.size)
    (h : ∀ v' w', w'.ownsRow base 39 2 v' (n + m) (xs ++ xsI r m) → w.grownBy w' v.ownBlock → (v'.ownBlock = v.ownBlock ∨ v'.ownBlock = some w.heap.size) → wpList Try.prog ops Q rest (a.put o.dst v') w') :
    wpList Try.prog ops Q (o :: rest) a w := by
  obtain ⟨i0, hi, hz⟩ := Option.map_eq_some_iff.1 infoItv
  simp only [Prod.mk.injEq] at hz
  obtain ⟨hz0, hz1, hz2⟩ := hz
  cases A with
  | none =>
    have h0 : m = 0 := by
      rcases Nat.eq_zero_or_pos m with h | h
      · exact h
      · obtain ⟨_, e, _⟩ := hr.2 h; cases e
    subst h0
    refine wpList_plain hgd fun K hK => ?_
    have hrun := run_append_none_any w base 61 o.type 39 i0 2 c Try.underlying61 hi v n xs hown
    unfold Oper.wp
    simp [execOp, ho, resolve, invoke, builtin, hs, hx, hrun, Result.andThen]
    have e0 : xsI r 0 = [] := rfl
    exact hK _ _ (h v w (by rw [e0]; simpa using hown) (World.grownBy.refl w _) (.inl rfl))
  | some ad =>
    exact wpList_append_own_at w hgd s x 61 ho base 39 i0 (.agg #[.int .i64 0, .int .i64 0]) 2 16 Try.underlying61 hi hz0 hz1 hz2 rfl (by omega) v n xs hs hown ad m c (xsI r m) hx (xsI_len _ _) hr.news (xsI_one _ _) (by unfold maxLen; omega) (by omega) hbase (fun v' w' h1 h2 _ h4 => h v' w' h1 h2 h4)
theorem OI.of {w : World} {base : Nat} {v : Value} {n : Nat} {r : Nat → Int × Int} (h : w.ownsRow base 39 2 v n (xsI r n)) : ∃ A c, v = .slice A n c ∧ OI w base A n c r := by
  rcases h.2 with ⟨rfl, e⟩ | ⟨g, cap, cur, rfl, _⟩
  · exact ⟨none, 0, by rw [e], by subst e; exact h⟩
  · exact ⟨_, _, rfl, h⟩
theorem OI.blk {w : World} {base : Nat} {A : Option Addr} {n c : Nat} {r : Nat → Int × Int} (h : OI w base A n c r) : ∀ k, (Value.slice A n c).ownBlock = some k → base ≤ k ∧ k < w.heap.size := World.ownsRow.lt h
theorem CR.one (w : World) (g : Nat) (p : Int × Int) (t : TypeId) (hg : w.heap[g]? = some (.cells #[.int .i64 p.1, .int .i64 p.2] t (0, 0))) : CR w (some ⟨g, 0, none⟩) 1 (fun _ => p) := by
  refine ⟨by omega, fun _ => ⟨_, rfl, (Array.getElem?_eq_some_iff.1 hg).1, fun i hi => ?_⟩⟩
  obtain rfl : i = 0 := by omega
  rw [i_plain, i_plain, cell_of_row w g _ _ _ _ hg, cell_of_row w g _ _ _ _ hg]
  exact ⟨rfl, rfl⟩
/-- As many as fit. -/
def topN (size : Int) : Nat := (min size 16).toNat
set_option maxRecDepth 100000 in
set_option maxHeartbeats 3200000 in
theorem rTop_c (t size : Int) (w : World) : Calls Try.prog 29 #[.int .i64 t, .int .i64 size] w (NewI (topN size) (fun _ => ofI t) w) := by
  obtain ⟨N, hN⟩ : ∃ N, topN size = N := ⟨_, rfl⟩
  rw [hN]
  have hN16 : N ≤ 16 := by rw [← hN]; unfold topN; omega
  obtain ⟨z, hz⟩ : ∃ z, ofI t = z := ⟨_, rfl⟩
  have LO := fun W => riOf_c t W
  simp only [hz] at LO ⊢
  have HN := Lib.hid hN
  clear hN hz
  go_enter Try.func29, Try.ntmps29
  go_wp2_with fail
  go_loopw [5, 6] (fun v i wr => ∃ (k : Nat) (A : Option Addr) (c : Nat), k ≤ N ∧ i = .int .i64 k ∧ v = .slice A k c ∧ OI wr w.heap.size A k c (fun _ => z) ∧ Below w.heap.size w wr) (fun _ i _ => N - (intOf i).toNat)
  case atStart => exact ⟨0, none, 0, by omega, rfl, rfl, World.ownsRow_nil _ _ _ _, Below.refl _ _⟩
  case round =>
    obtain ⟨k, A, c, hk, rfl, rfl, ho, hb⟩ := hrel
    have HO := Lib.hid ho
    have HB := Lib.hid hb
    clear ho hb
    obtain ⟨wo, rfl⟩ : ∃ wo : World, wo = wr := ⟨_, rfl⟩
    by_cases hlt : k < N
    · have g1 : decide ((k : Int) < size) = true := decide_eq_true (by have := HN.out; unfold topN at this; omega)
      have g2 : decide ((k : Int) < 16) = true := decide_eq_true (by omega)
      have hs1 : (k : Int) < size := by have := HN.out; unfold topN at this; omega
      have hs2 : (k : Int) < 16 := by omega
      go_upto_region 5 with fail
      go_wp2_with (first | (go_at_call 37; refine (LO _).mono ?_; rintro e w3 ⟨rfl, hb3⟩; have HB3 := Lib.hid hb3; clear hb3) | (at_builtin; refine wpList_append_itv rfl _ _ rfl w.heap.size (.slice A k c) k (xsI (fun _ => z) k) (by rfl) (OI.below HO.out (HB3.out.alloc HB3.out.size _)) (some ⟨w3.heap.size, 0, none⟩) 1 1 (fun _ => z) (by rfl) (CR.one _ _ _ 39 (heap_alloc_new _ _)) (by omega) (by omega) (by have := HB.out.size; have := HB3.out.size; simp; omega) ?_; intro v' w1 hown hg hat; have HW := Lib.hid (And.intro hown (And.intro hg hat)); clear hown hg hat; obtain ⟨va, rfl⟩ : ∃ va : Value, va = v' := ⟨_, rfl⟩))
      have e : xsI (fun _ => z) k ++ xsI (fun _ => z) 1 = xsI (fun _ => z) (k + 1) := xsI_snoc (fun _ => z) k
      have hown := HW.out.1
      rw [e] at hown
      obtain ⟨A2, c2, rfl, ho2⟩ := OI.of hown
      have hsz := HB.out.size
      have hsz3 := HB3.out.size
      have hbk := fun q hq => (HO.out.blk q hq).1
      exact ⟨⟨k + 1, A2, c2, by omega, by go_num, rfl, ho2, (below_next HB.out hsz (HB3.out.alloc HB3.out.size _)).grown HW.out.2.1 (by simp; omega) hbk⟩, by simp [intOf]; omega⟩
    · obtain rfl : k = N := by omega
      have HR2 : Hid (NewI k (fun _ => z) w (.returned (.slice A k c)) wo) := Lib.hid ⟨A, c, rfl, HO.out, HB.out⟩
      by_cases hs : (k : Int) < size
      · have hs2 : (k : Int) = 16 := by have := HN.out; unfold topN at this; omega
        have g1 : decide ((k : Int) < size) = true := decide_eq_true hs
        have g2 : decide ((k : Int) < 16) = false := decide_eq_false (by omega)
        clear hlt hk
        go_wp2_with fail
        go_ret
        exact HR2.out
      · have g1 : decide ((k : Int) < size) = false := decide_eq_false hs
        clear hlt hk
        go_wp2_with fail
        go_ret
        exact HR2.out
end Go.Proofs.Ytdmphpkiclfhhaa.C
