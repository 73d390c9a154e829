/- append of intervals to a row of the call's own; r14.TopCells, r14.Write: walks. -/
import Derived.Test.YtkeofaklkbjnkaaCellWr
namespace Go.Proofs.Ytkeofaklkbjnkaa.C
open Go.RowKit
set_option linter.unusedSimpArgs false
set_option linter.unusedVariables false
attribute [local go_sem] fieldItv0 fieldItv1
theorem run_append_none_any {P : Program} (w : World) (base : Nat) (t ty e : TypeId) (i : TypeInfo) (size cap' : Nat) (ht : P.underlying t = some (.slice e)) (hi : P.info? e = some i)
    (v : Value) (n : Nat) (xs : List Value) (hown : w.ownsRow base e size v n xs) :
    (Builtin.append_ #[t, t] ty #[v, .slice none 0 cap']).run P w = .ok v w := by
  rcases hown.2 with ⟨rfl, rfl⟩ | ⟨g, cap, cur, rfl, _, _, hnc, _⟩
  · simp [Builtin.append_, run_underlying ht, sizeOf, typeInfo, hi, Builtin.lenOf, Builtin.firstCells]
  · simp [Builtin.append_, run_underlying ht, sizeOf, typeInfo, hi, Builtin.lenOf, Builtin.firstCells, hnc, storeCells]
/-- append(v, a..): v the call's own (or nil), a whatever row. -/
theorem wpList_append_itv {w : World} {ops : Array Oper} {rest : List Oper} {o : Oper} {a : Act} {Q : Exit → Act → World → Prop} (hgd : o.guard = none) (s x : Operand)
    (ho : o.op = .call { callee := .builtin .append, args := #[s, x], argTypes := #[23, 23] })
    (base : Nat) (v : Value) (n : Nat) (xs : List Value) (hs : a.eval s = v) (hown : w.ownsRow base 26 2 v n xs)
    (A : Option Addr) (m c : Nat) (r : Nat → Int × Int) (hx : a.eval x = .slice A m c) (hr : CR w A m r) (hn : n ≤ 100000) (hm : m ≤ 100000) (hbase : base ≤ w.heap.size)
    (h : ∀ v' w', w'.ownsRow base 26 2 v' (n + m) (xs ++ xsI r m) → w.grownBy w' v.ownBlock → (v'.ownBlock = v.ownBlock ∨ v'.ownBlock = some w.heap.size) → wpList Try.prog ops Q rest (a.put o.dst v') w') :
    wpList Try.prog ops Q (o :: rest) a w := by
  obtain ⟨i0, hi, hz⟩ := Option.map_eq_some_iff.1 infoItv
  simp only [Prod.mk.injEq] at hz
  obtain ⟨hz0, hz1, hz2⟩ := hz
  cases A with
  | none =>
    have h0 : m = 0 := by
      rcases Nat.eq_zero_or_pos m with h | h
      · exact h
      · obtain ⟨_, e, _⟩ := hr.2 h; cases e
    subst h0
    refine wpList_plain hgd fun K hK => ?_
    have hrun := run_append_none_any w base 23 o.type 26 i0 2 c Try.underlying23 hi v n xs hown
    unfold Oper.wp
    simp [execOp, ho, resolve, invoke, builtin, hs, hx, hrun, Result.andThen]
    have e0 : xsI r 0 = [] := rfl
    exact hK _ _ (h v w (by rw [e0]; simpa using hown) (World.grownBy.refl w _) (.inl rfl))
  | some ad =>
    exact wpList_append_own_at w hgd s x 23 ho base 26 i0 (.agg #[.int .i64 0, .int .i64 0]) 2 16 Try.underlying23 hi hz0 hz1 hz2 rfl (by omega) v n xs hs hown ad m c (xsI r m) hx (xsI_len _ _) hr.news (xsI_one _ _) (by unfold maxLen; omega) (by omega) hbase (fun v' w' h1 h2 _ h4 => h v' w' h1 h2 h4)
theorem OI.of {w : World} {base : Nat} {v : Value} {n : Nat} {r : Nat → Int × Int} (h : w.ownsRow base 26 2 v n (xsI r n)) : ∃ A c, v = .slice A n c ∧ OI w base A n c r := by
  rcases h.2 with ⟨rfl, e⟩ | ⟨g, cap, cur, rfl, _⟩
  · exact ⟨none, 0, by rw [e], by subst e; exact h⟩
  · exact ⟨_, _, rfl, h⟩
theorem OI.blk {w : World} {base : Nat} {A : Option Addr} {n c : Nat} {r : Nat → Int × Int} (h : OI w base A n c r) : ∀ k, (Value.slice A n c).ownBlock = some k → base ≤ k ∧ k < w.heap.size := World.ownsRow.lt h
theorem CR.one (w : World) (g : Nat) (p : Int × Int) (t : TypeId) (hg : w.heap[g]? = some (.cells #[.int .i64 p.1, .int .i64 p.2] t (0, 0))) : CR w (some ⟨g, 0, none⟩) 1 (fun _ => p) := by
  refine ⟨by omega, fun _ => ⟨_, rfl, (Array.getElem?_eq_some_iff.1 hg).1, fun i hi => ?_⟩⟩
  obtain rfl : i = 0 := by omega
  rw [i_plain, i_plain, cell_of_row w g _ _ _ _ hg, cell_of_row w g _ _ _ _ hg]
  exact ⟨rfl, rfl⟩
/-- As many as fit. -/
def topN (size : Int) : Nat := (min size 16).toNat
set_option maxRecDepth 100000 in
set_option maxHeartbeats 3200000 in
theorem rTop_c (t size : Int) (w : World) : Calls Try.prog 16 #[.int .i64 t, .int .i64 size] w (NewI (topN size) (fun _ => ofI t) w) := by
  obtain ⟨N, hN⟩ : ∃ N, topN size = N := ⟨_, rfl⟩
  rw [hN]
  have hN16 : N ≤ 16 := by rw [← hN]; unfold topN; omega
  obtain ⟨z, hz⟩ : ∃ z, ofI t = z := ⟨_, rfl⟩
  have LO := fun W => riOf_c t W
  simp only [hz] at LO ⊢
  have HN := Lib.hid hN
  clear hN hz
  go_enter Try.func16, Try.ntmps16
  go_wp2_with fail
  go_loopw [5, 6] (fun v i wr => ∃ (k : Nat) (A : Option Addr) (c : Nat), k ≤ N ∧ i = .int .i64 k ∧ v = .slice A k c ∧ OI wr w.heap.size A k c (fun _ => z) ∧ Below w.heap.size w wr) (fun _ i _ => N - (intOf i).toNat)
  case atStart => exact ⟨0, none, 0, by omega, rfl, rfl, World.ownsRow_nil _ _ _ _, Below.refl _ _⟩
  case round =>
    obtain ⟨k, A, c, hk, rfl, rfl, ho, hb⟩ := hrel
    have HO := Lib.hid ho
    have HB := Lib.hid hb
    clear ho hb
    obtain ⟨wo, rfl⟩ : ∃ wo : World, wo = wr := ⟨_, rfl⟩
    by_cases hlt : k < N
    · have g1 : decide ((k : Int) < size) = true := decide_eq_true (by have := HN.out; unfold topN at this; omega)
      have g2 : decide ((k : Int) < 16) = true := decide_eq_true (by omega)
      have hs1 : (k : Int) < size := by have := HN.out; unfold topN at this; omega
      have hs2 : (k : Int) < 16 := by omega
      go_upto_region 5 with fail
      go_wp2_with (first | (go_at_call 32; refine (LO _).mono ?_; rintro e w3 ⟨rfl, hb3⟩; have HB3 := Lib.hid hb3; clear hb3) | (at_builtin; refine wpList_append_itv rfl _ _ rfl w.heap.size (.slice A k c) k (xsI (fun _ => z) k) (by rfl) (OI.below HO.out (HB3.out.alloc HB3.out.size _)) (some ⟨w3.heap.size, 0, none⟩) 1 1 (fun _ => z) (by rfl) (CR.one _ _ _ 26 (heap_alloc_new _ _)) (by omega) (by omega) (by have := HB.out.size; have := HB3.out.size; simp; omega) ?_; intro v' w1 hown hg hat; have HW := Lib.hid (And.intro hown (And.intro hg hat)); clear hown hg hat; obtain ⟨va, rfl⟩ : ∃ va : Value, va = v' := ⟨_, rfl⟩))
      have e : xsI (fun _ => z) k ++ xsI (fun _ => z) 1 = xsI (fun _ => z) (k + 1) := xsI_snoc (fun _ => z) k
      have hown := HW.out.1
      rw [e] at hown
      obtain ⟨A2, c2, rfl, ho2⟩ := OI.of hown
      have hsz := HB.out.size
      have hsz3 := HB3.out.size
      have hbk := fun q hq => (HO.out.blk q hq).1
      exact ⟨⟨k + 1, A2, c2, by omega, by go_num, rfl, ho2, (below_next HB.out hsz (HB3.out.alloc HB3.out.size _)).grown HW.out.2.1 (by simp; omega) hbk⟩, by simp [intOf]; omega⟩
    · obtain rfl : k = N := by omega
      have HR2 : Hid (NewI k (fun _ => z) w (.returned (.slice A k c)) wo) := Lib.hid ⟨A, c, rfl, HO.out, HB.out⟩
      by_cases hs : (k : Int) < size
      · have hs2 : (k : Int) = 16 := by have := HN.out; unfold topN at this; omega
        have g1 : decide ((k : Int) < size) = true := decide_eq_true hs
        have g2 : decide ((k : Int) < 16) = false := decide_eq_false (by omega)
        clear hlt hk
        go_wp2_with fail
        go_ret
        exact HR2.out
      · have g1 : decide ((k : Int) < size) = false := decide_eq_false hs
        clear hlt hk
        go_wp2_with fail
        go_ret
        exact HR2.out
theorem riOne_c (a b : Int) (w : World) : Calls Try.prog 36 #[.agg #[.int .i64 a, .int .i64 b]] w fun e w' => e = .returned (.bool (decide (a = b))) ∧ Below w.heap.size w w' := by
  go_enter Try.func36, Try.ntmps36
  go_wp2
  go_ret
  exact ⟨rfl, (by repeat' (first | exact Below.refl _ _ | (refine Below.alloc ?_ ?_ _) | (refine Below.setCell ?_ ?_ _) | (refine Below.drew ?_) | (refine below_next ?_ ?_ (by assumption)) | omega | (simp; done) | (simp; omega)))⟩
set_option maxRecDepth 100000 in
set_option maxHeartbeats 6400000 in
theorem rWrite_c (A : Option Addr) (n cap : Nat) (r : Nat → Int × Int) (a b x y : Int) (w : World) (hn2 : n ≤ 1000) (hr : CR w A n r) :
    Calls Try.prog 18 #[.slice A n cap, .agg #[.int .i64 a, .int .i64 b], .agg #[.int .i64 x, .int .i64 y]] w (NewI n (writeC r a b x y) w) := by
  have HR := Lib.hid hr
  clear hr
  go_enter Try.func18, Try.ntmps18
  go_upto_region 1 with fail
  refine at_world (fun W => Hid (Below w.heap.size w W ∧ W.heap.size = w.heap.size + 1 + 1 ∧ Bx w.heap.size W a b ∧ Bx (w.heap.size + 1) W x y)) ?_ ?_
  · have h2 := Bx.new (w.alloc (.cells #[.int .i64 a, .int .i64 b] 26)) 26 x y
    have e2 : (w.alloc (.cells #[.int .i64 a, .int .i64 b] 26)).heap.size = w.heap.size + 1 := by simp
    rw [e2] at h2
    exact Lib.hid ⟨(by repeat' (first | exact Below.refl _ _ | (refine Below.alloc ?_ ?_ _) | (refine Below.setCell ?_ ?_ _) | (refine Below.drew ?_) | (refine below_next ?_ ?_ (by assumption)) | omega | (simp; done) | (simp; omega))), by simp, (Bx.new w _ a b).below ((Below.refl _ _).alloc (Nat.le_refl _) _), h2⟩
  intro W0 H0
  have hcr : CR (W0.alloc (.cells #[] 26)) A n r := (HR.out.below H0.out.1).below ((Below.refl _ _).alloc (Nat.le_refl _) _)
  go_upto_region 2 with (at_builtin; refine wpList_append_itv rfl _ _ rfl W0.heap.size (.slice (some ⟨W0.heap.size, 0, none⟩) 0 0) 0 [] (by rfl) (ownI_empty W0 26 2) A n cap r (by rfl) hcr (by omega) (by omega) (by simp) ?_; intro v' w1 hown hg hat)
  have hb : Below W0.heap.size W0 w1 := ((Below.refl _ _).alloc (Nat.le_refl _) _).grown hg (by simp) (by rintro k hk; simp [Value.ownBlock] at hk; omega)
  simp only [Nat.zero_add, List.nil_append] at hown
  obtain ⟨A', c, rfl, ho⟩ := OI.of hown
  refine at_world (fun W => Hid (WrIn w A' n c a b x y r W)) (Lib.hid ⟨below_next H0.out.1 H0.out.1.size hb, by have := H0.out.2.1; rw [this] at ho; exact ho, H0.out.2.2.1.below hb, H0.out.2.2.2.below hb⟩) ?_
  obtain ⟨b9, hb9⟩ : ∃ b, W0.heap.size = b := ⟨_, rfl⟩
  simp only [hb9]
  clear ho hb H0 HR hown hg hat hcr hb9 w1 W0
  intro W1 H1
  have hmax := H1.out.2.1.max
  go_wp2_with fail
  go_loopw [8] (fun v wr => ∃ k : Nat, k ≤ n ∧ v = .int .i64 k ∧ WrIn w A' n c a b x y (midI (writeC r a b x y) r k) wr) (fun v _ => n - (intOf v).toNat)
  case atStart => exact ⟨0, by omega, rfl, H1.out.congr (fun i _ => by unfold midI; rw [if_neg (by omega)])⟩
  case round =>
    obtain ⟨k, hk, rfl, hi⟩ := hrel
    have HI := Lib.hid hi
    clear hi H1
    obtain ⟨wo, rfl⟩ : ∃ wo : World, wo = wr := ⟨_, rfl⟩
    by_cases hlt : k < n
    · have hk0 : (0 : Int) ≤ (k : Int) := by omega
      have hk1 : (k : Int) < (n : Int) := by omega
      have k3 := HI.out.2.2.1.2.1
      by_cases hin : a ≤ (k : Int) ∧ (k : Int) ≤ b
      · have LH := fun W => riHas_c a b k W
        rw [decide_eq_true hin] at LH
        by_cases hab : a = b
        · have HN : Hid (writeC r a b x y k = toldI x y) := Lib.hid (by unfold writeC; rw [if_pos hin, if_pos hab])
          obtain ⟨z, hz⟩ : ∃ z, toldI x y = z := ⟨_, rfl⟩
          have LJ := fun W => riNorm_c x y W
          have L1 := fun W => riOne_c a b W
          rw [decide_eq_true hab] at L1
          simp only [hz] at LJ
          rw [hz] at HN
          clear hin hz hab
          go_upto_region 6 with (first | (go_at_call 34; refine (LH _).mono ?_; rintro e w3 ⟨rfl, hb3⟩; have H3 := Lib.hid (HI.out.below hb3); have k3b := H3.out.2.2.1.2.1; clear hb3) | (go_at_call 36; refine (L1 _).mono ?_; rintro e w4 ⟨rfl, hb4⟩; have H4 := Lib.hid (H3.out.below hb4); clear hb4))
          have k5 := H4.out.2.2.2.2.1
          obtain ⟨g, rfl, _⟩ := H4.out.2.1.at hlt
          clear k3 k3b H3 HI
          go_wp2_with (go_at_call 37; refine (LJ _).mono ?_; rintro e w5 ⟨rfl, hb5⟩; have H5 := Lib.hid (H4.out.below hb5); obtain ⟨g', e', _, _, c0, c1, f0, f1⟩ := H5.out.2.1.at hlt; injection e' with e'; injection e' with e'; subst e')
          all_goals exact ⟨⟨k + 1, by omega, by go_num, (H5.out.put hlt z).congr (fun i _ => midI_step HN.out i)⟩, by simp [intOf]; omega⟩
        · obtain ⟨p, hp⟩ : ∃ p, r k = p := ⟨_, rfl⟩
          have HN : Hid (writeC r a b x y k = joinI p.1 p.2 x y) := Lib.hid (by unfold writeC; rw [if_pos hin, if_neg hab, hp])
          obtain ⟨z, hz⟩ : ∃ z, joinI p.1 p.2 x y = z := ⟨_, rfl⟩
          have LJ := fun W => riJoin_c p.1 p.2 x y W
          have L1 := fun W => riOne_c a b W
          rw [decide_eq_false hab] at L1
          simp only [hz] at LJ
          rw [hz] at HN
          clear hin hz hab
          go_upto_region 7 with (first | (go_at_call 34; refine (LH _).mono ?_; rintro e w3 ⟨rfl, hb3⟩; have H3 := Lib.hid (HI.out.below hb3); have k3b := H3.out.2.2.1.2.1; clear hb3) | (go_at_call 36; refine (L1 _).mono ?_; rintro e w4 ⟨rfl, hb4⟩; have H4 := Lib.hid (H3.out.below hb4); clear hb4))
          have k5 := H4.out.2.2.1.2.1
          clear k3 k3b H3 HI
          go_upto_region 8 with (go_at_call 34; refine (LH _).mono ?_; rintro e w5 ⟨rfl, hb5⟩)
          refine at_world (fun W => Hid (WrIn w A' n c a b x y (midI (writeC r a b x y) r k) W)) (Lib.hid (H4.out.below hb5)) ?_
          clear k5 H4 hb5 w5
          intro W3 H3
          obtain ⟨g, rfl, _, _, c0, c1, _, _⟩ := H3.out.2.1.at hlt
          rw [midI_at, hp] at c0 c1
          have d0 := fun (x' : WIn (Below W3.heap.size W3)) => cell_later x'.h c0
          have d1 := fun (x' : WIn (Below W3.heap.size W3)) => cell_later x'.h c1
          have d4 := fun (x' : WIn (Below W3.heap.size W3)) => (H3.out.2.2.2.below x'.h).2.1
          clear c0 c1
          refine region_tail 8 (Below W3.heap.size W3) (by kernel_rfl) (by kernel_rfl) (Below.refl _ _).drew (fun inst => ?_)
          simp only [List.take_succ_cons, List.take_zero, List.drop_succ_cons, List.drop_zero]
          iterate 8 (go_big_quiet_step ((go_at_call 35; exact call_grow (Nat.le_refl _) (LJ _))))
          refine wpQuiet_nil ?_
          intro wd hbd
          have H4 := Lib.hid (H3.out.below hbd)
          obtain ⟨g', e', _, _, c0, c1, f0, f1⟩ := H4.out.2.1.at hlt
          injection e' with e'
          injection e' with e'
          subst e'
          clear d0 d1 d4
          go_wp2_with fail
          all_goals exact ⟨⟨k + 1, by omega, by go_num, (H4.out.put hlt z).congr (fun i _ => midI_step HN.out i)⟩, by simp [intOf]; omega⟩
      · have LH := fun W => riHas_c a b k W
        rw [decide_eq_false hin] at LH
        have HN : Hid (writeC r a b x y k = r k) := Lib.hid (by unfold writeC; rw [if_neg hin])
        clear hin
        go_upto_region 7 with (go_at_call 34; refine (LH _).mono ?_; rintro e w3 ⟨rfl, hb3⟩; have H3 := Lib.hid (HI.out.below hb3); have k3b := H3.out.2.2.1.2.1; clear hb3)
        clear HI k3
        go_wp2_with (go_at_call 34; refine (LH _).mono ?_; rintro e w4 ⟨rfl, hb4⟩; have H4 := Lib.hid (H3.out.below hb4); clear hb4)
        all_goals exact ⟨⟨k + 1, by omega, by go_num, H4.out.congr (fun i _ => midI_keep HN.out i)⟩, by simp [intOf]; omega⟩
    · obtain rfl : k = n := by omega
      clear hk hlt
      go_wp2_with fail
      go_ret
      exact ⟨A', c, rfl, (HI.out.2.1.mono (by omega)).congr (fun i hi => by unfold midI; rw [if_pos hi]), HI.out.1⟩
end Go.Proofs.Ytkeofaklkbjnkaa.C
