/- errors.Is at the lexer's errors; lex.told: walks. -/
import Derived.Test.YtfdlkbkheginlaaDoorWords
import Derived.Test.YtfdlkbkheginlaaDoorChecked
import Derived.WalkKit
import Derived.LaidEql
import Derived.Stop.Asserts
import Derived.RowKitTokens
import Derived.Lib.Hide
namespace Go.Proofs.YtfdlkbkheginlaaDoor.C
open Go.RowKit Go.Extern.Stop Go.Stop Go.Extern
set_option linter.unusedSimpArgs false
set_option linter.unusedVariables false
theorem isTypeOf (v : Value) (w : World) : (Extern.ReflectliteType.typeOf #[.iface 80 v]).run Tryd.prog w = .ok (.iface 70 (.agg #[.pointer (some ⟨3, 80, none⟩)])) w := by kernel_rfl
def cmpF : TypeId → Sem Value := fun t => do Extern.Rtype.noPackHeld "Comparable" t; pure (.bool (← typeInfo t).comparable)
theorem isComparable (w : World) : (Extern.ReflectliteType.method cmpF #[.agg #[.pointer (some ⟨3, 80, none⟩)]]).run Tryd.prog w = .ok (.bool true) w := by kernel_rfl
theorem isMethodComparable (v : Value) (w : World) : (Go.method 217 70 v "Comparable").run Tryd.prog w = .ok (60, v) w := by kernel_rfl
theorem isComp : (Tryd.prog.info? 80).map (·.comparable) = some true := by kernel_rfl
theorem isSize : (Tryd.prog.info? 105).map (·.size) = some 1 := by kernel_rfl
theorem noIsE (v : Value) (xT : TypeId) (w : World) : (Instr.typeAssert (.iface 80 v) xT 72 true).run Tryd.prog w = .ok (.tuple #[.nilIface, .bool false]) w := run_typeAssert_lacksB Tryd.underlying72 (by kernel_rfl) (by kernel_rfl) v xT w
theorem noUnwrapE (v : Value) (xT : TypeId) (w : World) : (Instr.typeAssert (.iface 80 v) xT 75 true).run Tryd.prog w = .ok (.tuple #[.nilIface, .bool false]) w := run_typeAssert_lacksB Tryd.underlying75 (by kernel_rfl) (by kernel_rfl) v xT w
theorem noUnwrapsE (v : Value) (xT : TypeId) (w : World) : (Instr.typeAssert (.iface 80 v) xT 77 true).run Tryd.prog w = .ok (.tuple #[.nilIface, .bool false]) w := run_typeAssert_lacksB Tryd.underlying77 (by kernel_rfl) (by kernel_rfl) v xT w
theorem noIsW (v : Value) (xT : TypeId) (w : World) : (Instr.typeAssert (.iface 49 v) xT 72 true).run Tryd.prog w = .ok (.tuple #[.nilIface, .bool false]) w := run_typeAssert_lacksB Tryd.underlying72 (by kernel_rfl) (by kernel_rfl) v xT w
theorem hasUnwrapW (v : Value) (xT : TypeId) (w : World) : (Instr.typeAssert (.iface 49 v) xT 75 true).run Tryd.prog w = .ok (.tuple #[.iface 49 v, .bool true]) w := run_typeAssert_hasB Tryd.underlying75 (by kernel_rfl) v xT w
theorem methodUnwrap (v : Value) (w : World) : (Go.method 217 49 v "Unwrap").run Tryd.prog w = .ok (56, v) w := by kernel_rfl
/-- errors.Is(nil, x). -/
theorem is_nil (b : Addr) (w : World) :
    Calls Tryd.prog 24 #[.nilIface, .iface 80 (.pointer (some b))] w fun e w' => e = .returned (.bool false) ∧ w' = w := by
  have hn := run_eql_iface_nil_left (P := Tryd.prog) w 80 (.pointer (some b)) Tryd.underlying43
  go_enter Tryd.func24, Tryd.ntmps24
  go_wp2
  go_ret
  exact ⟨rfl, rfl⟩
set_option maxHeartbeats 1000000 in
/-- errors.Is(e, x), e a wrap of x. -/
theorem is_wrap_same (pb : Nat) (b : Addr) (w : World) (h1 : w.cell? ⟨pb, 1, none⟩ = some (.iface 80 (.pointer (some b)))) :
    Calls Tryd.prog 24 #[.iface 49 (.pointer (some ⟨pb, 0, none⟩)), .iface 80 (.pointer (some b))] w fun e w' => e = .returned (.bool true) ∧ w' = w := by
  obtain ⟨i, hi, hcmp⟩ := Option.map_eq_some_iff.1 isComp
  obtain ⟨j, hj, hjs⟩ := Option.map_eq_some_iff.1 isSize
  have h8 := @run_callFunc_extern Tryd.prog 30 _ Extern.ReflectliteType.typeOf Tryd.func30 (by kernel_rfl) (by kernel_rfl) (by kernel_rfl) (by kernel_rfl)
  have h32 := @run_callFunc_extern Tryd.prog 60 _ (Extern.ReflectliteType.method cmpF) Tryd.func60 (by kernel_rfl) (by kernel_rfl) (by kernel_rfl) (by kernel_rfl)
  have tT := isTypeOf
  have cT := isComparable
  have mR := isMethodComparable
  have nE := noIsE
  have uE := noUnwrapE
  have vE := noUnwrapsE
  have nW := noIsW
  have uW := hasUnwrapW
  have mU := methodUnwrap
  have heq := run_eql_iface_ptr_same (P := Tryd.prog) w b Tryd.underlying43 Tryd.underlying80 hi hcmp hj
  have hty := run_eql_iface_types (P := Tryd.prog) 49 80 (.pointer (some ⟨pb, 0, none⟩)) (.pointer (some b)) Tryd.underlying43 (by decide) w
  go_enter Tryd.func24, Tryd.ntmps24
  go_wp2
  refine wp_loop_rounds 2 ?_
  rw [rounds_succ]
  go_wp2
  rw [rounds_succ]
  go_wp2
  go_ret
  exact ⟨rfl, rfl⟩
set_option maxHeartbeats 1000000 in
/-- errors.Is(e, x), e a wrap of another error. -/
theorem is_wrap_other (pb : Nat) (a b : Addr) (ca cb : Array Value) (ta tb : TypeId) (w : World) (h1 : w.cell? ⟨pb, 1, none⟩ = some (.iface 80 (.pointer (some a)))) (hne : a ≠ b) (ha : w.heap[a.block]? = some (.cells ca ta (0, 0))) (hb : w.heap[b.block]? = some (.cells cb tb (0, 0))) :
    Calls Tryd.prog 24 #[.iface 49 (.pointer (some ⟨pb, 0, none⟩)), .iface 80 (.pointer (some b))] w fun e w' => e = .returned (.bool false) ∧ w' = w := by
  obtain ⟨i, hi, hcmp⟩ := Option.map_eq_some_iff.1 isComp
  obtain ⟨j, hj, hjs⟩ := Option.map_eq_some_iff.1 isSize
  have h8 := @run_callFunc_extern Tryd.prog 30 _ Extern.ReflectliteType.typeOf Tryd.func30 (by kernel_rfl) (by kernel_rfl) (by kernel_rfl) (by kernel_rfl)
  have h32 := @run_callFunc_extern Tryd.prog 60 _ (Extern.ReflectliteType.method cmpF) Tryd.func60 (by kernel_rfl) (by kernel_rfl) (by kernel_rfl) (by kernel_rfl)
  have tT := isTypeOf
  have cT := isComparable
  have mR := isMethodComparable
  have nE := noIsE
  have uE := noUnwrapE
  have vE := noUnwrapsE
  have nW := noIsW
  have uW := hasUnwrapW
  have mU := methodUnwrap
  have heq := run_eql_iface_ptr_other (P := Tryd.prog) w Tryd.underlying43 Tryd.underlying80 hi hcmp hj (by rw [hjs]; decide) hne ha hb
  have hty := run_eql_iface_types (P := Tryd.prog) 49 80 (.pointer (some ⟨pb, 0, none⟩)) (.pointer (some b)) Tryd.underlying43 (by decide) w
  go_enter Tryd.func24, Tryd.ntmps24
  go_wp2
  refine wp_loop_rounds 2 ?_
  rw [rounds_succ]
  go_wp2
  rw [rounds_succ]
  go_wp2
  go_ret
  exact ⟨rfl, rfl⟩
/-- What the lexer's two errors are in a world: their variables hold pointers to two different ones. -/
structure GL (aL aW : Addr) (w : World) : Prop where
  gl : w.cell? ⟨0, 0, none⟩ = some (.iface 80 (.pointer (some aL)))
  gw : w.cell? ⟨1, 0, none⟩ = some (.iface 80 (.pointer (some aW)))
  ne : aL ≠ aW
  bl : ∃ c t, w.heap[aL.block]? = some (.cells c t (0, 0))
  bw : ∃ c t, w.heap[aW.block]? = some (.cells c t (0, 0))
theorem cell_lt {w : World} {p : Addr} {v : Value} (h : w.cell? p = some v) : p.block < w.heap.size := by
  unfold World.cell? at h
  rcases Nat.lt_or_ge p.block w.heap.size with h2 | h2
  · exact h2
  · rw [Array.getElem?_eq_none h2] at h
    cases h
theorem GL.below {aL aW : Addr} {w w' : World} (h : GL aL aW w) (hb : Below w.heap.size w w') : GL aL aW w' := by
  obtain ⟨h1, h2, h3, ⟨c, t, h4⟩, ⟨c', t', h5⟩⟩ := h
  exact ⟨(hb.cell (p := ⟨0, 0, none⟩) (cell_lt h1)).trans h1, (hb.cell (p := ⟨1, 0, none⟩) (cell_lt h2)).trans h2, h3, ⟨c, t, (hb.block _ (Array.getElem?_eq_some_iff.1 h4).1).trans h4⟩, ⟨c', t', (hb.block _ (Array.getElem?_eq_some_iff.1 h5).1).trans h5⟩⟩
/-- An error value: its number is 0 (none), 3 or 4. -/
def ErrIs (aL aW : Addr) (w : World) (v : Value) (E : Int) : Prop :=
  (E = 0 ∧ v = .nilIface) ∨ (∃ pb a, v = .iface 49 (.pointer (some ⟨pb, 0, none⟩)) ∧ w.cell? ⟨pb, 1, none⟩ = some (.iface 80 (.pointer (some a))) ∧ ((E = 3 ∧ a = aL) ∨ (E = 4 ∧ a = aW)))
theorem ErrIs.below {aL aW : Addr} {w w' : World} {v : Value} {E : Int} (h : ErrIs aL aW w v E) (hb : Below w.heap.size w w') : ErrIs aL aW w' v E := by
  rcases h with h | ⟨pb, a, e, hc, h⟩
  · exact .inl h
  · exact .inr ⟨pb, a, e, (hb.cell (p := ⟨pb, 1, none⟩) (cell_lt hc)).trans hc, h⟩
set_option maxHeartbeats 1000000 in
theorem told_c (aL aW : Addr) (v : Value) (E : Int) (w : World) (hg : GL aL aW w) (he : ErrIs aL aW w v E) :
    Calls Tryd.prog 16 #[v] w fun e w' => e = .returned (.int .i64 E) ∧ w' = w := by
  have hl := hg.gl
  have hw := hg.gw
  obtain ⟨cl, tl, hbl⟩ := hg.bl
  obtain ⟨cw, tw, hbw⟩ := hg.bw
  have hne := hg.ne
  have hne2 : aW ≠ aL := fun h => hne h.symm
  rcases he with ⟨rfl, rfl⟩ | ⟨pb, a, rfl, hc, ⟨rfl, rfl⟩ | ⟨rfl, rfl⟩⟩
  · have C1 := is_nil aL w
    have C2 := is_nil aW w
    clear hbl hbw hne hne2 hg
    go_enter Tryd.func16, Tryd.ntmps16
    go_wp2_with (first | (go_at_call 24; refine C1.mono ?_; rintro e w' ⟨rfl, rfl⟩; clear C1) | (go_at_call 24; refine C2.mono ?_; rintro e w' ⟨rfl, rfl⟩; clear C2))
    go_ret
    exact ⟨rfl, rfl⟩
  · have C1 := is_wrap_same pb a w hc
    clear hbl hbw hne hne2 hg
    go_enter Tryd.func16, Tryd.ntmps16
    go_wp2_with (first | (go_at_call 24; refine C1.mono ?_; rintro e w' ⟨rfl, rfl⟩; clear C1))
    go_ret
    exact ⟨rfl, rfl⟩
  · have C2 := is_wrap_same pb a w hc
    have C1 := is_wrap_other pb a aL _ _ _ _ w hc hne2 hbw hbl
    clear hbl hbw hne hne2 hg
    go_enter Tryd.func16, Tryd.ntmps16
    go_wp2_with (first | (go_at_call 24; refine C1.mono ?_; rintro e w' ⟨rfl, rfl⟩; clear C1) | (go_at_call 24; refine C2.mono ?_; rintro e w' ⟨rfl, rfl⟩; clear C2))
    go_ret
    exact ⟨rfl, rfl⟩
end Go.Proofs.YtfdlkbkheginlaaDoor.C
