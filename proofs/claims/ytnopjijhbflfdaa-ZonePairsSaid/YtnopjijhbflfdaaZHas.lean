/- zone.Has and the reference's HasZone: walks. -/
import Derived.Test.YtnopjijhbflfdaaZBuild
import Derived.Test.YtnopjijhbflfdaaZSound
import Derived.Test.YtnopjijhbflfdaaSrc
namespace Go.Proofs.Ytnopjijhbflfdaa.C
open Go.RowKit
set_option linter.unusedSimpArgs false
set_option linter.unusedVariables false
/-- nought, and the numbers. -/
def ext (f : Nat → Int) : Nat → Int := fun i => if i = 0 then 0 else f (i - 1)
def hasZ (f : Nat → Int) (k : Nat) (m : Z.M) (n : Nat) : Bool := decide (k + 1 = n ∧ ∀ i, i < n → ∀ j, j < n → m i j < 1099511627776 → ext f i - ext f j ≤ m i j)
theorem hasZ_true {f : Nat → Int} {k n : Nat} {m : Z.M} (h : k + 1 = n) (hk : Z.Keeps (ext f) m n) : hasZ f k m n = true := decide_eq_true ⟨h, fun i hi j hj => hk i j hi hj⟩
theorem hasZ_false {f : Nat → Int} {k n : Nat} {m : Z.M} (h : ¬ (k + 1 = n ∧ Z.Keeps (ext f) m n)) : hasZ f k m n = false := decide_eq_false (fun q => h ⟨q.1, fun i j hi hj => q.2 i hi j hj⟩)
theorem ext_list (f : Nat → Int) (k : Nat) : [Value.int .i64 0] ++ ((List.range k).map fun j => Value.int .i64 (f j)) = (List.range (k + 1)).map fun j => Value.int .i64 (ext f j) := by
  rw [List.range_succ_eq_map, List.map_cons, List.map_map]
  rfl
theorem RowC.lies {w : World} {A : Option Addr} {n : Nat} {f : Nat → Int} (h : RowC w A n f) : Lies w A n ((List.range n).map fun j => Value.int .i64 (f j)) := fun h0 => by
  obtain ⟨a, e, hc⟩ := h.2 h0
  refine ⟨a, e, fun j u hu => ?_⟩
  have hj : j < n := by
    rcases Nat.lt_or_ge j n with h | h
    · exact h
    · simp [h] at hu
  simp [hj] at hu
  rw [← hu]
  exact hc j hj
theorem own_single (w : World) (e : TypeId) (v : Value) : (w.alloc (.cells #[v] e)).ownsRow w.heap.size e 1 (.slice (some ⟨w.heap.size, 0, none⟩) 1 1) 1 [v] :=
  ⟨rfl, .inr ⟨w.heap.size, 1, #[v], rfl, Nat.le_refl _, by simpa using heap_alloc_new w (.cells #[v] e), Nat.le_refl _, by simp [maxLen], rfl, rfl⟩⟩
/-- x, the numbers behind a nought. -/
def ExtIn (w : World) (g k : Nat) (f : Nat → Int) : Prop := g < w.heap.size ∧ ∀ j, j < k + 1 → w.cell? ⟨g, j, none⟩ = some (.int .i64 (ext f j))
theorem ExtIn.below {w w' : World} {g k : Nat} {f : Nat → Int} (h : ExtIn w g k f) (hb : Below w.heap.size w w') : ExtIn w' g k f :=
  ⟨Nat.lt_of_lt_of_le h.1 hb.size, fun j hj => (hb.cell (p := ⟨g, j, none⟩) h.1).trans (h.2 j hj)⟩
set_option maxRecDepth 100000 in
set_option maxHeartbeats 6400000 in
theorem zhas_c (a : Addr) (n cap : Nat) (m : Z.M) (A : Option Addr) (k c : Nat) (f : Nat → Int) (w : World) (hn : 1 ≤ n) (hn2 : n ≤ 1000) (hm : RM w a n m) (hr : RowC w A k f) (hk2 : k ≤ 1000)
    (hf : ∀ j, j < k → -2251799813685248 ≤ f j ∧ f j ≤ 2251799813685248) :
    Calls Try.prog 15 #[.agg #[.slice (some a) n cap], .slice A k c] w (BoolPost (hasZ f k m n) w) := by
  have HM := Lib.hid hm
  have HR := Lib.hid hr
  have HF : Hid (∀ j, j < n → k + 1 = n → -2251799813685248 ≤ ext f j ∧ ext f j ≤ 2251799813685248) := Lib.hid (fun j hj e => by
    unfold ext
    split
    · omega
    · exact hf _ (by omega))
  obtain ⟨i0, hi, hz⟩ := Option.map_eq_some_iff.1 infoI
  simp only [Prod.mk.injEq] at hz
  have HI := Lib.hid (And.intro hi hz)
  clear hm hr hf hi hz
  by_cases e : k + 1 = n
  · have g1 : ((k : Int) != (n : Int) - 1) = false := by simp; omega
    have HE := Lib.hid e
    clear e
    go_enter Try.func15, Try.ntmps15
    go_upto_region 1 with fail
    refine at_world (fun W => Hid (Below w.heap.size w W ∧ w.heap.size < W.heap.size) ∧ (∀ o, W.cell? ⟨w.heap.size, o, none⟩ = [Value.slice (some a) n cap][o]?)) ⟨Lib.hid ⟨(by repeat' (first | exact Below.refl _ _ | (refine Below.alloc ?_ ?_ _) | (refine Below.setCell ?_ ?_ _) | (refine Below.drew ?_) | (refine below_next ?_ ?_ (by assumption)) | omega | (simp; done) | (simp; omega))), by simp⟩, (by intro o; simp [go_sem])⟩ ?_
    intro W0 ⟨HB0, k0⟩
    go_upto_region 4 with (at_builtin; refine wpList_append_src _ rfl (.tmp 17) (.tmp 18) 30 rfl W0.heap.size 3 i0 (.int .i64 0) 1 8 Try.underlying30 HI.out.1 HI.out.2.1 HI.out.2.2.1 HI.out.2.2.2 rfl (by omega) (.slice (some ⟨W0.heap.size, 0, none⟩) 1 1) 1 [.int .i64 0] (by rfl) (own_single W0 3 (.int .i64 0)) A k c ((List.range k).map fun j => Value.int .i64 (f j)) (by rfl) (by simp) ((HR.out.lies.below HB0.out.1).below ((Below.refl _ _).alloc (Nat.le_refl _) _)) (by simp [Value.oneCell']) (by unfold maxLen; omega) (by omega) (by simp) ?_; intro v1 w1 hown hg hat)
    have hb : Below W0.heap.size W0 w1 := ((Below.refl _ _).alloc (Nat.le_refl _) _).grown hg (by simp) (by rintro k hk; simp [Value.ownBlock] at hk; omega)
    rw [ext_list, Nat.add_comm] at hown
    obtain ⟨g, c2, rfl, q1, q2, q3, q4, q5⟩ := own_row hown (by omega)
    refine at_world (fun W => Hid (Below w.heap.size w W ∧ w.heap.size < W.heap.size ∧ ExtIn W g k f) ∧ (∀ o, W.cell? ⟨w.heap.size, o, none⟩ = [Value.slice (some a) n cap][o]?)) ⟨Lib.hid ⟨below_next HB0.out.1 HB0.out.1.size hb, Nat.lt_of_lt_of_le HB0.out.2 hb.size, q2, q4⟩, fun o => (hb.cell (p := ⟨w.heap.size, o, none⟩) HB0.out.2).trans (k0 o)⟩ ?_
    clear hb hown q1 q2 q3 q4 q5 hg hat k0 HB0 HR HI
    intro W1 ⟨HB1, k1⟩
    go_wp2_with fail
    clear k1
    go_loopw [23] (fun i wr => ∃ q : Nat, q ≤ n ∧ i = .int .i64 q ∧ Hid (∀ i j, i < q → j < n → m i j < 1099511627776 → ext f i - ext f j ≤ m i j) ∧ Below W1.heap.size W1 wr) (fun i _ => n - (intOf i).toNat)
    case atStart => exact ⟨0, by omega, rfl, Lib.hid (fun i j hi => absurd hi (by omega)), Below.refl _ _⟩
    case round =>
      obtain ⟨q, hq, rfl, HK, hb⟩ := hrel
      have HB := Lib.hid hb
      have HW := Lib.hid (HB1.out.1.trans (hb.mono HB1.out.1.size))
      have HX := Lib.hid (HB1.out.2.2.below hb)
      clear hb
      by_cases hlt : q < n
      · obtain ⟨R, C, h1, h2⟩ := HM.out.below HW.out
        have c1 := (h1 q hlt).1
        have HROW := Lib.hid (fun j (hj : j < n) => h2 q j hlt hj)
        have hq0 : (0 : Int) ≤ (q : Int) := by omega
        have hq1 : (q : Int) < (n : Int) := by omega
        clear h1 h2
        obtain ⟨wo, rfl⟩ : ∃ wo : World, wo = wr := ⟨_, rfl⟩
        go_wp2_with fail
        clear c1
        go_loopw [30] (fun i wr => ∃ t : Nat, t ≤ n ∧ i = .int .i64 t ∧ Hid (∀ j, j < t → m q j < 1099511627776 → ext f q - ext f j ≤ m q j) ∧ Below wo.heap.size wo wr) (fun i _ => n - (intOf i).toNat)
        case atStart => exact ⟨0, by omega, rfl, Lib.hid (fun j hj => absurd hj (by omega)), Below.refl _ _⟩
        case round =>
          obtain ⟨t, ht, rfl, HL, hb⟩ := hrel
          have HBi := Lib.hid hb
          by_cases hlu : t < n
          · have c2 := cell_later hb (HROW.out t hlu)
            have HX2 := HX.out.below hb
            have d1 := fun (x : WIn (Below wr.heap.size wr)) => cell_later x.h (HX2.2 q (by have := HE.out; omega))
            have d2 := fun (x : WIn (Below wr.heap.size wr)) => cell_later x.h (HX2.2 t (by have := HE.out; omega))
            have b1 := HF.out q hlt HE.out
            have b2 := HF.out t hlu HE.out
            have ht0 : (0 : Int) ≤ (t : Int) := by omega
            have ht1 : (t : Int) < (n : Int) := by omega
            have hq2 : (q : Int) < ((k + 1 : Nat) : Int) := by have := HE.out; omega
            have ht2 : (t : Int) < ((k + 1 : Nat) : Int) := by have := HE.out; omega
            obtain ⟨x, hx⟩ : ∃ x, m q t = x := ⟨_, rfl⟩
            obtain ⟨y, hy⟩ : ∃ x, ext f q = x := ⟨_, rfl⟩
            obtain ⟨z, hz⟩ : ∃ x, ext f t = x := ⟨_, rfl⟩
            rw [hx] at c2
            rw [hy] at b1
            rw [hz] at b2
            simp only [hy] at d1
            simp only [hz] at d2
            have HV := Lib.hid (And.intro hx (And.intro hy hz))
            clear hx hy hz HX2 hb
            obtain ⟨wi, rfl⟩ : ∃ wi : World, wi = wr := ⟨_, rfl⟩
            by_cases cx : x < 1099511627776
            · have g2 : decide (x < 1099511627776) = true := decide_eq_true cx
              by_cases cd : x < y - z
              · have g3 : decide (x < y - z) = true := decide_eq_true cd
                have e0 : Hid (hasZ f k m n = false) := Lib.hid (hasZ_false (fun h => by have := h.2 q t hlt hlu; rw [HV.out.1, HV.out.2.1, HV.out.2.2] at this; have := this cx; omega))
                clear cx cd
                go_upto_region 10 with fail
                refine region_in (Below wi.heap.size wi) (by kernel_rfl) (by kernel_rfl) (Below.refl _ _).drew (fun inst => ?_)
                iterate 15 (go_big_quiet_step (fail))
                refine wpQuiet_nil ?_
                intro wd hbd
                clear d1 d2 c2
                go_wp2_with fail
                go_ret
                exact ⟨by rw [e0.out]; rfl, below_next HW.out HW.out.size (HBi.out.trans (hbd.mono HBi.out.size))⟩
              · have g3 : decide (x < y - z) = false := decide_eq_false cd
                have HL2 : Hid (∀ j, j < t + 1 → m q j < 1099511627776 → ext f q - ext f j ≤ m q j) := Lib.hid (fun j hj => by
                  by_cases w : j = t
                  · subst w; rw [HV.out.1, HV.out.2.1, HV.out.2.2]; intro _; omega
                  · exact HL.out j (by omega))
                clear cx cd
                go_upto_region 10 with fail
                refine region_in (Below wi.heap.size wi) (by kernel_rfl) (by kernel_rfl) (Below.refl _ _).drew (fun inst => ?_)
                iterate 15 (go_big_quiet_step (fail))
                refine wpQuiet_nil ?_
                intro wd hbd
                clear d1 d2 c2
                go_wp2_with fail
                all_goals exact ⟨⟨t + 1, by omega, by go_num, HL2, HBi.out.trans (hbd.mono HBi.out.size)⟩, by simp [intOf]; omega⟩
            · have g2 : decide (x < 1099511627776) = false := decide_eq_false cx
              have HL2 : Hid (∀ j, j < t + 1 → m q j < 1099511627776 → ext f q - ext f j ≤ m q j) := Lib.hid (fun j hj => by
                by_cases w : j = t
                · subst w; rw [HV.out.1]; intro w; omega
                · exact HL.out j (by omega))
              clear cx
              go_upto_region 10 with fail
              refine region_in (Below wi.heap.size wi) (by kernel_rfl) (by kernel_rfl) (Below.refl _ _).drew (fun inst => ?_)
              iterate 15 (go_big_quiet_step (fail))
              refine wpQuiet_nil ?_
              intro wd hbd
              clear d1 d2 c2
              go_wp2_with fail
              all_goals exact ⟨⟨t + 1, by omega, by go_num, HL2, HBi.out.trans (hbd.mono HBi.out.size)⟩, by simp [intOf]; omega⟩
          · obtain rfl : t = n := by omega
            have HK2 : Hid (∀ i j, i < q + 1 → j < t → m i j < 1099511627776 → ext f i - ext f j ≤ m i j) := Lib.hid (fun i j hi hj => by
              by_cases w : i = q
              · subst w; exact HL.out j hj
              · exact HK.out i j (by omega) hj)
            clear hb ht hlu
            go_wp2_with fail
            all_goals exact ⟨⟨q + 1, by omega, by go_num, HK2, HB.out.trans (HBi.out.mono HB.out.size)⟩, by simp [intOf]; omega⟩
      · obtain rfl : q = n := by omega
        have e0 : Hid (hasZ f k m q = true) := Lib.hid (hasZ_true HE.out (fun i j hi hj => HK.out i j hi hj))
        clear hq hlt
        go_wp2_with fail
        go_ret
        exact ⟨by rw [e0.out]; rfl, HW.out⟩
  · have g1 : ((k : Int) != (n : Int) - 1) = true := by simp; omega
    have e0 : Hid (hasZ f k m n = false) := Lib.hid (hasZ_false (fun h => e h.1))
    clear e
    go_enter Try.func15, Try.ntmps15
    go_upto_region 1 with fail
    refine at_world (fun W => Hid (Below w.heap.size w W ∧ w.heap.size < W.heap.size) ∧ (∀ o, W.cell? ⟨w.heap.size, o, none⟩ = [Value.slice (some a) n cap][o]?)) ⟨Lib.hid ⟨(by repeat' (first | exact Below.refl _ _ | (refine Below.alloc ?_ ?_ _) | (refine Below.setCell ?_ ?_ _) | (refine Below.drew ?_) | (refine below_next ?_ ?_ (by assumption)) | omega | (simp; done) | (simp; omega))), by simp⟩, (by intro o; simp [go_sem])⟩ ?_
    intro W0 ⟨HB0, k0⟩
    go_wp2_with fail
    go_ret
    exact ⟨by rw [e0.out]; rfl, HB0.out.1⟩
end Go.Proofs.Ytnopjijhbflfdaa.C
