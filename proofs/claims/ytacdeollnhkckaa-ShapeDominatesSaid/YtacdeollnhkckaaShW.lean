/- Graphs in memory: rows of one's own; shape.to: walks. -/
import Derived.Test.YtacdeollnhkckaaShP
import Derived.Test.YtacdeollnhkckaaROpen
import Derived.Test.YtacdeollnhkckaaShelf
import Derived.Test.YtacdeollnhkckaaWords
import Derived.Laws.OwnMore
import Derived.Laws.AppendOwn
import Derived.Maps.AppendAt
import Derived.Deep.Onto
import Derived.OneCell
import Derived.WalkSmall
import Derived.Lib.SliceRun
import Derived.Lib.OwnBridge
import Derived.Lib.Hide
namespace Go.Proofs.Ytacdeollnhkckaa.C
open Go.Shelf Go.RowKit Go.Lib Go.Sort
set_option linter.unusedSimpArgs false
set_option linter.unusedVariables false
theorem ownsRow_b {w w' : World} {B : Nat} {e : TypeId} {s n : Nat} {v : Value} {xs : List Value} (h : w.ownsRow B e s v n xs) (hb : Below w.heap.size w w') : w'.ownsRow B e s v n xs := by
  refine ⟨h.1, ?_⟩
  rcases h.2 with q | ⟨g, cap, cur, e, hg, hh, r⟩
  · exact .inl q
  · exact .inr ⟨g, cap, cur, e, hg, (hb.block g (Array.getElem?_eq_some_iff.1 hh).1).trans hh, r⟩
/-- A row of numbers, of yes and no, of the call's own. -/
def IL (w : World) (B : Nat) (v : Value) (l : List Int) : Prop := w.ownsRow B 3 1 v l.length (l.map (Value.int .i64))
def BL' (w : World) (B : Nat) (v : Value) (l : List Bool) : Prop := w.ownsRow B 4 1 v l.length (l.map Value.bool)
theorem IL.below {w w' : World} {B : Nat} {v : Value} {l : List Int} (h : IL w B v l) (hb : Below w.heap.size w w') : IL w' B v l := ownsRow_b h hb
theorem BL'.below {w w' : World} {B : Nat} {v : Value} {l : List Bool} (h : BL' w B v l) (hb : Below w.heap.size w w') : BL' w' B v l := ownsRow_b h hb
theorem IL.form {w : World} {B : Nat} {v : Value} {l : List Int} (h : IL w B v l) : ∃ A c, v = .slice A l.length c := by
  rcases h.2 with ⟨q, q2⟩ | ⟨g, cap, cur, e, _⟩
  · exact ⟨none, 0, by rw [q, q2]⟩
  · exact ⟨_, _, e⟩
theorem IL.some_ {w : World} {B n c : Nat} {A : Option Addr} {l : List Int} (h : IL w B (.slice A n c) l) (hl : 0 < n) : ∃ g, A = some ⟨g, 0, none⟩ ∧ B ≤ g ∧ g < w.heap.size := by
  rcases h.2 with ⟨q, _⟩ | ⟨g, cap, cur, e, hb, hh, _⟩
  · cases q; omega
  · cases e; exact ⟨g, rfl, hb, (Array.getElem?_eq_some_iff.1 hh).1⟩
theorem IL.at_ {w : World} {B g n c : Nat} {l : List Int} (h : IL w B (.slice (some ⟨g, 0, none⟩) n c) l) {i : Nat} {x : Int} (hi : l[i]? = some x) : w.cell? ⟨g, i, none⟩ = some (.int .i64 x) := by
  have hl := (List.getElem?_eq_some_iff.1 hi).1
  have e : n = l.length := by
    rcases h.2 with ⟨q, _⟩ | ⟨g, cap, cur, e, hb, hh, _⟩
    · cases q
    · cases e; rfl
  subst e
  rw [World.ownsRow.cellAt h i (by omega), List.getElem?_map, hi]
  rfl
/-- The row of a node, and what it leads to. -/
def rowL (L : Nat → Nat) (m : Nat → Nat → Int) (a : Nat) : List Int := (List.range (L a)).map (m a)
def outB (n : Nat) (x : Int) : Bool := decide (x < 0) || decide ((n : Int) ≤ x)
def toL (n : Nat) (L : Nat → Nat) (m : Nat → Nat → Int) (a : Nat) : List Int := (rowL L m a).filter (fun x => !outB n x)
def EG (n : Nat) (L : Nat → Nat) (m : Nat → Nat → Int) (a b : Nat) : Prop := a < n ∧ b < n ∧ ∃ j, j < L a ∧ m a j = (b : Int)
theorem toL_mem {n : Nat} {L : Nat → Nat} {m : Nat → Nat → Int} {a : Nat} (ha : a < n) (b : Nat) : (b : Int) ∈ toL n L m a ↔ EG n L m a b := by
  unfold toL rowL outB EG
  rw [List.mem_filter, List.mem_map]
  simp only [List.mem_range, Bool.not_eq_true', Bool.or_eq_false_iff, decide_eq_false_iff_not]
  constructor
  · rintro ⟨⟨j, h1, h2⟩, h3, h4⟩
    exact ⟨ha, by omega, j, h1, h2⟩
  · rintro ⟨_, h1, j, h2, h3⟩
    exact ⟨⟨j, h2, h3⟩, by omega, by omega⟩
theorem toL_nat {n : Nat} {L : Nat → Nat} {m : Nat → Nat → Int} {a : Nat} {x : Int} (h : x ∈ toL n L m a) : ∃ b : Nat, x = (b : Int) ∧ b < n := by
  unfold toL outB at h
  rw [List.mem_filter] at h
  have h2 := h.2
  simp only [Bool.not_eq_true', Bool.or_eq_false_iff, decide_eq_false_iff_not] at h2
  exact ⟨x.toNat, by omega, by omega⟩
theorem toL_len {n : Nat} {L : Nat → Nat} {m : Nat → Nat → Int} {a : Nat} : (toL n L m a).length ≤ L a := by
  have := List.length_filter_le (fun x => !outB n x) (rowL L m a)
  unfold rowL at this
  rw [List.length_map, List.length_range] at this
  exact this
def ToPost (l : List Int) (w : World) (e : Ending) (w' : World) : Prop := ∃ B c, e = .returned (.slice B l.length c) ∧ IL w' w.heap.size (.slice B l.length c) l ∧ Below w.heap.size w w'
theorem spot_none {w : World} {p : Addr} {v : Value} (h : w.cell? p = some v) : p = ⟨p.block, p.off, none⟩ := by
  obtain ⟨b, o, sp⟩ := p
  cases sp with
  | none => rfl
  | some x =>
    unfold World.cell? at h
    simp only [Option.isSome_some, if_true] at h
    split at h <;> cases h
theorem add_plain (b o j : Nat) : (⟨b, o, none⟩ : Addr).add j = ⟨b, o + j, none⟩ := by unfold Addr.add; split <;> simp_all
/-- The closure of to. -/
theorem to1_c (n cap : Nat) (A : Option Addr) (x : Int) (D : Nat) (W : World) (hc : W.cell? ⟨D, 0, none⟩ = some (.slice A n cap)) :
    FnGives Try.prog 37 #[.pointer (some ⟨D, 0, none⟩)] #[.int .i64 x] (.bool (outB n x)) W := by
  show Calls Try.prog 37 #[.int .i64 x, .pointer (some ⟨D, 0, none⟩)] W _
  by_cases h1 : x < 0
  · have hd : decide (x < 0) = true := decide_eq_true h1
    have ho : outB n x = true := by unfold outB; rw [hd]; rfl
    rw [ho]
    go_enter Try.func37, Try.ntmps37
    go_wp2
    all_goals (go_ret; exact ⟨by simp_all, 0, rfl⟩)
  · have hd : decide (x < 0) = false := decide_eq_false h1
    have ho : outB n x = decide ((n : Int) ≤ x) := by unfold outB; rw [hd]; rfl
    rw [ho]
    go_enter Try.func37, Try.ntmps37
    go_wp2
    all_goals (go_ret; exact ⟨by simp_all, 0, rfl⟩)
theorem del0_c (A : Option Addr) (c : Nat) (f : Nat) (lb : Array Value) (w : World) : Calls Try.prog 35 #[.slice A 0 c, .func (.func f) #[] lb] w fun e w' => e = .returned (.slice A 0 c) ∧ w = w' := by
  have HI : Calls Try.prog 40 #[.slice A 0 c, .func (.func f) #[] lb] w fun e w' => e = .returned (.int .i64 (-1)) ∧ w = w' := by
    go_enter Try.func40, Try.ntmps40
    go_wp2_with fail
    go_loop [8] (fun i => i = .int .i64 0) (fun _ => 0)
    case atStart => exact rfl
    case round =>
      obtain rfl := hrel
      go_wp2_with fail
      go_ret
      exact ⟨rfl, rfl⟩
  go_enter Try.func35, Try.ntmps35
  go_wp2_with (go_at_call 40; refine HI.mono ?_; rintro e w' ⟨rfl, rfl⟩)
  go_ret
  exact ⟨rfl, rfl⟩
theorem enters_to1 : ∀ args w, (callFunc 37 args).run Try.prog w = .ok (.enter 37 args) w := enters_of Try.func37 (by kernel_rfl) rfl
theorem del_c (n cap0 : Nat) (A : Option Addr) (D g c : Nat) (l : List Int) (B : Nat) (w : World) (hD : D < w.heap.size) (hc : w.cell? ⟨D, 0, none⟩ = some (.slice A n cap0)) (hne : D ≠ g) (hB : B ≤ g) (h : IL w B (.slice (some ⟨g, 0, none⟩) l.length c) l) :
    Calls Try.prog 35 #[.slice (some ⟨g, 0, none⟩) l.length c, .func (.func (37)) #[] #[.pointer (some ⟨D, 0, none⟩)]] w fun e w' =>
      e = .returned (.slice (some ⟨g, 0, none⟩) (l.filter fun x => !outB n x).length c) ∧ IL w' B (.slice (some ⟨g, 0, none⟩) (l.filter fun x => !outB n x).length c) (l.filter fun x => !outB n x) ∧ Below B w w' := by
  obtain ⟨g', cap, e, hb, hlt, hn, hm, hl, hH⟩ := holds_of_ownsRow h (by intro e; cases e)
  cases e
  have hf := List.length_filter_le (fun x => !outB n x) l
  have key := AnyE.slices_DeleteFunc Try.l10 (Value.int .i64) (fun _ => rfl) (outB n) 37 #[.pointer (some ⟨D, 0, none⟩)] enters_to1 0 Try.zeroValue3 g 0 c l.toArray w
    (fun W x hb => to1_c n cap0 A x D W ((hb.cell (p := ⟨D, 0, none⟩) hD).trans hc))
    (fun q os dk x _ => to1_c n cap0 A x D _ (by
      unfold sortWorld
      rw [cell?_grow _ _ _ (by show D < (putRow _ _ _ _ _).heap.size; rw [size_putRow]; exact hD), cell?_putRow_other _ _ g 0 _ _ (Or.inl hne)]
      exact hc)) hH (by unfold maxLen at hm; simp; omega) (by simpa using hn)
  simp only [List.size_toArray] at key
  change Calls Try.prog 35 _ _ _ at key
  refine key.mono ?_
  rintro e w' ⟨he, q, rfl⟩
  refine ⟨he, ?_, below_putRow (Below.refl _ _ |>.mono (by omega)) hB⟩
  have := ownsRow_putRow (enc := Value.int .i64) (q := q) (ys := (l.filter fun x => !outB n x) ++ List.replicate (l.length - (l.filter fun x => !outB n x).length) 0) h (by simp; omega) hf
  rw [List.take_left] at this
  exact this
set_option maxHeartbeats 1600000 in
theorem to_c (A : Option Addr) (n cap : Nat) (L : Nat → Nat) (m : Nat → Nat → Int) (a : Nat) (w : World) (hG : GR w A n L m) (ha : a < n) (hL : L a ≤ 1000000) :
    Calls Try.prog 24 #[.slice A n cap, .int .i64 a] w (ToPost (toL n L m a) w) := by
  obtain ⟨ad, R, C, rfl, h1, h2, h3⟩ := hG.2 (by omega)
  obtain ⟨c1, c2, c3⟩ := h1 a ha
  have hn2 := hG.1
  have had : decide (a < n) = true := decide_eq_true ha
  have HB0 : Hid (∀ o, (w.alloc o).cell? (ad.add a) = some (.slice (R a) (L a) (C a))) := Lib.hid (fun o => cell?_alloc_some _ c1)
  obtain ⟨Ra, hRa⟩ : ∃ x, R a = x := ⟨_, rfl⟩
  obtain ⟨La, hLa⟩ : ∃ x, L a = x := ⟨_, rfl⟩
  obtain ⟨Ca, hCa⟩ : ∃ x, C a = x := ⟨_, rfl⟩
  have hrl : (rowL L m a).length = La := by unfold rowL; simp [hLa]
  have H0 := Lib.hid h2
  have H3 := Lib.hid h3
  rw [hRa, hLa, hCa] at HB0
  rw [hLa] at hL c2
  have e0 : (w.alloc (.cells #[.slice (some ad) n cap] 22)).cell? ⟨w.heap.size, 0, none⟩ = some (.slice (some ad) n cap) := by simp [go_sem]
  clear h1 h2 h3 c1 hG
  have htl : toL n L m a = (rowL L m a).filter fun x => !outB n x := rfl
  have hk : ∀ v w1, (Below w.heap.size w w1 ∧ w.heap.size < w1.heap.size ∧ w1.cell? ⟨w.heap.size, 0, none⟩ = some (.slice (some ad) n cap) ∧ IL w1 (w.heap.size + 1) v (rowL L m a)) → Calls Try.prog 35 #[v, .func (.func (37)) #[] #[.pointer (some ⟨w.heap.size, 0, none⟩)]] w1 (ToPost (toL n L m a) w) := by
    rintro v w1 ⟨g1, g2, g3, g4⟩
    rcases g4.2 with ⟨q, q2⟩ | ⟨g, cap', cur, q, hbg, _⟩
    · have hnil : rowL L m a = [] := List.eq_nil_of_length_eq_zero q2
      subst q
      rw [htl, hnil]
      refine (del0_c none 0 _ _ w1).mono ?_
      rintro e w' ⟨rfl, rfl⟩
      exact ⟨none, 0, rfl, ⟨rfl, .inl ⟨rfl, rfl⟩⟩, g1⟩
    · subst q
      rw [htl]
      refine (del_c n cap (some ad) w.heap.size g cap' (rowL L m a) (w.heap.size + 1) w1 g2 g3 (by omega) hbg g4).mono ?_
      rintro e w' ⟨rfl, k1, k2⟩
      refine ⟨some ⟨g, 0, none⟩, cap', rfl, World.ownsRow.mono k1 (by omega), ?_⟩
      exact g1.trans (k2.mono (by omega))
  have HK := Lib.hid hk
  clear hk htl
  by_cases h0 : La = 0
  · subst h0
    have hnil : rowL L m a = [] := List.eq_nil_of_length_eq_zero hrl
    cases Ra with
    | none =>
      have HC := Try.slices_Clone_int_nil 0 Ca (w.alloc (.cells #[.slice (some ad) n cap] 22))
      have hcell := HB0.out
      go_enter Try.func24, Try.ntmps24
      go_wp2_with (first | (go_at_call 36; refine HC.mono ?_; rintro e w' ⟨rfl, rfl⟩) | (go_at_call 35; refine (HK.out (.slice none 0 0) _ ⟨(by repeat' (first | exact Below.refl _ _ | (refine Below.alloc ?_ ?_ _) | (refine Below.setCell ?_ ?_ _) | (refine Below.drew ?_) | (refine below_next ?_ ?_ (by assumption)) | omega | (simp; done) | (simp; omega))), by simp, e0, by rw [hnil]; exact ⟨rfl, .inl ⟨rfl, rfl⟩⟩⟩).mono ?_; rintro e w' ⟨B, c, rfl, k1, k2⟩; have K := Lib.hid (And.intro k1 k2); clear k1 k2))
      go_ret
      exact ⟨B, c, rfl, K.out.1, K.out.2⟩
    | some r =>
      have HC := Try.slices_Clone_int_zero r Ca (w.alloc (.cells #[.slice (some ad) n cap] 22))
      have hcell := HB0.out
      go_enter Try.func24, Try.ntmps24
      go_wp2_with (first | (go_at_call 36; refine HC.mono ?_; rintro e w1 ⟨v, rfl, ho, _, hb⟩; have HO := Lib.hid (And.intro ho hb); have e1 := (hb.cell (p := ⟨w.heap.size, 0, none⟩) (by simp)).trans e0; have hz := hb.size; (try simp at hz); clear ho hb) | (go_at_call 35; refine (HK.out v _ ⟨below_next ((by repeat' (first | exact Below.refl _ _ | (refine Below.alloc ?_ ?_ _) | (refine Below.setCell ?_ ?_ _) | (refine Below.drew ?_) | (refine below_next ?_ ?_ (by assumption)) | omega | (simp; done) | (simp; omega))) : Below w.heap.size w (w.alloc (.cells #[.slice (some ad) n cap] 22))) (by simp) HO.out.2, by omega, e1, by rw [hnil]; have := HO.out.1; unfold IL; simpa using this⟩).mono ?_; rintro e w' ⟨B, c, rfl, k1, k2⟩; have K := Lib.hid (And.intro k1 k2); clear k1 k2))
      go_ret
      exact ⟨B, c, rfl, K.out.1, K.out.2⟩
  · obtain ⟨r, q1, q2⟩ := H3.out a 0 ha (by omega)
    rw [hRa] at q1
    subst q1
    obtain ⟨rb, ro, rfl⟩ : ∃ b o, r = ⟨b, o, none⟩ := ⟨_, _, spot_none (p := r) q2⟩
    have HC := Try.slices_Clone_int rb ro La Ca (rowL L m a) (w.alloc (.cells #[.slice (some ad) n cap] 22)) (by omega) (by omega) (fun j hj => by
      obtain ⟨r', q3, q4⟩ := H3.out a j ha (by omega)
      rw [hRa] at q3
      cases q3
      rw [show rowL L m a = (List.range (L a)).map (m a) from rfl, List.getD_eq_getElem?_getD, List.getElem?_map, List.getElem?_range (by omega), ← add_plain]
      exact cell?_alloc_some _ q4)
    have hcell := HB0.out
    rw [List.take_of_length_le (by omega)] at HC
    go_enter Try.func24, Try.ntmps24
    go_wp2_with (first | (go_at_call 36; refine HC.mono ?_; rintro e w1 ⟨v, rfl, ho, _, hb⟩; have HO := Lib.hid (And.intro ho hb); have e1 := (hb.cell (p := ⟨w.heap.size, 0, none⟩) (by simp)).trans e0; have hz := hb.size; (try simp at hz); clear ho hb) | (go_at_call 35; refine (HK.out v _ ⟨below_next ((by repeat' (first | exact Below.refl _ _ | (refine Below.alloc ?_ ?_ _) | (refine Below.setCell ?_ ?_ _) | (refine Below.drew ?_) | (refine below_next ?_ ?_ (by assumption)) | omega | (simp; done) | (simp; omega))) : Below w.heap.size w (w.alloc (.cells #[.slice (some ad) n cap] 22))) (by simp) HO.out.2, by omega, e1, by have := HO.out.1; unfold IL; rw [hrl]; simpa using this⟩).mono ?_; rintro e w' ⟨B, c, rfl, k1, k2⟩; have K := Lib.hid (And.intro k1 k2); clear k1 k2))
    go_ret
    exact ⟨B, c, rfl, K.out.1, K.out.2⟩
end Go.Proofs.Ytacdeollnhkckaa.C
