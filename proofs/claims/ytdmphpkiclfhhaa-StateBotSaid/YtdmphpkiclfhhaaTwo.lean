/- A region that draws its order and stores twice: its reads by one walk in the text's order, then the first store, then the rest. What must come ahead of the first store reads the world as it was; what may come behind it reads what the store leaves alone. Over any program. -/
import Derived.Test.YtdmphpkiclfhhaaWords
import Derived.Deep.RegionHeld3
namespace Go.Proofs.Ytdmphpkiclfhhaa.C
open Go.RowKit
set_option linter.unusedVariables false
section
variable {P : Program} {ops : Array Oper} {md : Region.Mode} {Q : Exit → Act → World → Prop}
/-- In state a, in every world of the class, the operation leaves v in its slot, and the very world that it got. -/
def YldSame (P : Program) (ops : Array Oper) (C : World → Prop) (o : Oper) (v : Value) (a : Act) : Prop :=
  (Region.wanted o (yielded ops a.tmps) = true ∧ ∀ w, C w → o.quietAt P a (fun w'' => w'' = w) w v) ∨ (Region.wanted o (yielded ops a.tmps) = false ∧ v = undef)
theorem YldSame.of_same {C : World → Prop} {o : Oper} {v : Value} {a a' : Act} (hy : YldSame P ops C o v a) (he : execOp a'.eval o = execOp a.eval o)
    (hw : Region.wanted o (yielded ops a'.tmps) = Region.wanted o (yielded ops a.tmps)) : YldSame P ops C o v a' := by
  unfold YldSame Oper.quietAt at *
  rw [he, hw]
  exact hy
theorem YldSame.wpOp {C : World → Prop} {i : Nat} {o : Oper} {v : Value} {a : Act} (hi : ops[i]? = some o) (hy : YldSame P ops C o v a) {K : Act → World → Prop} {w : World} (hw : C w) (h : K (a.put o.dst v) w) : wpOp P ops Q i K a w := by
  have h1 : YieldsIn P ops (fun w'' => w'' = w) o v a := hy.imp (fun ⟨q1, q2⟩ => ⟨q1, fun w0 e => by subst e; exact q2 _ hw⟩) id
  exact wpOp_of_qOp (C := fun w'' => w'' = w) rfl (fun a' w' e (ha : a' = a.put o.dst v) => by subst e; subst ha; exact h) (h1.qOp hi rfl)
/-- An operation apart from another one: whether that one's value is in its slot already makes no difference. -/
theorem wpOp_putR {j : Nat} {oi oj : Oper} {v : Value} {R : Act → Prop} (hj : ops[j]? = some oj) (hap : oi.apart ops oj = true)
    (hsi : ∀ cs b, oi.op ≠ .select cs b) (hsj : ∀ cs b, oj.op ≠ .select cs b) (hQ : ∀ c (a : Act) d v w, Q (.panic c) (a.put d v) w → Q (.panic c) a w)
    (hR : ∀ a a' : Act, R a → execOp a'.eval oi = execOp a.eval oi → Region.wanted oi (yielded ops a'.tmps) = Region.wanted oi (yielded ops a.tmps) → R a') {K : Act → World → Prop} {a : Act} {w : World}
    (hy : R a) (h : wpOp P ops Q j K (a.put oi.dst v) w) : wpOp P ops Q j (fun a' w' => R a' ∧ K (a'.put oi.dst v) w') a w := by
  obtain ⟨h1, h2, h3⟩ := Oper.apart_spec hap
  have keep : ∀ (a : Act), R a → ∀ u, R (a.put oj.dst u) := fun a hy u => hR _ _ hy (execOp_put oi hsi a oj.dst u h3) (wanted_put oi a oj.dst u h3)
  have keepD : ∀ d, R { a with defers := d :: a.defers } := fun d => hR _ _ hy rfl rfl
  unfold Go.wpOp at *
  simp only [hj] at *
  rw [wanted_put oj a oi.dst v h1] at h
  split
  · rename_i hw
    simp only [hw, if_true] at h
    rcases h with h | ⟨hasks, hlets⟩
    case inr => exact .inr ⟨by unfold Oper.asks at *; rw [execOp_put oj hsj a oi.dst v h1] at hasks; exact hasks, hlets⟩
    refine .inl ?_
    unfold Oper.wp at *
    rw [execOp_put oj hsj a oi.dst v h1] at h
    generalize (execOp a.eval oj).run P w = r at *
    cases r with
    | ok n w' =>
      cases n <;> simp only [Oper.upon] at h ⊢
      case value u => exact ⟨keep a hy u, by rw [← Act.put_comm a v u h2]; exact h⟩
      case skip => exact ⟨keep a hy _, by rw [← Act.put_comm a v undef h2]; exact h⟩
      case defer d =>
        refine ⟨keep _ (keepD d) _, ?_⟩
        rw [← Act.put_comm _ v undef h2, ← Act.put_defers]
        exact h
      case enter f args =>
        refine Calls.mono h fun e w'' he => ?_
        cases e with
        | returned u => exact ⟨keep a hy u, by rw [← Act.put_comm a v u h2]; exact he⟩
        | panicked c => exact hQ _ _ _ _ _ he
        | outgrown => exact he
      case row row args => exact Rows.mono h fun u w'' he => ⟨keep a hy u, by rw [← Act.put_comm a v u h2]; exact he⟩
    | halt x w' =>
      cases x <;> simp only [Oper.upon] at h ⊢
      case panic u => exact hQ _ _ _ _ _ h
  · rename_i hw
    simp only [hw] at h
    exact ⟨keep a hy _, by rw [← Act.put_comm a v undef h2]; exact h⟩
/-- What is known of the world while something is left to be read. -/
def TwoW (n : Nat) (w0 : World) (A : World → Prop) (L : Array Bool) (w : World) : Prop := (L.getD n true = false → w = w0) ∧ A w
/-- The operations up to the first store (number n), in whatever order; behind them K. -/
def headT (P : Program) (md : Region.Mode) (ops : Array Oper) (Q : Exit → Act → World → Prop) (n : Nat) (w0 : World) (A : World → Prop) (K : Array Bool → Act → World → Prop) : Nat → Array Bool → Act → World → Prop
  | 0, L, a, w => K L a w
  | f + 1, L, a, w => Region.ready md ops L ≠ [] ∧ ∀ i ∈ Region.ready md ops L, i ≤ n ∧ wpOp P ops Q i (fun a' w' => TwoW n w0 A (L.setIfInBounds i true) w' ∧ headT P md ops Q n w0 A K f (L.setIfInBounds i true) a' w') a w
theorem headT_any {n g : Nat} {w0 : World} {A : World → Prop} {K : Array Bool → Act → World → Prop} (hK : ∀ L a w, K L a w → wpAny P md ops Q g L a w) :
    ∀ (f : Nat) (L : Array Bool) (a : Act) (w : World), headT P md ops Q n w0 A K f L a w → wpAny P md ops Q (f + g) L a w
  | 0, L, a, w, h => by rw [Nat.zero_add]; exact hK _ _ _ h
  | f + 1, L, a, w, h => by
    rw [show f + 1 + g = (f + g) + 1 by omega]
    exact ⟨fun h0 => absurd h0 h.1, fun i hi => wpOp_mono (fun a' w' h' => headT_any hK f _ a' w' h'.2) (h.2 i hi).2⟩
theorem headT_first {n i : Nat} {oi : Oper} {v : Value} {w0 : World} {A C : World → Prop} {K : Array Bool → Act → World → Prop} (hi : ops[i]? = some oi) (hsel : ∀ (j : Nat) (o : Oper) cs b, ops[j]? = some o → o.op ≠ .select cs b)
    (hQ : ∀ c (a : Act) d v w, Q (.panic c) (a.put d v) w → Q (.panic c) a w) (hs : Region.sinkB md ops (n + 1) = true) (hc : Region.chainB md ops (n + 1) = true) (hn : n + 1 < ops.size) (hin : i < n)
    (hdone : ∀ L a w, K L a w → ∀ j ∈ Region.ready md ops L, n + 1 ≤ j)
    (hC : ∀ L w, HeadInv md ops (n + 1) L → L.getD i true = false → TwoW n w0 A L w → C w) :
    ∀ (f : Nat) (L : Array Bool) (a : Act) (w : World), HeadInv md ops (n + 1) L →
      (∀ j oj, ops[j]? = some oj → j ≠ i → L.getD j true = false → (∀ e ∈ oj.after, Region.binds md e = true → e.on ≠ i) → oi.apart ops oj = true) →
      i ∈ Region.ready md ops L → YldSame P ops C oi v a → TwoW n w0 A L w →
      headT P md ops Q n w0 A K f (L.setIfInBounds i true) (a.put oi.dst v) w → headT P md ops Q n w0 A K (f + 1) L a w := by
  have hT : ∀ (L : Array Bool) (w : World), TwoW n w0 A (L.setIfInBounds i true) w ↔ TwoW n w0 A L w := fun L w => by unfold TwoW; rw [getD_set_ne true (by omega)]
  intro f
  induction f with
  | zero =>
    intro L a w inv _ hr hy hw H
    have hun := (mem_ready.1 hr).1
    refine ⟨fun h => (by rw [h] at hr; cases hr), fun j hj => ?_⟩
    have hjn : j < n + 1 := by
      rcases Nat.lt_or_ge j (n + 1) with h | h
      · exact h
      · exact absurd hj (tail_waits hs hc hn inv _ i rfl (by omega) hun j h)
    refine ⟨by omega, ?_⟩
    by_cases hji : j = i
    · subst hji; exact hy.wpOp hi (hC L w inv hun hw) ⟨(hT L w).2 hw, H⟩
    · have := hdone _ _ _ H j (ready_mono hj hji)
      omega
  | succ f ih =>
    intro L a w inv hfree hr hy hw H
    have hun := (mem_ready.1 hr).1
    refine ⟨fun h => (by rw [h] at hr; cases hr), fun j hj => ?_⟩
    have hjn : j < n + 1 := by
      rcases Nat.lt_or_ge j (n + 1) with h | h
      · exact h
      · exact absurd hj (tail_waits hs hc hn inv _ i rfl (by omega) hun j h)
    refine ⟨by omega, ?_⟩
    by_cases hji : j = i
    · subst hji; exact hy.wpOp hi (hC L w inv hun hw) ⟨(hT L w).2 hw, H⟩
    · have h1 := (H.2 j (ready_mono hj hji)).2
      obtain ⟨hjun, oj, hoj, hall⟩ := mem_ready.1 hj
      have hnot : ∀ e ∈ oj.after, Region.binds md e = true → e.on ≠ i := fun e he hb heq => by
        have h1 := hall e he hb
        rw [heq, getD_both hun] at h1
        cases h1
      have h2 := wpOp_putR (R := fun a => YldSame P ops C oi v a) hoj (hfree j oj hoj hji hjun hnot) (fun cs b => hsel i oi cs b hi) (fun cs b => hsel j oj cs b hoj) hQ (fun _ _ h he hw => h.of_same he hw) hy h1
      have hfree' : ∀ k ok, ops[k]? = some ok → k ≠ i → (L.setIfInBounds j true).getD k true = false →
          (∀ e ∈ ok.after, Region.binds md e = true → e.on ≠ i) → oi.apart ops ok = true := fun k ok hk hki hun hno => by
        refine hfree k ok hk hki ?_ hno
        by_cases hjk : j = k
        · subst hjk; exact hjun
        · rw [getD_set_ne true hjk] at hun; exact hun
      refine wpOp_mono (fun a' w' h3 => ?_) h2
      have hcm : (L.setIfInBounds j true).setIfInBounds i true = (L.setIfInBounds i true).setIfInBounds j true := Array.setIfInBounds_comm _ _ hji
      have h4 : TwoW n w0 A (L.setIfInBounds j true) w' := by
        rw [← hT, hcm]; exact h3.2.1
      refine ⟨h4, ih (L.setIfInBounds j true) a' w' (inv.set hj hjn) hfree' (ready_mono hr (Ne.symm hji)) h3.1 h4 ?_⟩
      rw [hcm]
      exact h3.2.2
/-- May it come behind the first store? It reads alone. -/
def lateKind (o : Oper) : Bool := match o.op with | .move _ => true | .load .. => true | .fieldAddr .. => true | .indexAddr .. => true | .slice .. => true | .unOp .. => true | .binOp .. => true | .call c => (match c.callee with | .builtin .min => true | .builtin .max => true | .builtin .len => true | _ => false) | _ => false
theorem no_enter {s : Sem Value} {w w' : World} {f : FuncId} {args : Array Value} : ((do pure (Next.value (← s))) : Sem Next).run P w ≠ .ok (.enter f args) w' := by
  intro h
  simp only [Sem.run_bind] at h
  cases hs : s.run P w with
  | ok v w2 => rw [hs] at h; simp [Result.andThen] at h
  | halt x w2 => rw [hs] at h; simp [Result.andThen] at h
theorem no_enter2 {r : Result Value} {w' : World} {f : FuncId} {args : Array Value} : r.andThen (fun a w' => Result.ok (Next.value a) w') ≠ .ok (.enter f args) w' := by
  cases r <;> simp [Result.andThen]
theorem late_same {o : Oper} (hk : lateKind o = true) {a : Act} {C : World → Prop} {w : World} {v : Value} (h : o.quietAt P a C w v) : o.quietAt P a (fun w'' => w'' = w) w v := by
  unfold Oper.quietAt at *
  have hne : ∀ f args w', (execOp a.eval o).run P w ≠ .ok (.enter f args) w' := by
    intro f args w' q
    unfold lateKind at hk
    unfold execOp at q
    cases ho : o.op <;> rw [ho] at hk q
    case call c =>
      obtain ⟨cal, args, at_⟩ := c
      cases cal
      case builtin b =>
        cases b <;> simp only at hk <;> first | (cases hk; done) | (simp only [resolve, invoke, builtin, Sem.run_bind, Sem.run_pure, Result.andThen_ok] at q; exact no_enter2 q)
      all_goals simp only at hk; cases hk
    all_goals (simp only at hk q; first | (cases hk; done) | (simp at q; done) | exact no_enter q)
  generalize (execOp a.eval o).run P w = r at *
  cases r with
  | ok n w' => cases n <;> simp only [Oper.quietUpon] at h ⊢ <;> first | exact h | exact absurd rfl (hne _ _ _)
  | halt x w' => exact h
/-- The classes: ahead of the first store; at any time. -/
def twoC (w0 : World) (A : World → Prop) (b : Bool) : World → Prop := if b then (fun w => ∃ x : WIn (fun w => w = w0), w = x.w) else (fun w => ∃ x : WIn A, w = x.w)
def wpFlat (P : Program) (ops : Array Oper) (w0 : World) (A : World → Prop) (K : Act → Prop) : List (Bool × Oper) → Act → Prop
  | [], a => K a
  | (b, o) :: r, a => if Region.wanted o (yielded ops a.tmps) then ∃ v, (∀ w, twoC w0 A b w → o.quietAt P a (twoC w0 A b) w v) ∧ wpFlat P ops w0 A K r (a.put o.dst v) else wpFlat P ops w0 A K r (a.put o.dst undef)
/-- Stretches of operations: true: ahead of the first store; false: they may come behind it. -/
def wpSeg (P : Program) (ops : Array Oper) (w0 : World) (A : World → Prop) (K : Act → Prop) : List (Bool × List Oper) → Act → Prop
  | [], a => K a
  | (b, l) :: r, a => wpQuiet P ops (twoC w0 A b) (wpSeg P ops w0 A K r) l a
def flatSegs : List (Bool × List Oper) → List (Bool × Oper)
  | [] => []
  | (b, l) :: r => l.map (fun o => (b, o)) ++ flatSegs r
theorem flat_of_quiet {w0 : World} {A : World → Prop} {K : Act → Prop} {b : Bool} {r : List (Bool × Oper)} : ∀ (l : List Oper) (a : Act), wpQuiet P ops (twoC w0 A b) (wpFlat P ops w0 A K r) l a → wpFlat P ops w0 A K (l.map (fun o => (b, o)) ++ r) a
  | [], _, h => h
  | o :: l, a, h => by
    show if _ then _ else _
    have h' : if Region.wanted o (yielded ops a.tmps) then o.quiet P a (twoC w0 A b) (wpQuiet P ops (twoC w0 A b) (wpFlat P ops w0 A K r) l) else wpQuiet P ops (twoC w0 A b) (wpFlat P ops w0 A K r) l (a.put o.dst undef) := h
    split
    · rename_i hw
      rw [if_pos hw] at h'
      obtain ⟨v, h1, h2⟩ := h'
      exact ⟨v, h1, flat_of_quiet l _ h2⟩
    · rename_i hw
      rw [if_neg hw] at h'
      exact flat_of_quiet l _ h'
theorem quiet_mono2 {C : World → Prop} {K K' : Act → Prop} (hk : ∀ a, K a → K' a) : ∀ (l : List Oper) (a : Act), wpQuiet P ops C K l a → wpQuiet P ops C K' l a
  | [], _, h => hk _ h
  | o :: l, a, h => by
    have h' : if Region.wanted o (yielded ops a.tmps) then o.quiet P a C (wpQuiet P ops C K l) else wpQuiet P ops C K l (a.put o.dst undef) := h
    show if _ then _ else _
    split
    · rename_i hw; rw [if_pos hw] at h'; exact Oper.quiet_mono (fun a => quiet_mono2 hk l a) h'
    · rename_i hw; rw [if_neg hw] at h'; exact quiet_mono2 hk l _ h'
theorem flat_of_seg {w0 : World} {A : World → Prop} {K : Act → Prop} : ∀ (r : List (Bool × List Oper)) (a : Act), wpSeg P ops w0 A K r a → wpFlat P ops w0 A K (flatSegs r) a
  | [], _, h => h
  | (b, l) :: r, a, h => flat_of_quiet l a (quiet_mono2 (fun a => flat_of_seg r a) l a h)
/-- The check: each in its turn may come up and is free; the flags are right; behind all the store, then the tail. -/
def lexTwo (md : Region.Mode) (ops : Array Oper) (n g : Nat) : List (Bool × Oper) → Nat → Array Bool → Bool
  | [], k, L => decide (k = n) && decide (Region.ready md ops L = [n]) && Region.seqB md ops g (n + 1) (L.setIfInBounds n true)
  | (b, o) :: r, k, L => decide (k < n) && (Region.ready md ops L).contains k && Region.free md ops L k && (if b then Region.waitsFor md ops n k else lateKind o) && lexTwo md ops n g r (k + 1) (L.setIfInBounds k true)
theorem early_world {n i : Nat} {w0 : World} {A : World → Prop} (hw : Region.waitsFor md ops n i = true) : ∀ L w, HeadInv md ops (n + 1) L → L.getD i true = false → TwoW n w0 A L w → ∃ x : WIn (fun w => w = w0), w = x.w := fun L w inv hun ht => by
  obtain ⟨on, hon, e, he, hb, heq⟩ := Region.waitsFor_spec hw
  have hl : L.getD n true = false := by
    cases hq : L.getD n false with
    | true =>
      have := inv.closed n on hon hq e he hb
      rw [heq, getD_both hun] at this
      cases this
    | false => exact getD_in (by rw [inv.size]; exact (Array.getElem?_eq_some_iff.1 hon).1) hq
  exact ⟨⟨w, ht.1 hl⟩, rfl⟩
theorem headT_lex {n g : Nat} {w0 : World} {A : World → Prop} {Kt : Act → World → Prop} (hA : A w0) (hsel : Region.noSelect ops = true) (hQ : ∀ c (a : Act) d v w, Q (.panic c) (a.put d v) w → Q (.panic c) a w) (hs : Region.sinkB md ops (n + 1) = true) (hc : Region.chainB md ops (n + 1) = true) (hn : n + 1 < ops.size) :
    ∀ (l : List (Bool × Oper)) (k : Nat) (L : Array Bool) (a : Act), (∀ j b o, l[j]? = some (b, o) → ops[k + j]? = some o) → HeadInv md ops (n + 1) L → L.getD n true = false → lexTwo md ops n g l k L = true →
    wpFlat P ops w0 A (fun a' => wpOp P ops Q n (fun a'' w'' => A w'' ∧ Kt a'' w'') a' w0) l a →
    headT P md ops Q n w0 A (fun L' a' w' => Region.seqB md ops g (n + 1) L' = true ∧ Kt a' w') (l.length + 1) L a w0
  | [], k, L, a, _, inv, hnL, hB, h => by
    simp only [lexTwo, Bool.and_eq_true, decide_eq_true_eq] at hB
    obtain ⟨⟨rfl, hr⟩, hq⟩ := hB
    refine ⟨by rw [hr]; simp, fun i hi => ?_⟩
    rw [hr] at hi
    obtain rfl : i = k := by simpa using hi
    have h2 : wpOp P ops Q i (fun a'' w'' => A w'' ∧ Kt a'' w'') a w0 := h
    refine ⟨Nat.le_refl _, wpOp_mono (fun a' w' h' => ⟨⟨fun q => ?_, h'.1⟩, hq, h'.2⟩) h2⟩
    have hin : i < L.size := by
      rw [inv.size]; omega
    simp [hin] at q
  | (b, o) :: l, k, L, a, hl, inv, hnL, hB, h => by
    have h0 : ops[k]? = some o := by simpa using hl 0 b o rfl
    simp only [lexTwo, Bool.and_eq_true, decide_eq_true_eq] at hB
    obtain ⟨⟨⟨⟨hkn, hr⟩, hf⟩, hb⟩, hB'⟩ := hB
    have hr' : k ∈ Region.ready md ops L := by simpa using hr
    have hl' : ∀ j b' o', l[j]? = some (b', o') → ops[k + 1 + j]? = some o' := fun j b' o' hj => by
      have := hl (j + 1) b' o' (by simpa using hj)
      rwa [show k + (j + 1) = k + 1 + j by omega] at this
    have hnL' : (L.setIfInBounds k true).getD n true = false := by rw [getD_set_ne true (by omega)]; exact hnL
    have hdone : ∀ L' (a' : Act) (w' : World), (Region.seqB md ops g (n + 1) L' = true ∧ Kt a' w') → ∀ j ∈ Region.ready md ops L', n + 1 ≤ j := fun L' a' w' hq => seqB_ready hq.1
    have hTw : TwoW n w0 A L w0 := ⟨fun _ => rfl, hA⟩
    have h' : if Region.wanted o (yielded ops a.tmps) then ∃ v, (∀ w, twoC w0 A b w → o.quietAt P a (twoC w0 A b) w v) ∧ wpFlat P ops w0 A _ l (a.put o.dst v) else wpFlat P ops w0 A _ l (a.put o.dst undef) := h
    have hY : ∃ v, YldSame P ops (twoC w0 A b) o v a ∧ wpFlat P ops w0 A (fun a' => wpOp P ops Q n (fun a'' w'' => A w'' ∧ Kt a'' w'') a' w0) l (a.put o.dst v) := by
      by_cases hw : Region.wanted o (yielded ops a.tmps) = true
      · rw [if_pos hw] at h'
        obtain ⟨v, h1, h2⟩ := h'
        refine ⟨v, .inl ⟨hw, fun w hC => ?_⟩, h2⟩
        cases b with
        | true =>
          have h3 := h1 w hC
          obtain ⟨x, rfl⟩ : ∃ x : WIn (fun w => w = w0), w = x.w := hC
          unfold Oper.quietAt at *
          generalize (execOp a.eval o).run P x.w = r at *
          cases r with
          | ok n w' => cases n <;> simp only [Oper.quietUpon] at h3 ⊢ <;> first | exact h3 | exact ⟨h3.1, h3.2.mono fun e w'' ⟨q1, q2⟩ => ⟨q1, by obtain ⟨y, rfl⟩ : ∃ y : WIn (fun w => w = w0), w'' = y.w := q2; exact y.h.trans x.h.symm⟩⟩
          | halt x w' => exact h3
        | false => exact late_same hb (h1 w hC)
      · rw [if_neg hw] at h'
        exact ⟨undef, .inr ⟨by simpa using hw, rfl⟩, h'⟩
    obtain ⟨v, hy, hK⟩ := hY
    refine headT_first (C := twoC w0 A b) h0 (Region.noSelect_spec hsel) hQ hs hc hn hkn hdone ?_ _ L a w0 inv (Region.free_spec h0 hf) hr' hy hTw (headT_lex hA hsel hQ hs hc hn l (k + 1) _ _ hl' (inv.set hr' (by omega)) hnL' hB' hK)
    intro L' w' inv' hun' ht'
    cases b with
    | true => exact early_world hb L' w' inv' hun' ht'
    | false => exact ⟨⟨w', ht'.2⟩, rfl⟩
/-- The check over a region. -/
def Region.twoB (md : Region.Mode) (ops : Array Oper) (n : Nat) (segs : List (Bool × List Oper)) : Bool :=
  Region.noSelect ops && decide (n + 1 < ops.size) && Region.sinkB md ops (n + 1) && Region.chainB md ops (n + 1) && lexTwo md ops n (ops.size - (n + 1)) (flatSegs segs) 0 (Array.replicate ops.size false)
theorem region_two {id : Nat} {a : Act} {w : World} {l : List Oper} (n : Nat) (A : World → Prop) (segs : List (Bool × List Oper)) (hm : P.follows .mixedOrders = true) (hB : Region.twoB .any l.toArray n segs = true) (hl : (flatSegs segs).map Prod.snd = l.take n)
    (hA : A w.drew)
    (h : Nonempty (WIn (fun w' => w' = w.drew)) → Nonempty (WIn A) → wpSeg P l.toArray w.drew A (fun a' => wpOp P l.toArray (NoPanic Q) n (fun a'' w'' => A w'' ∧ wpList P l.toArray (NoPanic Q) (l.drop (n + 1)) a'' w'') a' w.drew) segs a) : (Code.region id l.toArray true).wp P Q a w := by
  have h := h ⟨⟨w.drew, rfl⟩⟩ ⟨⟨w.drew, hA⟩⟩
  refine wp_region_noPanic ?_
  have hQ : ∀ c (a : Act) d v w, NoPanic Q (.panic c) (a.put d v) w → NoPanic Q (.panic c) a w := fun _ _ _ _ _ h => h
  simp only [Region.twoB, Bool.and_eq_true, decide_eq_true_eq] at hB
  obtain ⟨⟨⟨⟨hsel, hn⟩, hs⟩, hc⟩, hlex⟩ := hB
  have hn' : n + 1 < l.length := by simpa using hn
  have hlen : (flatSegs segs).length = n := by
    have := congrArg List.length hl
    simp at this
    omega
  have inv0 : HeadInv .any l.toArray (n + 1) (Array.replicate l.toArray.size false) :=
    ⟨by simp, fun j oj _ hl => (by rw [getD_replicate_false] at hl; cases hl), fun t _ ht => getD_in (by simpa using ht) (getD_replicate_false _ _)⟩
  have H := headT_lex (P := P) (Q := NoPanic Q) (Kt := fun a'' w'' => wpList P l.toArray (NoPanic Q) (l.drop (n + 1)) a'' w'') hA hsel hQ hs hc hn (flatSegs segs) 0 _ a (fun j b o hj => by
    have h1 : ((flatSegs segs).map Prod.snd)[j]? = some o := by rw [List.getElem?_map, hj]; rfl
    rw [hl, List.getElem?_take] at h1
    split at h1
    · simpa using h1
    · cases h1) inv0 (getD_in (by simp; omega) (getD_replicate_false _ _)) hlex (flat_of_seg segs a h)
  refine wp_region_any hm ?_
  have := headT_any (g := l.toArray.size - (n + 1)) (fun L a' w' hL => by
    have := wpAny_of_seq (md := .any) (Q' := NoPanic Q) (l.drop (n + 1)) (n + 1) L a' w' (fun j => by simp [List.getElem?_drop]) (by
      have hd : (l.drop (n + 1)).length = l.toArray.size - (n + 1) := by simp
      rw [hd]; exact hL.1) hL.2
    have hd : (l.drop (n + 1)).length = l.toArray.size - (n + 1) := by simp
    rwa [hd] at this) _ _ _ w.drew H
  rw [hlen, show n + 1 + (l.toArray.size - (n + 1)) = l.toArray.size by omega] at this
  exact this
end
end Go.Proofs.Ytdmphpkiclfhhaa.C
